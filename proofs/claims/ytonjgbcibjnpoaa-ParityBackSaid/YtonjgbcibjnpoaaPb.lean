/- What the field's functions answer, as contracts over this program. -/
import Derived.Test.YtonjgbcibjnpoaaGx
import Derived.Test.YtonjgbcibjnpoaaGfRef
import Derived.Test.YtonjgbcibjnpoaaSc
import Derived.Test.YtonjgbcibjnpoaaWk
import Derived.Laws.BitsLemmas
namespace Go.Proofs.Ytonjgbcibjnpoaa.Pb
open Go.Proofs.YtonjgbcibjnpoaaW.PrintMore Go.RowKit Go.Proofs.Ytonjgbcibjnpoaa.PParityOf Go.Proofs.YtonjgbcibjnpoaaW.PrintWords Go.Proofs.YtonjgbcibjnpoaaW.PrintLast Go.Proofs.Ytonjgbcibjnpoaa.Gf

theorem xor8 {a b : Nat} (ha : a < 256) (hb : b < 256) : Go.bits .xor .u8 (a : Int) (b : Int) = ((a ^^^ b : Nat) : Int) := by
  have h := xor_lt ha hb
  have e : (BitVec.ofNat 8 a ^^^ BitVec.ofNat 8 b).toNat = a ^^^ b := by
    rw [BitVec.toNat_xor, BitVec.toNat_ofNat, BitVec.toNat_ofNat, Nat.mod_eq_of_lt (by omega), Nat.mod_eq_of_lt (by omega)]
  show IntKind.u8.wrap (((BitVec.ofInt 8 (a : Int) ^^^ BitVec.ofInt 8 (b : Int)).toNat : Nat) : Int) = _
  rw [BitVec.ofInt_natCast, BitVec.ofInt_natCast, e, IntKind.wrap_u8]
  omega

theorem and1_8 {b : Nat} (hb : b < 256) : Go.bits .and .u8 (b : Int) 1 = ((b % 2 : Nat) : Int) := by
  have h := bits_mask .u8 8 (by decide) wraps_u8 1 (by decide) (b : Int) (by omega) (by omega)
  rw [show (1 : Int) = 2 ^ 1 - 1 from rfl, h]; omega

theorem xt8 (a : Nat) : Go.bits .xor .u8 (((a : Int) * 2) % 256) ((((a : Int) / 128) * 29) % 256) = ((xt a : Nat) : Int) := by
  have h := xor8 (a := a * 2 % 256) (b := a / 128 * 29 % 256) (Nat.mod_lt _ (by decide)) (Nat.mod_lt _ (by decide))
  unfold xt
  rw [← h]
  congr 1

theorem mul_l0 (n : Nat) : ∀ (k a b o : Nat) (i : Int), i = 8 - (n : Int) → n ≤ 8 → n < k → a < 256 → b < 256 → o < 256 →
    gf_Mul.l0 k (a : Int) (b : Int) (o : Int) i = some ((mstep n a b o : Nat) : Int) := by
  induction n with
  | zero =>
    intro k a b o i hi _ hk _ _ _
    obtain ⟨k, rfl⟩ : ∃ m, k = m + 1 := ⟨k - 1, by omega⟩
    simp only [gf_Mul.l0]; rw [if_neg (by omega)]; rfl
  | succ n ih =>
    intro k a b o i hi hn hk ha hb ho
    obtain ⟨k, rfl⟩ : ∃ m, k = m + 1 := ⟨k - 1, by omega⟩
    have hw : wrap64 (i + 1) = i + 1 := by unfold wrap64; omega
    have hd : ((b : Int) / 2) = ((b / 2 : Nat) : Int) := by omega
    simp only [gf_Mul.l0]
    rw [if_pos (by omega), and1_8 hb, xt8 a, hw, hd, xor8 ho ha]
    by_cases h : b % 2 = 0
    · rw [if_pos (by omega), ih k _ _ _ _ (by omega) (by omega) (by omega) (xt_lt ha) (by omega) ho]
      simp [mstep, h]
    · rw [if_neg (by omega), ih k _ _ _ _ (by omega) (by omega) (by omega) (xt_lt ha) (by omega) (xor_lt ho ha)]
      simp [mstep, h]

theorem mul_f {k a b : Nat} (hk : 8 < k) (ha : a < 256) (hb : b < 256) : gf_Mul.f k (a : Int) (b : Int) = some ((gmul a b : Nat) : Int) := by
  unfold gf_Mul.f
  exact mul_l0 8 k a b 0 0 (by decide) (by decide) hk ha hb (by decide)

/-- Square and multiply. -/
theorem pow_l0 (d : Nat) : ∀ (k n o s : Nat), n ≤ d → n < 255 → d + 9 < k →
    gf_Pow.l0 k (n : Int) ((pw o : Nat) : Int) ((pw s : Nat) : Int) = some ((pw (o + n * s) : Nat) : Int) := by
  induction d with
  | zero =>
    intro k n o s hn hn' hk
    obtain ⟨k, rfl⟩ : ∃ m, k = m + 1 := ⟨k - 1, by omega⟩
    obtain rfl : n = 0 := by omega
    simp [gf_Pow.l0]
  | succ d ih =>
    intro k n o s hn hn' hk
    obtain ⟨k, rfl⟩ : ∃ m, k = m + 1 := ⟨k - 1, by omega⟩
    by_cases h0 : n = 0
    · subst h0; simp [gf_Pow.l0]
    · have hb : Go.bits .and .i64 (n : Int) 1 = ((n % 2 : Nat) : Int) := by
        have h := bits_mask .i64 63 (by decide) (fun m h0 h1 => by simp [IntKind.wrap, IntKind.bits, IntKind.signed] at *; omega) 1 (by decide) (n : Int) (by omega) (by omega)
        rw [show (1 : Int) = 2 ^ 1 - 1 from rfl, h]; omega
      have hd : ((n : Int) / 2) = ((n / 2 : Nat) : Int) := by omega
      simp only [gf_Pow.l0]
      rw [if_pos (by omega), hb, mul_f (by omega) (pw_lt s) (pw_lt s), mul_f (by omega) (pw_lt o) (pw_lt s), pw_add, pw_add, hd]
      simp only [Option.bind_some]
      by_cases h : n % 2 = 0
      · rw [if_pos (by omega), ih k _ _ _ (by omega) (by omega) (by omega)]
        congr 3
        have : n / 2 * (s + s) = n * s := by
          rw [← Nat.two_mul, ← Nat.mul_assoc, Nat.div_mul_cancel (Nat.dvd_of_mod_eq_zero h)]
        omega
      · rw [if_neg (by omega), ih k _ _ _ (by omega) (by omega) (by omega)]
        congr 3
        have e : n = 2 * (n / 2) + 1 := by omega
        have : n / 2 * (s + s) + s = n * s := by
          conv => rhs; rw [e, Nat.add_mul, Nat.one_mul]
          rw [← Nat.two_mul, ← Nat.mul_assoc, Nat.mul_comm (n/2) 2]
        omega

theorem pow_f {k : Nat} (n : Int) (hk : 300 < k) : gf_Pow.f k n = some ((pwZ n : Nat) : Int) := by
  have hl : ∀ m : Nat, m < 255 → gf_Pow.j0 k (m : Int) = some ((pw m : Nat) : Int) := by
    intro m hm
    obtain ⟨k, rfl⟩ : ∃ j, k = j + 1 := ⟨k - 1, by omega⟩
    simp only [gf_Pow.j0]
    have h := pow_l0 254 k m 0 1 (by omega) hm (by omega)
    rw [show 0 + m * 1 = m by omega] at h
    exact h
  unfold gf_Pow.f
  unfold pwZ
  have h1 := Int.tmod_eq_emod (a := n) (b := 255)
  have h3 : Int.natAbs 255 = 255 := rfl
  by_cases h : Int.tmod n 255 < 0
  · rw [if_pos h]
    have hw : wrap64 (Int.tmod n 255 + 255) = (((n % 255).toNat : Nat) : Int) := by
      unfold wrap64
      have h2 : 0 ≤ n % 255 := Int.emod_nonneg _ (by decide)
      split at h1 <;> omega
    rw [hw, hl _ (by omega)]
  · rw [if_neg h]
    have hw : Int.tmod n 255 = (((n % 255).toNat : Nat) : Int) := by
      have h2 : 0 ≤ n % 255 := Int.emod_nonneg _ (by decide)
      split at h1 <;> omega
    rw [hw, hl _ (by omega)]

/-- A byte of a row is a number below 256. -/
theorem byte_nat {a : Int} (h : (Lit.int .u8 a).wf = true) : ∃ n : Nat, n < 256 ∧ a = (n : Int) := by
  have h' : 0 ≤ a ∧ a ≤ 255 := by
    simp [Lit.wf, IntKind.min, IntKind.max, IntKind.bits, IntKind.signed] at h
    exact h
  exact ⟨a.toNat, by omega, by omega⟩

theorem u64_small {x : Int} (h0 : 0 ≤ x) (h1 : x < 64) : IntKind.u64.wrap x = x := by
  simp [IntKind.wrap, IntKind.bits, IntKind.signed]; omega

theorem shr8 (a i : Nat) (hi : i < 8) : shr .u8 (a : Int) (i : Int) = ((a / 2 ^ i : Nat) : Int) := by
  unfold shr
  rw [show min (i : Int).toNat IntKind.u8.bits = i by simp [IntKind.bits]; omega]
  rw [Int.natCast_ediv]; simp

theorem shr64 (a i : Nat) (hi : i < 64) : shr .i64 (a : Int) (i : Int) = ((a / 2 ^ i : Nat) : Int) := by
  unfold shr
  rw [show min (i : Int).toNat IntKind.i64.bits = i by simp [IntKind.bits]; omega]
  rw [Int.natCast_ediv]; simp

theorem wrap_i64 {x : Int} (h0 : 0 ≤ x) (h1 : x < 9223372036854775808) : IntKind.i64.wrap x = x := by
  simp [IntKind.wrap, IntKind.bits, IntKind.signed]; omega

theorem shl64 (a i : Nat) (ha : a < 512) (hi : i < 16) : shl .i64 (a : Int) (i : Int) = ((a * 2 ^ i : Nat) : Int) := by
  unfold shl
  rw [show min (i : Int).toNat IntKind.i64.bits = i by simp [IntKind.bits]; omega]
  have h1 : 2 ^ i ≤ 2 ^ 16 := Nat.pow_le_pow_right (by decide) (by omega)
  have h2 : a * 2 ^ i ≤ 512 * 2 ^ 16 := Nat.mul_le_mul (by omega) h1
  have h3 : ((a : Int) * 2 ^ i) = ((a * 2 ^ i : Nat) : Int) := by simp
  rw [h3, wrap_i64 (by omega) (by omega)]

theorem and1_64 {b : Nat} (hb : b < 9223372036854775808) : Go.bits .and .i64 (b : Int) 1 = ((b % 2 : Nat) : Int) := by
  have h := bits_mask .i64 63 (by decide) (fun m h0 h1 => by simp [IntKind.wrap, IntKind.bits, IntKind.signed] at *; omega) 1 (by decide) (b : Int) (by omega) (by omega)
  rw [show (1 : Int) = 2 ^ 1 - 1 from rfl, h]; omega

theorem xor64 {a b : Nat} (ha : a < 2 ^ 20) (hb : b < 2 ^ 20) : Go.bits .xor .i64 (a : Int) (b : Int) = ((a ^^^ b : Nat) : Int) := by
  have h : a ^^^ b < 2 ^ 20 := Nat.xor_lt_two_pow ha hb
  have e : (BitVec.ofNat 64 a ^^^ BitVec.ofNat 64 b).toNat = a ^^^ b := by
    rw [BitVec.toNat_xor, BitVec.toNat_ofNat, BitVec.toNat_ofNat, Nat.mod_eq_of_lt (by omega), Nat.mod_eq_of_lt (by omega)]
  show IntKind.i64.wrap (((BitVec.ofInt 64 (a : Int) ^^^ BitVec.ofInt 64 (b : Int)).toNat : Nat) : Int) = _
  rw [BitVec.ofInt_natCast, BitVec.ofInt_natCast, e, wrap_i64 (by omega) (by omega)]

theorem pow_small {i : Nat} (hi : i < 16) : 1 * 2 ^ i < 2 ^ 20 := by
  have h1 : 2 ^ i ≤ 2 ^ 16 := Nat.pow_le_pow_right (by decide) (by omega)
  omega

theorem inn_lt (d : Nat) : ∀ a b n i j, i + j + d ≤ 16 → n < 2 ^ 20 → inn d a b n i j < 2 ^ 20 := by
  induction d with
  | zero => intro a b n i j _ h; exact h
  | succ d ih =>
    intro a b n i j hij hn
    unfold inn
    have hp := pow_small (i := i + j) (by omega)
    refine ih _ _ _ _ _ (by omega) ?_
    split
    · split
      · exact Nat.xor_lt_two_pow hn (by omega)
      · exact hn
    · exact hn
theorem outr_lt (d : Nat) : ∀ a b n i, i + d ≤ 8 → n < 2 ^ 20 → outr d a b n i < 2 ^ 20 := by
  induction d with
  | zero => intro a b n i _ h; exact h
  | succ d ih =>
    intro a b n i hi hn
    unfold outr
    exact ih _ _ _ _ (by omega) (inn_lt 8 a b n i 0 (by omega) hn)

/-- The document's division. -/
theorem ref_l2 (d : Nat) : ∀ (k n : Nat), d ≤ 7 → d < k → n < 2 ^ 20 → casemateref01_Mul.l2 k (n : Int) ((d : Int) + 7) = some ((red d n % 256 : Nat) : Int) := by
  induction d with
  | zero =>
    intro k n _ hk hn
    obtain ⟨k, rfl⟩ : ∃ m, k = m + 1 := ⟨k - 1, by omega⟩
    simp only [casemateref01_Mul.l2]; rw [if_neg (by omega)]; rfl
  | succ d ih =>
    intro k n hd hk hn
    obtain ⟨k, rfl⟩ : ∃ m, k = m + 1 := ⟨k - 1, by omega⟩
    have e1 : ((d + 1 : Nat) : Int) + 7 = ((d + 8 : Nat) : Int) := by omega
    have e2 : wrap64 (((d + 8 : Nat) : Int) - 8) = (d : Int) := by unfold wrap64; omega
    have e3 : wrap64 (((d + 8 : Nat) : Int) - 1) = (d : Int) + 7 := by unfold wrap64; omega
    have e4 : (285 : Int) = ((285 : Nat) : Int) := rfl
    have hp : 285 * 2 ^ d < 2 ^ 20 := by
      have h1 : 2 ^ d ≤ 2 ^ 8 := Nat.pow_le_pow_right (by decide) (by omega)
      omega
    have hq : n / 2 ^ (d + 8) < 9223372036854775808 := Nat.lt_of_le_of_lt (Nat.div_le_self _ _) (by omega)
    simp only [casemateref01_Mul.l2]
    rw [e1, if_pos (by omega), u64_small (by omega) (by omega), if_pos (by omega), shr64 _ _ (by omega), and1_64 hq, e2, e3, u64_small (x := (d : Int)) (by omega) (by omega), if_pos (show (0 : Int) ≤ (d : Int) by omega), e4, shl64 _ _ (by decide) (by omega), xor64 hn hp]
    unfold red
    by_cases h : n / 2 ^ (d + 8) % 2 = 1
    · rw [if_pos (by omega), if_pos h]
      exact ih k _ (by omega) (by omega) (Nat.xor_lt_two_pow hn hp)
    · rw [if_neg (by omega), if_neg h]
      exact ih k _ (by omega) (by omega) hn

theorem ref_l1 (k0 : Nat) (d : Nat) : ∀ (k a b n i j : Nat), k = k0 + d → j + d = 8 → i < 8 → n < 2 ^ 20 → a < 256 → b < 256 →
    casemateref01_Mul.l1 (k + 1) (a : Int) (b : Int) (n : Int) (i : Int) (j : Int) = casemateref01_Mul.l0 k0 (a : Int) (b : Int) ((inn d a b n i j : Nat) : Int) ((i + 1 : Nat) : Int) := by
  induction d with
  | zero =>
    intro k a b n i j hk hj hi hn _ _
    subst hk
    simp only [casemateref01_Mul.l1]; rw [if_neg (by omega)]
    have e1 : wrap64 ((i : Int) + 1) = ((i + 1 : Nat) : Int) := by unfold wrap64; omega
    rw [e1]; rfl
  | succ d ih =>
    intro k a b n i j hk hj hi hn ha hb
    obtain ⟨k, rfl⟩ : ∃ m, k = m + 1 := ⟨k - 1, by omega⟩
    have e1 : wrap64 ((i : Int) + (j : Int)) = ((i + j : Nat) : Int) := by unfold wrap64; omega
    have e2 : wrap64 ((j : Int) + 1) = ((j + 1 : Nat) : Int) := by unfold wrap64; omega
    have e4 : (1 : Int) = ((1 : Nat) : Int) := rfl
    have hp := pow_small (i := i + j) (by omega)
    have ha' : a / 2 ^ i < 256 := Nat.lt_of_le_of_lt (Nat.div_le_self _ _) ha
    have hb' : b / 2 ^ j < 256 := Nat.lt_of_le_of_lt (Nat.div_le_self _ _) hb
    have hs : shl .i64 1 ((i + j : Nat) : Int) = ((1 * 2 ^ (i + j) : Nat) : Int) := shl64 1 (i + j) (by decide) (by omega)
    rw [casemateref01_Mul.l1]
    rw [if_pos (by omega), u64_small (by omega) (by omega), if_pos (by omega), shr8 _ _ (by omega), and1_8 ha', u64_small (x := (j : Int)) (by omega) (by omega), if_pos (show (0 : Int) ≤ (j : Int) by omega), shr8 _ _ (by omega), and1_8 hb', e1, e2, u64_small (x := ((i + j : Nat) : Int)) (by omega) (by omega), if_pos (show (0 : Int) ≤ ((i + j : Nat) : Int) by omega), hs, xor64 hn hp]
    unfold inn
    by_cases h : a / 2 ^ i % 2 = 1
    · rw [if_pos (by omega), if_pos h]
      by_cases h' : b / 2 ^ j % 2 = 1
      · rw [if_pos (by omega), if_pos h', Nat.one_mul]
        rw [Nat.one_mul] at hp
        exact ih k a b _ i (j + 1) (by omega) (by omega) hi (Nat.xor_lt_two_pow hn hp) ha hb
      · rw [if_neg (by omega), if_neg h']
        exact ih k a b _ i (j + 1) (by omega) (by omega) hi hn ha hb
    · rw [if_neg (by omega), if_neg h]
      exact ih k a b _ i (j + 1) (by omega) (by omega) hi hn ha hb

theorem ref_l0 (d : Nat) : ∀ (k a b n i : Nat), i + d = 8 → d * 10 + 30 < k → n < 2 ^ 20 → a < 256 → b < 256 →
    casemateref01_Mul.l0 k (a : Int) (b : Int) (n : Int) (i : Int) = some ((red 7 (outr d a b n i) % 256 : Nat) : Int) := by
  induction d with
  | zero =>
    intro k a b n i hi hk hn ha hb
    obtain ⟨k, rfl⟩ : ∃ m, k = m + 1 := ⟨k - 1, by omega⟩
    simp only [casemateref01_Mul.l0]; rw [if_neg (by omega)]
    exact ref_l2 7 k n (by decide) (by omega) hn
  | succ d ih =>
    intro k a b n i hi hk hn ha hb
    obtain ⟨k, rfl⟩ : ∃ m, k = m + 1 := ⟨k - 1, by omega⟩
    obtain ⟨k, rfl⟩ : ∃ m, k = m + 1 := ⟨k - 1, by omega⟩
    simp only [casemateref01_Mul.l0]; rw [if_pos (by omega)]
    have h := ref_l1 (k - 8) 8 k a b n i 0 (by omega) (by decide) (by omega) hn ha hb
    have h' : casemateref01_Mul.l1 (k + 1) (a : Int) (b : Int) (n : Int) (i : Int) 0 = _ := h
    rw [h', ih (k - 8) a b _ (i + 1) (by omega) (by omega) (inn_lt 8 a b n i 0 (by omega) hn) ha hb]
    rfl

theorem refmul_f {k a b : Nat} (hk : 200 < k) (ha : a < 256) (hb : b < 256) : casemateref01_Mul.f k (a : Int) (b : Int) = some ((gmul a b : Nat) : Int) := by
  unfold casemateref01_Mul.f
  rw [← refmul_gmul ha hb]
  exact ref_l0 8 k a b 0 0 (by decide) (by omega) (by decide) ha hb

theorem refpow_l0 (d : Nat) : ∀ (k n i : Nat), i + d = n → n < 255 → d + 300 < k → casemateref01_Pow.l0 k (n : Int) ((pw i : Nat) : Int) (i : Int) = some ((pw n : Nat) : Int) := by
  induction d with
  | zero =>
    intro k n i hi _ hk
    obtain ⟨k, rfl⟩ : ∃ m, k = m + 1 := ⟨k - 1, by omega⟩
    obtain rfl : i = n := by omega
    simp only [casemateref01_Pow.l0]; rw [if_neg (by omega)]
  | succ d ih =>
    intro k n i hi hn hk
    obtain ⟨k, rfl⟩ : ∃ m, k = m + 1 := ⟨k - 1, by omega⟩
    have hw : wrap64 ((i : Int) + 1) = ((i + 1 : Nat) : Int) := by unfold wrap64; omega
    have hm := refmul_f (k := k) (a := pw i) (b := 2) (by omega) (pw_lt i) (by decide)
    have h2 : gmul (pw i) 2 = pw (i + 1) := by
      have := pw_add i 1
      exact this
    rw [h2] at hm
    have hm' : casemateref01_Mul.f k ((pw i : Nat) : Int) 2 = some ((pw (i + 1) : Nat) : Int) := hm
    simp only [casemateref01_Pow.l0]
    rw [if_pos (by omega), hm', hw]
    simp only [Option.bind_some]
    exact ih k n (i + 1) (by omega) hn (by omega)

theorem refpow_f {k : Nat} (n : Int) (hk : 600 < k) : casemateref01_Pow.f k n = some ((pwZ n : Nat) : Int) := by
  unfold casemateref01_Pow.f pwZ
  have h1 := Int.tmod_eq_emod (a := n) (b := 255)
  have h3 : Int.natAbs 255 = 255 := rfl
  have h2 : 0 ≤ n % 255 := Int.emod_nonneg _ (by decide)
  have h4 : n % 255 < 255 := Int.emod_lt_of_pos _ (by decide)
  have hw : Int.tmod (wrap64 (Int.tmod n 255 + 255)) 255 = (((n % 255).toNat : Nat) : Int) := by
    have h5 : -255 < Int.tmod n 255 ∧ Int.tmod n 255 < 255 := by split at h1 <;> omega
    have h6 : wrap64 (Int.tmod n 255 + 255) = Int.tmod n 255 + 255 := by unfold wrap64; omega
    rw [h6, Int.tmod_eq_emod_of_nonneg (by omega)]
    split at h1 <;> omega
  rw [hw]
  exact refpow_l0 _ k _ 0 (Nat.zero_add _) (by omega) (by omega)


theorem mul_calls {a b : Nat} (ha : a < 256) (hb : b < 256) (w : World) : Calls Try.prog 42 #[.int .u8 (a : Int), .int .u8 (b : Int)] w fun e w' => e = .returned (.int .u8 ((gmul a b : Nat) : Int)) ∧ Drawn0 w w' :=
  gf_Mul.calls 2000 _ _ _ w (mul_f (by decide) ha hb)
theorem pow_calls (n : Int) (w : World) : Calls Try.prog 27 #[.int .i64 n] w fun e w' => e = .returned (.int .u8 ((pwZ n : Nat) : Int)) ∧ Drawn0 w w' :=
  gf_Pow.calls 2000 _ _ w (pow_f n (by decide))
theorem refmul_calls {a b : Nat} (ha : a < 256) (hb : b < 256) (w : World) : Calls Try.prog 28 #[.int .u8 (a : Int), .int .u8 (b : Int)] w fun e w' => e = .returned (.int .u8 ((gmul a b : Nat) : Int)) ∧ Drawn0 w w' :=
  casemateref01_Mul.calls 2000 _ _ _ w (refmul_f (by decide) ha hb)
theorem refpow_calls (n : Int) (w : World) : Calls Try.prog 29 #[.int .i64 n] w fun e w' => e = .returned (.int .u8 ((pwZ n : Nat) : Int)) ∧ Drawn0 w w' :=
  casemateref01_Pow.calls 2000 _ _ w (refpow_f n (by decide))

/-! ### sectors -/
def zeros : List Nat := List.replicate 64 0
theorem zeros_length : zeros.length = 64 := by simp [zeros]
/-- 64 bytes. -/
structure Sec (l : List Nat) : Prop where
  len : l.length = 64
  byte : ∀ x ∈ l, x < 256
theorem Sec.get {l : List Nat} (h : Sec l) (k : Nat) : l.getD k 0 < 256 := by
  rw [List.getD_eq_getElem?_getD]
  cases e : l[k]? with
  | none => simp
  | some x => exact h.byte x (List.mem_of_getElem? e)
theorem zeros_sec : Sec zeros := ⟨zeros_length, fun x hx => by simp [zeros] at hx; omega⟩
theorem T23 : Sc.ArrTy Try.prog 23 5 64 := ⟨by kernel_rfl, by kernel_rfl, by kernel_rfl, by kernel_rfl⟩
theorem cells5 : Try.prog.cellsOf 5 = 1 := by kernel_rfl
theorem guard23 : Try.prog.eqGuardType Try.prog.depth 23 = false := by kernel_rfl
theorem zero23 : (Try.prog.info? 23).map (·.zero) = some (some (.agg (Sc.bys zeros))) := by kernel_rfl
theorem alloc23 {o : Oper} {a : Act} {w : World} (ho : o.op = .alloc 23) : (execOp a.eval o).run Try.prog w = .ok (.value (.pointer (some ⟨w.heap.size, 0, none⟩))) (w.alloc (.cells (Sc.bys zeros) 23 (0, 0))) := Sc.exec_alloc ho zero23

end Go.Proofs.Ytonjgbcibjnpoaa.Pb
