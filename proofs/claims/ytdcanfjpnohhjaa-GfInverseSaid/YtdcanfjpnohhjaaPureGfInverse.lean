/- Division and multiplication by one byte undo each other, and inverses lead back: of all bytes, no condition. -/
import Derived.Test.YtdcanfjpnohhjaaPGfInversex1
import Derived.Test.YtdcanfjpnohhjaaGf
import Derived.Laws.BitsLemmas
namespace Go.Proofs.Ytdcanfjpnohhjaa.BrGfInverse
open Go.Proofs.YtdcanfjpnohhjaaW.PrintMore Go.RowKit Go.Proofs.Ytdcanfjpnohhjaa.PGfInverse Go.Proofs.YtdcanfjpnohhjaaW.PrintWords Go.Proofs.YtdcanfjpnohhjaaW.PrintLast Go.Proofs.Ytdcanfjpnohhjaa.Gf

theorem xor8 {a b : Nat} (ha : a < 256) (hb : b < 256) : Go.bits .xor .u8 (a : Int) (b : Int) = ((a ^^^ b : Nat) : Int) := by
  have h := xor_lt ha hb
  have e : (BitVec.ofNat 8 a ^^^ BitVec.ofNat 8 b).toNat = a ^^^ b := by
    rw [BitVec.toNat_xor, BitVec.toNat_ofNat, BitVec.toNat_ofNat, Nat.mod_eq_of_lt (by omega), Nat.mod_eq_of_lt (by omega)]
  show IntKind.u8.wrap (((BitVec.ofInt 8 (a : Int) ^^^ BitVec.ofInt 8 (b : Int)).toNat : Nat) : Int) = _
  rw [BitVec.ofInt_natCast, BitVec.ofInt_natCast, e, IntKind.wrap_u8]
  omega

theorem and1_8 {b : Nat} (hb : b < 256) : Go.bits .and .u8 (b : Int) 1 = ((b % 2 : Nat) : Int) := by
  have h := bits_mask .u8 8 (by decide) wraps_u8 1 (by decide) (b : Int) (by omega) (by omega)
  rw [show (1 : Int) = 2 ^ 1 - 1 from rfl, h]; omega

theorem xt8 (a : Nat) : Go.bits .xor .u8 (((a : Int) * 2) % 256) ((((a : Int) / 128) * 29) % 256) = ((xt a : Nat) : Int) := by
  have h := xor8 (a := a * 2 % 256) (b := a / 128 * 29 % 256) (Nat.mod_lt _ (by decide)) (Nat.mod_lt _ (by decide))
  unfold xt
  rw [← h]
  congr 1

theorem mul_l0 (n : Nat) : ∀ (k a b o : Nat) (i : Int), i = 8 - (n : Int) → n ≤ 8 → n < k → a < 256 → b < 256 → o < 256 →
    gf_Mul.l0 k (a : Int) (b : Int) (o : Int) i = some ((mstep n a b o : Nat) : Int) := by
  induction n with
  | zero =>
    intro k a b o i hi _ hk _ _ _
    obtain ⟨k, rfl⟩ : ∃ m, k = m + 1 := ⟨k - 1, by omega⟩
    simp only [gf_Mul.l0]; rw [if_neg (by omega)]; rfl
  | succ n ih =>
    intro k a b o i hi hn hk ha hb ho
    obtain ⟨k, rfl⟩ : ∃ m, k = m + 1 := ⟨k - 1, by omega⟩
    have hw : wrap64 (i + 1) = i + 1 := by unfold wrap64; omega
    have hd : ((b : Int) / 2) = ((b / 2 : Nat) : Int) := by omega
    simp only [gf_Mul.l0]
    rw [if_pos (by omega), and1_8 hb, xt8 a, hw, hd, xor8 ho ha]
    by_cases h : b % 2 = 0
    · rw [if_pos (by omega), ih k _ _ _ _ (by omega) (by omega) (by omega) (xt_lt ha) (by omega) ho]
      simp [mstep, h]
    · rw [if_neg (by omega), ih k _ _ _ _ (by omega) (by omega) (by omega) (xt_lt ha) (by omega) (xor_lt ho ha)]
      simp [mstep, h]

theorem mul_f {k a b : Nat} (hk : 8 < k) (ha : a < 256) (hb : b < 256) : gf_Mul.f k (a : Int) (b : Int) = some ((gmul a b : Nat) : Int) := by
  unfold gf_Mul.f
  exact mul_l0 8 k a b 0 0 (by decide) (by decide) hk ha hb (by decide)

/-- Square and multiply. -/
theorem pow_l0 (d : Nat) : ∀ (k n o s : Nat), n ≤ d → n < 255 → d + 9 < k →
    gf_Pow.l0 k (n : Int) ((pw o : Nat) : Int) ((pw s : Nat) : Int) = some ((pw (o + n * s) : Nat) : Int) := by
  induction d with
  | zero =>
    intro k n o s hn hn' hk
    obtain ⟨k, rfl⟩ : ∃ m, k = m + 1 := ⟨k - 1, by omega⟩
    obtain rfl : n = 0 := by omega
    simp [gf_Pow.l0]
  | succ d ih =>
    intro k n o s hn hn' hk
    obtain ⟨k, rfl⟩ : ∃ m, k = m + 1 := ⟨k - 1, by omega⟩
    by_cases h0 : n = 0
    · subst h0; simp [gf_Pow.l0]
    · have hb : Go.bits .and .i64 (n : Int) 1 = ((n % 2 : Nat) : Int) := by
        have h := bits_mask .i64 63 (by decide) (fun m h0 h1 => by simp [IntKind.wrap, IntKind.bits, IntKind.signed] at *; omega) 1 (by decide) (n : Int) (by omega) (by omega)
        rw [show (1 : Int) = 2 ^ 1 - 1 from rfl, h]; omega
      have hd : ((n : Int) / 2) = ((n / 2 : Nat) : Int) := by omega
      simp only [gf_Pow.l0]
      rw [if_pos (by omega), hb, mul_f (by omega) (pw_lt s) (pw_lt s), mul_f (by omega) (pw_lt o) (pw_lt s), pw_add, pw_add, hd]
      simp only [Option.bind_some]
      by_cases h : n % 2 = 0
      · rw [if_pos (by omega), ih k _ _ _ (by omega) (by omega) (by omega)]
        congr 3
        have : n / 2 * (s + s) = n * s := by
          rw [← Nat.two_mul, ← Nat.mul_assoc, Nat.div_mul_cancel (Nat.dvd_of_mod_eq_zero h)]
        omega
      · rw [if_neg (by omega), ih k _ _ _ (by omega) (by omega) (by omega)]
        congr 3
        have e : n = 2 * (n / 2) + 1 := by omega
        have : n / 2 * (s + s) + s = n * s := by
          conv => rhs; rw [e, Nat.add_mul, Nat.one_mul]
          rw [← Nat.two_mul, ← Nat.mul_assoc, Nat.mul_comm (n/2) 2]
        omega

theorem pow_f {k : Nat} (n : Int) (hk : 300 < k) : gf_Pow.f k n = some ((pwZ n : Nat) : Int) := by
  have hl : ∀ m : Nat, m < 255 → gf_Pow.j0 k (m : Int) = some ((pw m : Nat) : Int) := by
    intro m hm
    obtain ⟨k, rfl⟩ : ∃ j, k = j + 1 := ⟨k - 1, by omega⟩
    simp only [gf_Pow.j0]
    have h := pow_l0 254 k m 0 1 (by omega) hm (by omega)
    rw [show 0 + m * 1 = m by omega] at h
    exact h
  unfold gf_Pow.f
  unfold pwZ
  have h1 := Int.tmod_eq_emod (a := n) (b := 255)
  have h3 : Int.natAbs 255 = 255 := rfl
  by_cases h : Int.tmod n 255 < 0
  · rw [if_pos h]
    have hw : wrap64 (Int.tmod n 255 + 255) = (((n % 255).toNat : Nat) : Int) := by
      unfold wrap64
      have h2 : 0 ≤ n % 255 := Int.emod_nonneg _ (by decide)
      split at h1 <;> omega
    rw [hw, hl _ (by omega)]
  · rw [if_neg h]
    have hw : Int.tmod n 255 = (((n % 255).toNat : Nat) : Int) := by
      have h2 : 0 ≤ n % 255 := Int.emod_nonneg _ (by decide)
      split at h1 <;> omega
    rw [hw, hl _ (by omega)]

theorem awake_f {k : Nat} (hk : 300 < k) : casematelaw01_awake.f k = some true := by
  unfold casematelaw01_awake.f
  have m1 := mul_f (k := k) (a := 2) (b := 128) (by omega) (by decide) (by decide)
  have m2 := mul_f (k := k) (a := 3) (b := 3) (by omega) (by decide) (by decide)
  have e1 : gmul 2 128 = 29 := by decide +kernel
  have e2 : gmul 3 3 = 5 := by decide +kernel
  have e3 : pwZ 8 = 29 := by decide +kernel
  have e4 : pwZ (-255) = 1 := by decide +kernel
  rw [e1] at m1; rw [e2] at m2
  have p1 := pow_f (k := k) 8 hk
  have p2 := pow_f (k := k) (-255) hk
  rw [e3] at p1; rw [e4] at p2
  have q1 : gf_Mul.f k 2 128 = some 29 := m1
  have q2 : gf_Mul.f k 3 3 = some 5 := m2
  have q3 : gf_Pow.f k 8 = some 29 := p1
  have q4 : gf_Pow.f k (-255) = some 1 := p2
  rw [q1, q2, q3, q4]
  rfl

/-- A byte of a row is a number below 256. -/
theorem byte_nat {a : Int} (h : (Lit.int .u8 a).wf = true) : ∃ n : Nat, n < 256 ∧ a = (n : Int) := by
  have h' : 0 ≤ a ∧ a ≤ 255 := by
    simp [Lit.wf, IntKind.min, IntKind.max, IntKind.bits, IntKind.signed] at h
    exact h
  exact ⟨a.toNat, by omega, by omega⟩

/-- The number of a byte: the search. -/
theorem log_l0 (d : Nat) : ∀ (k a n : Nat), n + d = 255 → d < 300 → d + 300 < k → a < 256 → (a = 0 ∨ n ≤ lg a) →
    gf_Log.l0 k (a : Int) ((pw n : Nat) : Int) (n : Int) = if a = 0 then some (0, 2) else some ((lg a : Int), 0) := by
  induction d with
  | zero =>
    intro k a n hn _ hk ha h
    obtain ⟨k, rfl⟩ : ∃ m, k = m + 1 := ⟨k - 1, by omega⟩
    simp only [gf_Log.l0]; rw [if_neg (by omega)]
    by_cases h0 : a = 0
    · rw [if_pos h0]
    · have := lg_lt ha h0
      omega
  | succ d ih =>
    intro k a n hn hd hk ha h
    obtain ⟨k, rfl⟩ : ∃ m, k = m + 1 := ⟨k - 1, by omega⟩
    simp only [gf_Log.l0]; rw [if_pos (by omega)]
    by_cases e : pw n = a
    · have h0 : a ≠ 0 := by rw [← e]; exact pw_ne_zero n
      have hl : lg a = n := pw_inj (lg_lt ha h0) (by omega) (by rw [pw_lg ha h0, e])
      rw [if_pos (by omega), if_neg h0, hl]
    · have hw : wrap64 ((n : Int) + 1) = ((n + 1 : Nat) : Int) := by unfold wrap64; omega
      have hm := mul_f (k := k) (a := pw n) (b := 2) (by omega) (pw_lt n) (by decide)
      have h2 : gmul (pw n) 2 = pw (n + 1) := by
        have := pw_add n 1
        exact this
      rw [h2] at hm
      have hm' : gf_Mul.f k ((pw n : Nat) : Int) 2 = some ((pw (n + 1) : Nat) : Int) := hm
      rw [if_neg (by omega), hm', hw]
      simp only [Option.bind_some]
      refine ih k a (n + 1) (by omega) (by omega) (by omega) ha ?_
      by_cases h0 : a = 0
      · exact Or.inl h0
      · right
        have h3 : n ≤ lg a := h.resolve_left h0
        have h4 : lg a ≠ n := by
          intro e2
          apply e
          rw [← e2]
          exact pw_lg ha h0
        omega

theorem log_f {k a : Nat} (hk : 600 < k) (ha : a < 256) : gf_Log.f k (a : Int) = if a = 0 then some (0, 2) else some ((lg a : Int), 0) := by
  unfold gf_Log.f
  exact log_l0 255 k a 0 (by decide) (by decide) (by omega) ha (Or.inr (Nat.zero_le _))
theorem log_zero {k : Nat} (hk : 600 < k) : gf_Log.f k 0 = some (0, 2) := log_f (a := 0) hk (by decide)
theorem log_some {k a : Nat} (hk : 600 < k) (ha : a < 256) (h : a ≠ 0) : gf_Log.f k (a : Int) = some ((lg a : Int), 0) := by
  rw [log_f hk ha, if_neg h]

theorem inv_f {k a : Nat} (hk : 600 < k) (ha : a < 256) (h : a ≠ 0) : gf_Inv.f k (a : Int) = some (((ginv a : Nat) : Int), 0) := by
  unfold gf_Inv.f
  rw [log_some hk ha h]
  simp only [Option.bind_some, if_true]
  have hl := lg_lt ha h
  have hw : wrap64 (-(lg a : Int)) = -(lg a : Int) := by unfold wrap64; omega
  rw [hw, pow_f _ (by omega)]
  rfl
theorem inv_zero {k : Nat} (hk : 600 < k) : gf_Inv.f k 0 = some (0, 2) := by
  unfold gf_Inv.f
  rw [log_zero hk]
  rfl
theorem div_f {k a b : Nat} (hk : 600 < k) (ha : a < 256) (hb : b < 256) (h : b ≠ 0) : gf_Div.f k (a : Int) (b : Int) = some (((gmul a (ginv b) : Nat) : Int), 0) := by
  unfold gf_Div.f
  rw [inv_f hk hb h]
  simp only [Option.bind_some, if_true]
  rw [mul_f (by omega) ha (ginv_lt b)]
  rfl
theorem div_zero {k : Nat} (a : Int) (hk : 600 < k) : gf_Div.f k a 0 = some (0, 2) := by
  unfold gf_Div.f
  rw [inv_zero hk]
  rfl

end Go.Proofs.Ytdcanfjpnohhjaa.BrGfInverse
namespace Go.Proofs.Ytdcanfjpnohhjaa.Pure
open Go.RowKit Go.Proofs.Ytdcanfjpnohhjaa.PGfInverse Go.Proofs.Ytdcanfjpnohhjaa.Gf Go.Proofs.Ytdcanfjpnohhjaa.BrGfInverse
theorem GfInverse : casematelaw01_GfInverse.Pure := by
  intro a b wa wb
  obtain ⟨a, ha, rfl⟩ := byte_nat wa
  obtain ⟨b, hb, rfl⟩ := byte_nat wb
  refine ⟨2000, ?_⟩
  unfold casematelaw01_GfInverse.f casematelaw01_no.f
  rw [awake_f (by decide)]
  by_cases h0 : b = 0
  · subst h0
    rw [show ((0 : Nat) : Int) = 0 from rfl, div_zero _ (by decide), inv_zero (by decide)]
    rfl
  · have e1 : gmul (gmul a (ginv b)) b = a := by
      rw [gmul_assoc ha (ginv_lt b) hb, gmul_comm (ginv_lt b) hb, gmul_ginv hb h0, gmul_one_right a ha]
    have e2 : gmul (ginv b) b = 1 := by rw [gmul_comm (ginv_lt b) hb, gmul_ginv hb h0]
    rw [div_f (by decide) ha hb h0, inv_f (by decide) hb h0]
    simp only [Option.bind_some]
    rw [if_neg (by omega), inv_f (by decide) (ginv_lt b) (ginv_ne_zero b), mul_f (by decide) (gmul_lt ha) hb, mul_f (by decide) (ginv_lt b) hb, mul_f (by decide) ha (ginv_lt b), e1, e2, ginv_ginv hb h0]
    simp

end Go.Proofs.Ytdcanfjpnohhjaa.Pure
