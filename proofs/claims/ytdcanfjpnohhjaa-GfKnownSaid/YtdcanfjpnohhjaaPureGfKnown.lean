/- The examples of the chapter hold: a closed statement, no condition. -/
import Derived.Test.YtdcanfjpnohhjaaPGfKnownx2
import Derived.Test.YtdcanfjpnohhjaaGf
import Derived.Laws.BitsLemmas
namespace Go.Proofs.Ytdcanfjpnohhjaa.BrGfKnown
open Go.Proofs.YtdcanfjpnohhjaaW.PrintMore Go.RowKit Go.Proofs.Ytdcanfjpnohhjaa.PGfKnown Go.Proofs.YtdcanfjpnohhjaaW.PrintWords Go.Proofs.YtdcanfjpnohhjaaW.PrintLast Go.Proofs.Ytdcanfjpnohhjaa.Gf

theorem xor8 {a b : Nat} (ha : a < 256) (hb : b < 256) : Go.bits .xor .u8 (a : Int) (b : Int) = ((a ^^^ b : Nat) : Int) := by
  have h := xor_lt ha hb
  have e : (BitVec.ofNat 8 a ^^^ BitVec.ofNat 8 b).toNat = a ^^^ b := by
    rw [BitVec.toNat_xor, BitVec.toNat_ofNat, BitVec.toNat_ofNat, Nat.mod_eq_of_lt (by omega), Nat.mod_eq_of_lt (by omega)]
  show IntKind.u8.wrap (((BitVec.ofInt 8 (a : Int) ^^^ BitVec.ofInt 8 (b : Int)).toNat : Nat) : Int) = _
  rw [BitVec.ofInt_natCast, BitVec.ofInt_natCast, e, IntKind.wrap_u8]
  omega

theorem and1_8 {b : Nat} (hb : b < 256) : Go.bits .and .u8 (b : Int) 1 = ((b % 2 : Nat) : Int) := by
  have h := bits_mask .u8 8 (by decide) wraps_u8 1 (by decide) (b : Int) (by omega) (by omega)
  rw [show (1 : Int) = 2 ^ 1 - 1 from rfl, h]; omega

theorem xt8 (a : Nat) : Go.bits .xor .u8 (((a : Int) * 2) % 256) ((((a : Int) / 128) * 29) % 256) = ((xt a : Nat) : Int) := by
  have h := xor8 (a := a * 2 % 256) (b := a / 128 * 29 % 256) (Nat.mod_lt _ (by decide)) (Nat.mod_lt _ (by decide))
  unfold xt
  rw [← h]
  congr 1

theorem mul_l0 (n : Nat) : ∀ (k a b o : Nat) (i : Int), i = 8 - (n : Int) → n ≤ 8 → n < k → a < 256 → b < 256 → o < 256 →
    gf_Mul.l0 k (a : Int) (b : Int) (o : Int) i = some ((mstep n a b o : Nat) : Int) := by
  induction n with
  | zero =>
    intro k a b o i hi _ hk _ _ _
    obtain ⟨k, rfl⟩ : ∃ m, k = m + 1 := ⟨k - 1, by omega⟩
    simp only [gf_Mul.l0]; rw [if_neg (by omega)]; rfl
  | succ n ih =>
    intro k a b o i hi hn hk ha hb ho
    obtain ⟨k, rfl⟩ : ∃ m, k = m + 1 := ⟨k - 1, by omega⟩
    have hw : wrap64 (i + 1) = i + 1 := by unfold wrap64; omega
    have hd : ((b : Int) / 2) = ((b / 2 : Nat) : Int) := by omega
    simp only [gf_Mul.l0]
    rw [if_pos (by omega), and1_8 hb, xt8 a, hw, hd, xor8 ho ha]
    by_cases h : b % 2 = 0
    · rw [if_pos (by omega), ih k _ _ _ _ (by omega) (by omega) (by omega) (xt_lt ha) (by omega) ho]
      simp [mstep, h]
    · rw [if_neg (by omega), ih k _ _ _ _ (by omega) (by omega) (by omega) (xt_lt ha) (by omega) (xor_lt ho ha)]
      simp [mstep, h]

theorem mul_f {k a b : Nat} (hk : 8 < k) (ha : a < 256) (hb : b < 256) : gf_Mul.f k (a : Int) (b : Int) = some ((gmul a b : Nat) : Int) := by
  unfold gf_Mul.f
  exact mul_l0 8 k a b 0 0 (by decide) (by decide) hk ha hb (by decide)

/-- Square and multiply. -/
theorem pow_l0 (d : Nat) : ∀ (k n o s : Nat), n ≤ d → n < 255 → d + 9 < k →
    gf_Pow.l0 k (n : Int) ((pw o : Nat) : Int) ((pw s : Nat) : Int) = some ((pw (o + n * s) : Nat) : Int) := by
  induction d with
  | zero =>
    intro k n o s hn hn' hk
    obtain ⟨k, rfl⟩ : ∃ m, k = m + 1 := ⟨k - 1, by omega⟩
    obtain rfl : n = 0 := by omega
    simp [gf_Pow.l0]
  | succ d ih =>
    intro k n o s hn hn' hk
    obtain ⟨k, rfl⟩ : ∃ m, k = m + 1 := ⟨k - 1, by omega⟩
    by_cases h0 : n = 0
    · subst h0; simp [gf_Pow.l0]
    · have hb : Go.bits .and .i64 (n : Int) 1 = ((n % 2 : Nat) : Int) := by
        have h := bits_mask .i64 63 (by decide) (fun m h0 h1 => by simp [IntKind.wrap, IntKind.bits, IntKind.signed] at *; omega) 1 (by decide) (n : Int) (by omega) (by omega)
        rw [show (1 : Int) = 2 ^ 1 - 1 from rfl, h]; omega
      have hd : ((n : Int) / 2) = ((n / 2 : Nat) : Int) := by omega
      simp only [gf_Pow.l0]
      rw [if_pos (by omega), hb, mul_f (by omega) (pw_lt s) (pw_lt s), mul_f (by omega) (pw_lt o) (pw_lt s), pw_add, pw_add, hd]
      simp only [Option.bind_some]
      by_cases h : n % 2 = 0
      · rw [if_pos (by omega), ih k _ _ _ (by omega) (by omega) (by omega)]
        congr 3
        have : n / 2 * (s + s) = n * s := by
          rw [← Nat.two_mul, ← Nat.mul_assoc, Nat.div_mul_cancel (Nat.dvd_of_mod_eq_zero h)]
        omega
      · rw [if_neg (by omega), ih k _ _ _ (by omega) (by omega) (by omega)]
        congr 3
        have e : n = 2 * (n / 2) + 1 := by omega
        have : n / 2 * (s + s) + s = n * s := by
          conv => rhs; rw [e, Nat.add_mul, Nat.one_mul]
          rw [← Nat.two_mul, ← Nat.mul_assoc, Nat.mul_comm (n/2) 2]
        omega

theorem pow_f {k : Nat} (n : Int) (hk : 300 < k) : gf_Pow.f k n = some ((pwZ n : Nat) : Int) := by
  have hl : ∀ m : Nat, m < 255 → gf_Pow.j0 k (m : Int) = some ((pw m : Nat) : Int) := by
    intro m hm
    obtain ⟨k, rfl⟩ : ∃ j, k = j + 1 := ⟨k - 1, by omega⟩
    simp only [gf_Pow.j0]
    have h := pow_l0 254 k m 0 1 (by omega) hm (by omega)
    rw [show 0 + m * 1 = m by omega] at h
    exact h
  unfold gf_Pow.f
  unfold pwZ
  have h1 := Int.tmod_eq_emod (a := n) (b := 255)
  have h3 : Int.natAbs 255 = 255 := rfl
  by_cases h : Int.tmod n 255 < 0
  · rw [if_pos h]
    have hw : wrap64 (Int.tmod n 255 + 255) = (((n % 255).toNat : Nat) : Int) := by
      unfold wrap64
      have h2 : 0 ≤ n % 255 := Int.emod_nonneg _ (by decide)
      split at h1 <;> omega
    rw [hw, hl _ (by omega)]
  · rw [if_neg h]
    have hw : Int.tmod n 255 = (((n % 255).toNat : Nat) : Int) := by
      have h2 : 0 ≤ n % 255 := Int.emod_nonneg _ (by decide)
      split at h1 <;> omega
    rw [hw, hl _ (by omega)]

theorem awake_f {k : Nat} (hk : 300 < k) : casematelaw01_awake.f k = some true := by
  unfold casematelaw01_awake.f
  have m1 := mul_f (k := k) (a := 2) (b := 128) (by omega) (by decide) (by decide)
  have m2 := mul_f (k := k) (a := 3) (b := 3) (by omega) (by decide) (by decide)
  have e1 : gmul 2 128 = 29 := by decide +kernel
  have e2 : gmul 3 3 = 5 := by decide +kernel
  have e3 : pwZ 8 = 29 := by decide +kernel
  have e4 : pwZ (-255) = 1 := by decide +kernel
  rw [e1] at m1; rw [e2] at m2
  have p1 := pow_f (k := k) 8 hk
  have p2 := pow_f (k := k) (-255) hk
  rw [e3] at p1; rw [e4] at p2
  have q1 : gf_Mul.f k 2 128 = some 29 := m1
  have q2 : gf_Mul.f k 3 3 = some 5 := m2
  have q3 : gf_Pow.f k 8 = some 29 := p1
  have q4 : gf_Pow.f k (-255) = some 1 := p2
  rw [q1, q2, q3, q4]
  rfl

/-- A byte of a row is a number below 256. -/
theorem byte_nat {a : Int} (h : (Lit.int .u8 a).wf = true) : ∃ n : Nat, n < 256 ∧ a = (n : Int) := by
  have h' : 0 ≤ a ∧ a ≤ 255 := by
    simp [Lit.wf, IntKind.min, IntKind.max, IntKind.bits, IntKind.signed] at h
    exact h
  exact ⟨a.toNat, by omega, by omega⟩

/-- The number of a byte: the search. -/
theorem log_l0 (d : Nat) : ∀ (k a n : Nat), n + d = 255 → d < 300 → d + 300 < k → a < 256 → (a = 0 ∨ n ≤ lg a) →
    gf_Log.l0 k (a : Int) ((pw n : Nat) : Int) (n : Int) = if a = 0 then some (0, 2) else some ((lg a : Int), 0) := by
  induction d with
  | zero =>
    intro k a n hn _ hk ha h
    obtain ⟨k, rfl⟩ : ∃ m, k = m + 1 := ⟨k - 1, by omega⟩
    simp only [gf_Log.l0]; rw [if_neg (by omega)]
    by_cases h0 : a = 0
    · rw [if_pos h0]
    · have := lg_lt ha h0
      omega
  | succ d ih =>
    intro k a n hn hd hk ha h
    obtain ⟨k, rfl⟩ : ∃ m, k = m + 1 := ⟨k - 1, by omega⟩
    simp only [gf_Log.l0]; rw [if_pos (by omega)]
    by_cases e : pw n = a
    · have h0 : a ≠ 0 := by rw [← e]; exact pw_ne_zero n
      have hl : lg a = n := pw_inj (lg_lt ha h0) (by omega) (by rw [pw_lg ha h0, e])
      rw [if_pos (by omega), if_neg h0, hl]
    · have hw : wrap64 ((n : Int) + 1) = ((n + 1 : Nat) : Int) := by unfold wrap64; omega
      have hm := mul_f (k := k) (a := pw n) (b := 2) (by omega) (pw_lt n) (by decide)
      have h2 : gmul (pw n) 2 = pw (n + 1) := by
        have := pw_add n 1
        exact this
      rw [h2] at hm
      have hm' : gf_Mul.f k ((pw n : Nat) : Int) 2 = some ((pw (n + 1) : Nat) : Int) := hm
      rw [if_neg (by omega), hm', hw]
      simp only [Option.bind_some]
      refine ih k a (n + 1) (by omega) (by omega) (by omega) ha ?_
      by_cases h0 : a = 0
      · exact Or.inl h0
      · right
        have h3 : n ≤ lg a := h.resolve_left h0
        have h4 : lg a ≠ n := by
          intro e2
          apply e
          rw [← e2]
          exact pw_lg ha h0
        omega

theorem log_f {k a : Nat} (hk : 600 < k) (ha : a < 256) : gf_Log.f k (a : Int) = if a = 0 then some (0, 2) else some ((lg a : Int), 0) := by
  unfold gf_Log.f
  exact log_l0 255 k a 0 (by decide) (by decide) (by omega) ha (Or.inr (Nat.zero_le _))
theorem log_zero {k : Nat} (hk : 600 < k) : gf_Log.f k 0 = some (0, 2) := log_f (a := 0) hk (by decide)
theorem log_some {k a : Nat} (hk : 600 < k) (ha : a < 256) (h : a ≠ 0) : gf_Log.f k (a : Int) = some ((lg a : Int), 0) := by
  rw [log_f hk ha, if_neg h]

theorem inv_f {k a : Nat} (hk : 600 < k) (ha : a < 256) (h : a ≠ 0) : gf_Inv.f k (a : Int) = some (((ginv a : Nat) : Int), 0) := by
  unfold gf_Inv.f
  rw [log_some hk ha h]
  simp only [Option.bind_some, if_true]
  have hl := lg_lt ha h
  have hw : wrap64 (-(lg a : Int)) = -(lg a : Int) := by unfold wrap64; omega
  rw [hw, pow_f _ (by omega)]
  rfl
theorem inv_zero {k : Nat} (hk : 600 < k) : gf_Inv.f k 0 = some (0, 2) := by
  unfold gf_Inv.f
  rw [log_zero hk]
  rfl
theorem div_f {k a b : Nat} (hk : 600 < k) (ha : a < 256) (hb : b < 256) (h : b ≠ 0) : gf_Div.f k (a : Int) (b : Int) = some (((gmul a (ginv b) : Nat) : Int), 0) := by
  unfold gf_Div.f
  rw [inv_f hk hb h]
  simp only [Option.bind_some, if_true]
  rw [mul_f (by omega) ha (ginv_lt b)]
  rfl
theorem div_zero {k : Nat} (a : Int) (hk : 600 < k) : gf_Div.f k a 0 = some (0, 2) := by
  unfold gf_Div.f
  rw [inv_zero hk]
  rfl

end Go.Proofs.Ytdcanfjpnohhjaa.BrGfKnown
namespace Go.Proofs.Ytdcanfjpnohhjaa.Pure
open Go.RowKit Go.Proofs.Ytdcanfjpnohhjaa.PGfKnown Go.Proofs.Ytdcanfjpnohhjaa.Gf Go.Proofs.Ytdcanfjpnohhjaa.BrGfKnown
theorem GfKnown : casematelaw01_GfKnown.Pure := by
  refine ⟨2000, ?_⟩
  have i1 := inv_f (k := 2000) (a := 1) (by decide) (by decide) (by decide)
  have d1 := div_f (k := 2000) (a := 29) (b := 128) (by decide) (by decide) (by decide) (by decide)
  have d2 := div_f (k := 2000) (a := 0) (b := 5) (by decide) (by decide) (by decide) (by decide)
  have i2 := inv_zero (k := 2000) (by decide)
  have d3 := div_zero (k := 2000) 1 (by decide)
  have l0 := log_zero (k := 2000) (by decide)
  have aw := awake_f (k := 2000) (by decide)
  have m1 := mul_f (k := 2000) (a := 0) (b := 7) (by decide) (by decide) (by decide)
  have m2 := mul_f (k := 2000) (a := 1) (b := 255) (by decide) (by decide) (by decide)
  have p0 := pow_f (k := 2000) 0 (by decide)
  have p1 := pow_f (k := 2000) 1 (by decide)
  have p2 := pow_f (k := 2000) 255 (by decide)
  have g1 := log_some (k := 2000) (a := 1) (by decide) (by decide) (by decide)
  have g2 := log_some (k := 2000) (a := 2) (by decide) (by decide) (by decide)
  have g3 := log_some (k := 2000) (a := 29) (by decide) (by decide) (by decide)
  rw [show ginv 1 = 1 by decide +kernel] at i1
  rw [show gmul 29 (ginv 128) = 2 by decide +kernel] at d1
  rw [show gmul 0 (ginv 5) = 0 by decide +kernel] at d2
  rw [show gmul 0 7 = 0 by decide +kernel] at m1
  rw [show gmul 1 255 = 255 by decide +kernel] at m2
  rw [show pwZ 0 = 1 by decide +kernel] at p0
  rw [show pwZ 1 = 2 by decide +kernel] at p1
  rw [show pwZ 255 = 1 by decide +kernel] at p2
  rw [show lg 1 = 0 by decide +kernel] at g1
  rw [show lg 2 = 1 by decide +kernel] at g2
  rw [show lg 29 = 8 by decide +kernel] at g3
  replace i1 : gf_Inv.f 2000 1 = some (1, 0) := i1
  replace d1 : gf_Div.f 2000 29 128 = some (2, 0) := d1
  replace d2 : gf_Div.f 2000 0 5 = some (0, 0) := d2
  replace m1 : gf_Mul.f 2000 0 7 = some 0 := m1
  replace m2 : gf_Mul.f 2000 1 255 = some 255 := m2
  replace p0 : gf_Pow.f 2000 0 = some 1 := p0
  replace p1 : gf_Pow.f 2000 1 = some 2 := p1
  replace p2 : gf_Pow.f 2000 255 = some 1 := p2
  replace g1 : gf_Log.f 2000 1 = some (0, 0) := g1
  replace g2 : gf_Log.f 2000 2 = some (1, 0) := g2
  replace g3 : gf_Log.f 2000 29 = some (8, 0) := g3
  unfold casematelaw01_GfKnown.f casematelaw01_log.f casematelaw01_yes.f casematelaw01_no.f
  rw [i1, d1, d2, i2, d3, l0, aw, m1, m2, p0, p1, p2, g1, g2, g3]
  rfl

end Go.Proofs.Ytdcanfjpnohhjaa.Pure
