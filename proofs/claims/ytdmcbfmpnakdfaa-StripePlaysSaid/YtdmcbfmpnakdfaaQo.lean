/- The document's product and power, walked. -/
import Derived.Test.YtdmcbfmpnakdfaaQn
import Derived.Test.YtdmcbfmpnakdfaaQz
namespace Go.Proofs.Ytdmcbfmpnakdfaa.Eng
open Go Go.Proofs Go.Proofs.Ytdmcbfmpnakdfaa.Gf
set_option maxRecDepth 20000
set_option maxHeartbeats 4000000
theorem bit_f {w : Nat} (hc : false = (((w % 2 : Nat) : Int) == 1)) : ¬ w % 2 = 1 := fun h => by rw [h] at hc; exact absurd hc (by decide)
theorem bit_t {w : Nat} (hc : true = (((w % 2 : Nat) : Int) == 1)) : w % 2 = 1 := by
  rcases Nat.mod_two_eq_zero_or_one w with h | h
  · rw [h] at hc; exact absurd hc (by decide)
  · exact h
def rmI1 (a b i : Nat) : LTm × LHp := ([ub a, ub b, .junk, .junk, .junk, iv (outF a b i : Nat), iv (i : Nat), .junk, .junk, .junk, .junk, .junk, .junk, .junk, .junk, .junk, .junk, .junk, .junk, .junk, .junk, .junk, .junk, .junk, .junk, .junk, .junk, .junk, .junk, .junk, .junk, .junk, .junk, .junk, .junk, .junk, .junk, .junk, .junk, .junk, .junk, .junk, .junk, .junk, .junk, .junk, .junk, .junk, .junk, .junk, .junk, .junk, .junk, .junk, .junk, .junk], [])
def rmI2 (a b i j : Nat) : LTm × LHp := ([ub a, ub b, .junk, .junk, .junk, iv (innF a b (outF a b i) i j : Nat), iv (i : Nat), iv (j : Nat), .junk, .junk, .junk, .junk, .junk, .junk, .junk, .junk, .junk, .junk, .junk, .junk, .junk, .junk, .junk, .junk, .junk, .junk, .junk, .junk, .junk, .junk, .junk, .junk, .junk, .junk, .junk, .junk, .junk, .junk, .junk, .junk, .junk, .junk, .junk, .junk, .junk, .junk, .junk, .junk, .junk, .junk, .junk, .junk, .junk, .junk, .junk, .junk], [])
def rmI3 (n t : Nat) : LTm × LHp := ([.junk, .junk, .junk, .junk, .junk, iv (redF n t : Nat), .junk, .junk, iv (14 - t : Nat), .junk, .junk, .junk, .junk, .junk, .junk, .junk, .junk, .junk, .junk, .junk, .junk, .junk, .junk, .junk, .junk, .junk, .junk, .junk, .junk, .junk, .junk, .junk, .junk, .junk, .junk, .junk, .junk, .junk, .junk, .junk, .junk, .junk, .junk, .junk, .junk, .junk, .junk, .junk, .junk, .junk, .junk, .junk, .junk, .junk, .junk, .junk], [])
theorem refmulB (n : Nat) (hn : n < 2 ^ 15) : CodeT Try.prog 0 (suf 3 (bodyC Try.f123)) ([.junk, .junk, .junk, .junk, .junk, iv (n : Nat), .junk, .junk, .junk, .junk, .junk, .junk, .junk, .junk, .junk, .junk, .junk, .junk, .junk, .junk, .junk, .junk, .junk, .junk, .junk, .junk, .junk, .junk, .junk, .junk, .junk, .junk, .junk, .junk, .junk, .junk, .junk, .junk, .junk, .junk, .junk, .junk, .junk, .junk, .junk, .junk, .junk, .junk, .junk, .junk, .junk, .junk, .junk, .junk, .junk, .junk]) [] (retQ Try.prog Try.f123 0 (ub (redF n 7 % 256)) []) := by
  obtain ⟨I, hI⟩ : ∃ I, I = rmI3 n := ⟨_, rfl⟩
  refine evC_sound tabOk mixed _ _ _ _ ?_
  conv => whnf
  repeat (first | (refine ⟨(by kernel_rfl : chkR _ _ _ _ = true), ?_⟩; conv => whnf) | (refine EvOr.go ?_; conv => whnf))
  refine CodeT.loopN tabOk mixed I 7 _ (StW.ofP [] ?_ ?_ ?_) (fun k => by subst hI; rfl) ?_
  · subst hI; kernel_rfl
  · subst hI; rfl
  · subst hI; rfl
  intro k hkl
  subst hI
  have hlt := redF_lt hn k (by omega)
  have hs : redF n (k + 1) = if (redF n k / 2 ^ (14 - k)) % 2 = 1 then redF n k ^^^ 285 * 2 ^ (6 - k) else redF n k := rfl
  have hk7 : k = 7 → redF n k = redF n 7 := fun h => by rw [h]
  show evC Try.prog tab _ _ ([.junk, .junk, .junk, .junk, .junk, iv (redF n k : Nat), .junk, .junk, iv (14 - k : Nat), .junk, .junk, .junk, .junk, .junk, .junk, .junk, .junk, .junk, .junk, .junk, .junk, .junk, .junk, .junk, .junk, .junk, .junk, .junk, .junk, .junk, .junk, .junk, .junk, .junk, .junk, .junk, .junk, .junk, .junk, .junk, .junk, .junk, .junk, .junk, .junk, .junk, .junk, .junk, .junk, .junk, .junk, .junk, .junk, .junk, .junk, .junk]) [] _
  generalize redF n k = x at *
  by_cases hk : k < 7
  · have h8 : x / 2 ^ (14 - k) < 2 ^ 62 := Nat.lt_of_le_of_lt (Nat.div_le_self _ _) (by omega)
    conv => whnf
    repeat (first | (refine ⟨(by kernel_rfl : chkR _ _ _ _ = true), ?_⟩; conv => whnf) | (refine EvOr.go ?_; conv => whnf))
    intro c hc
    obtain rfl : c = true := by rw [hc]; exact decide_eq_true (by omega)
    conv => whnf
    repeat (first | (refine ⟨(by kernel_rfl : chkR _ _ _ _ = true), ?_⟩; conv => whnf) | (refine EvOr.go ?_; conv => whnf))
    refine ⟨_, wrap64 (by omega), ?_⟩
    conv => whnf
    repeat (first | (refine ⟨(by kernel_rfl : chkR _ _ _ _ = true), ?_⟩; conv => whnf) | (refine EvOr.go ?_; conv => whnf))
    refine ⟨_, shrN .i64 (by show 14 - k ≤ 64; omega), ?_⟩
    conv => whnf
    repeat (first | (refine ⟨(by kernel_rfl : chkR _ _ _ _ = true), ?_⟩; conv => whnf) | (refine EvOr.go ?_; conv => whnf))
    refine ⟨_, and64 h8, ?_⟩
    conv => whnf
    repeat (first | (refine ⟨(by kernel_rfl : chkR _ _ _ _ = true), ?_⟩; conv => whnf) | (refine EvOr.go ?_; conv => whnf))
    intro c hc
    cases c
    · have h1 : ¬ (x / 2 ^ (14 - k)) % 2 = 1 := bit_f hc
      rw [if_neg h1] at hs
      conv => whnf
      repeat (first | (refine ⟨(by kernel_rfl : chkR _ _ _ _ = true), ?_⟩; conv => whnf) | (refine EvOr.go ?_; conv => whnf))
      refine ⟨_, subn (b := 1) (by omega) (by omega), ?_⟩
      conv => whnf
      repeat (first | (refine ⟨(by kernel_rfl : chkR _ _ _ _ = true), ?_⟩; conv => whnf) | (refine EvOr.go ?_; conv => whnf))
      refine ⟨by omega, _, StW.ofP [] ?_ ?_ ?_⟩
      · kernel_rfl
      · simp only [rmI3, hs, show 14 - (k + 1) = 14 - k - 1 by omega]; rfl
      · rfl
    · have h1 : (x / 2 ^ (14 - k)) % 2 = 1 := bit_t hc
      rw [if_pos h1] at hs
      have e6 : 14 - k - 8 = 6 - k := by omega
      have hd : 285 * 2 ^ (6 - k) < 2 ^ 62 := by
        have : ∀ d, d < 7 → 285 * 2 ^ d < 2 ^ 62 := by decide
        exact this _ (by omega)
      conv => whnf
      repeat (first | (refine ⟨(by kernel_rfl : chkR _ _ _ _ = true), ?_⟩; conv => whnf) | (refine EvOr.go ?_; conv => whnf))
      refine ⟨_, subn (b := 8) (by omega) (by omega), ?_⟩
      conv => whnf
      repeat (first | (refine ⟨(by kernel_rfl : chkR _ _ _ _ = true), ?_⟩; conv => whnf) | (refine EvOr.go ?_; conv => whnf))
      refine ⟨_, wrap64 (by omega), ?_⟩
      conv => whnf
      repeat (first | (refine ⟨(by kernel_rfl : chkR _ _ _ _ = true), ?_⟩; conv => whnf) | (refine EvOr.go ?_; conv => whnf))
      refine ⟨_, shl285 (by omega), ?_⟩
      conv => whnf
      repeat (first | (refine ⟨(by kernel_rfl : chkR _ _ _ _ = true), ?_⟩; conv => whnf) | (refine EvOr.go ?_; conv => whnf))
      refine ⟨_, xor64 (by omega) (by rw [e6]; exact hd), ?_⟩
      conv => whnf
      repeat (first | (refine ⟨(by kernel_rfl : chkR _ _ _ _ = true), ?_⟩; conv => whnf) | (refine EvOr.go ?_; conv => whnf))
      refine ⟨_, subn (b := 1) (by omega) (by omega), ?_⟩
      conv => whnf
      repeat (first | (refine ⟨(by kernel_rfl : chkR _ _ _ _ = true), ?_⟩; conv => whnf) | (refine EvOr.go ?_; conv => whnf))
      refine ⟨by omega, _, StW.ofP [] ?_ ?_ ?_⟩
      · kernel_rfl
      · simp only [rmI3, hs, show 14 - (k + 1) = 14 - k - 1 by omega, ← e6]; rfl
      · rfl
  · have e := hk7 (by omega)
    subst e
    conv => whnf
    repeat (first | (refine ⟨(by kernel_rfl : chkR _ _ _ _ = true), ?_⟩; conv => whnf) | (refine EvOr.go ?_; conv => whnf))
    intro c hc
    obtain rfl : c = false := by rw [hc]; exact decide_eq_false (by omega)
    conv => whnf
    repeat (first | (refine ⟨(by kernel_rfl : chkR _ _ _ _ = true), ?_⟩; conv => whnf) | (refine EvOr.go ?_; conv => whnf))
    refine ⟨((redF n 7 % 256 : Nat) : Int), by rw [IntKind.wrap_u8]; omega, ?_⟩
    conv => whnf
    repeat (first | (refine ⟨(by kernel_rfl : chkR _ _ _ _ = true), ?_⟩; conv => whnf) | (refine EvOr.go ?_; conv => whnf))
    exact retQ.one rfl (.inr rfl) rfl (Nat.le_of_ble_eq_true rfl) rfl
theorem refmul_ok (a b : Nat) (ha : a < 256) (hb : b < 256) : FunT Try.prog 123 [ub a, ub b] [] (ub (gmul a b)) [] := by
  have gB := refmulB (outF a b 8) (outF_lt a b 8 (Nat.le_refl _))
  rw [← refmulF, refmul_gmul ha hb] at gB
  obtain ⟨I, hI⟩ : ∃ I, I = rmI1 a b := ⟨_, rfl⟩
  refine FunT.ev tabOk mixed Try.func123 rfl ?_
  conv => whnf
  repeat (first | (refine ⟨(by kernel_rfl : chkR _ _ _ _ = true), ?_⟩; conv => whnf) | (refine EvOr.go ?_; conv => whnf))
  refine CodeT.loopN tabOk mixed I 8 _ (StW.ofP [] ?_ ?_ ?_) (fun k => by subst hI; rfl) ?_
  · subst hI; kernel_rfl
  · subst hI; rfl
  · subst hI; rfl
  intro k hkl
  subst hI
  obtain ⟨i, hi⟩ : ∃ i, i = k := ⟨_, rfl⟩
  subst hi
  conv => whnf
  repeat (first | (refine ⟨(by kernel_rfl : chkR _ _ _ _ = true), ?_⟩; conv => whnf) | (refine EvOr.go ?_; conv => whnf))
  intro c hc
  by_cases hk : i < 8
  · obtain rfl : c = true := by rw [hc]; exact decide_eq_true (by omega)
    obtain ⟨I2, hI2⟩ : ∃ I, I = rmI2 a b i := ⟨_, rfl⟩
    conv => whnf
    repeat (first | (refine ⟨(by kernel_rfl : chkR _ _ _ _ = true), ?_⟩; conv => whnf) | (refine EvOr.go ?_; conv => whnf))
    refine CodeT.loopN tabOk mixed I2 8 _ (StW.ofP [] ?_ ?_ ?_) (fun k => by subst hI2; rfl) ?_
    · subst hI2; kernel_rfl
    · subst hI2; rfl
    · subst hI2; rfl
    intro j hj
    subst hI2
    have hlt := innF_lt (a := a) (b := b) (outF_lt a b i (by omega)) hk j hj
    have hs : innF a b (outF a b i) i (j + 1) = if (a / 2 ^ i) % 2 = 1 then (if (b / 2 ^ j) % 2 = 1 then innF a b (outF a b i) i j ^^^ 2 ^ (i + j) else innF a b (outF a b i) i j) else innF a b (outF a b i) i j := rfl
    have h8 : j = 8 → innF a b (outF a b i) i j = outF a b (i + 1) := fun h => by rw [h]; rfl
    show evC Try.prog tab _ _ ([ub a, ub b, .junk, .junk, .junk, iv (innF a b (outF a b i) i j : Nat), iv (i : Nat), iv (j : Nat), .junk, .junk, .junk, .junk, .junk, .junk, .junk, .junk, .junk, .junk, .junk, .junk, .junk, .junk, .junk, .junk, .junk, .junk, .junk, .junk, .junk, .junk, .junk, .junk, .junk, .junk, .junk, .junk, .junk, .junk, .junk, .junk, .junk, .junk, .junk, .junk, .junk, .junk, .junk, .junk, .junk, .junk, .junk, .junk, .junk, .junk, .junk, .junk]) [] _
    generalize hN : innF a b (outF a b i) i (j + 1) = N at hs
    generalize innF a b (outF a b i) i j = x at *
    by_cases hj8 : j < 8
    · have ha2 : a / 2 ^ i < 256 := Nat.lt_of_le_of_lt (Nat.div_le_self _ _) ha
      have hb2 : b / 2 ^ j < 256 := Nat.lt_of_le_of_lt (Nat.div_le_self _ _) hb
      have hp : 2 ^ (i + j) < 2 ^ 62 := Nat.pow_lt_pow_right (by decide) (by omega)
      conv => whnf
      repeat (first | (refine ⟨(by kernel_rfl : chkR _ _ _ _ = true), ?_⟩; conv => whnf) | (refine EvOr.go ?_; conv => whnf))
      intro c hc
      obtain rfl : c = true := by rw [hc]; exact decide_eq_true (by omega)
      conv => whnf
      repeat (first | (refine ⟨(by kernel_rfl : chkR _ _ _ _ = true), ?_⟩; conv => whnf) | (refine EvOr.go ?_; conv => whnf))
      refine ⟨_, wrap64 (by omega), ?_⟩
      conv => whnf
      repeat (first | (refine ⟨(by kernel_rfl : chkR _ _ _ _ = true), ?_⟩; conv => whnf) | (refine EvOr.go ?_; conv => whnf))
      refine ⟨_, shrN .u8 (by show i ≤ 8; omega), ?_⟩
      conv => whnf
      repeat (first | (refine ⟨(by kernel_rfl : chkR _ _ _ _ = true), ?_⟩; conv => whnf) | (refine EvOr.go ?_; conv => whnf))
      refine ⟨_, and1 ha2, ?_⟩
      conv => whnf
      repeat (first | (refine ⟨(by kernel_rfl : chkR _ _ _ _ = true), ?_⟩; conv => whnf) | (refine EvOr.go ?_; conv => whnf))
      intro c hc
      cases c
      · have h1 : ¬ (a / 2 ^ i) % 2 = 1 := bit_f hc
        rw [if_neg h1] at hs
        conv => whnf
        repeat (first | (refine ⟨(by kernel_rfl : chkR _ _ _ _ = true), ?_⟩; conv => whnf) | (refine EvOr.go ?_; conv => whnf))
        refine ⟨_, inc_nat (by omega), ?_⟩
        conv => whnf
        repeat (first | (refine ⟨(by kernel_rfl : chkR _ _ _ _ = true), ?_⟩; conv => whnf) | (refine EvOr.go ?_; conv => whnf))
        refine ⟨by omega, _, StW.ofP [] ?_ ?_ ?_⟩
        · kernel_rfl
        · simp only [rmI2, hN, hs]; rfl
        · rfl
      · have h1 : (a / 2 ^ i) % 2 = 1 := bit_t hc
        rw [if_pos h1] at hs
        conv => whnf
        repeat (first | (refine ⟨(by kernel_rfl : chkR _ _ _ _ = true), ?_⟩; conv => whnf) | (refine EvOr.go ?_; conv => whnf))
        refine ⟨_, wrap64 (by omega), ?_⟩
        conv => whnf
        repeat (first | (refine ⟨(by kernel_rfl : chkR _ _ _ _ = true), ?_⟩; conv => whnf) | (refine EvOr.go ?_; conv => whnf))
        refine ⟨_, shrN .u8 (by show j ≤ 8; omega), ?_⟩
        conv => whnf
        repeat (first | (refine ⟨(by kernel_rfl : chkR _ _ _ _ = true), ?_⟩; conv => whnf) | (refine EvOr.go ?_; conv => whnf))
        refine ⟨_, and1 hb2, ?_⟩
        conv => whnf
        repeat (first | (refine ⟨(by kernel_rfl : chkR _ _ _ _ = true), ?_⟩; conv => whnf) | (refine EvOr.go ?_; conv => whnf))
        intro c hc
        cases c
        · have h2 : ¬ (b / 2 ^ j) % 2 = 1 := bit_f hc
          rw [if_neg h2] at hs
          conv => whnf
          repeat (first | (refine ⟨(by kernel_rfl : chkR _ _ _ _ = true), ?_⟩; conv => whnf) | (refine EvOr.go ?_; conv => whnf))
          refine ⟨_, inc_nat (by omega), ?_⟩
          conv => whnf
          repeat (first | (refine ⟨(by kernel_rfl : chkR _ _ _ _ = true), ?_⟩; conv => whnf) | (refine EvOr.go ?_; conv => whnf))
          refine ⟨by omega, _, StW.ofP [] ?_ ?_ ?_⟩
          · kernel_rfl
          · simp only [rmI2, hN, hs]; rfl
          · rfl
        · have h2 : (b / 2 ^ j) % 2 = 1 := bit_t hc
          rw [if_pos h2] at hs
          conv => whnf
          repeat (first | (refine ⟨(by kernel_rfl : chkR _ _ _ _ = true), ?_⟩; conv => whnf) | (refine EvOr.go ?_; conv => whnf))
          refine ⟨_, add_nat (by omega) (by omega), ?_⟩
          conv => whnf
          repeat (first | (refine ⟨(by kernel_rfl : chkR _ _ _ _ = true), ?_⟩; conv => whnf) | (refine EvOr.go ?_; conv => whnf))
          refine ⟨_, wrap64 (by omega), ?_⟩
          conv => whnf
          repeat (first | (refine ⟨(by kernel_rfl : chkR _ _ _ _ = true), ?_⟩; conv => whnf) | (refine EvOr.go ?_; conv => whnf))
          refine ⟨_, shl1i (by omega), ?_⟩
          conv => whnf
          repeat (first | (refine ⟨(by kernel_rfl : chkR _ _ _ _ = true), ?_⟩; conv => whnf) | (refine EvOr.go ?_; conv => whnf))
          refine ⟨_, xor64 (by omega) hp, ?_⟩
          conv => whnf
          repeat (first | (refine ⟨(by kernel_rfl : chkR _ _ _ _ = true), ?_⟩; conv => whnf) | (refine EvOr.go ?_; conv => whnf))
          refine ⟨_, inc_nat (by omega), ?_⟩
          conv => whnf
          repeat (first | (refine ⟨(by kernel_rfl : chkR _ _ _ _ = true), ?_⟩; conv => whnf) | (refine EvOr.go ?_; conv => whnf))
          refine ⟨by omega, _, StW.ofP [] ?_ ?_ ?_⟩
          · kernel_rfl
          · simp only [rmI2, hN, hs]; rfl
          · rfl
    · have e := h8 (by omega)
      subst e
      conv => whnf
      repeat (first | (refine ⟨(by kernel_rfl : chkR _ _ _ _ = true), ?_⟩; conv => whnf) | (refine EvOr.go ?_; conv => whnf))
      intro c hc
      obtain rfl : c = false := by rw [hc]; exact decide_eq_false (by omega)
      conv => whnf
      repeat (first | (refine ⟨(by kernel_rfl : chkR _ _ _ _ = true), ?_⟩; conv => whnf) | (refine EvOr.go ?_; conv => whnf))
      refine ⟨_, inc_nat (by omega), ?_⟩
      conv => whnf
      repeat (first | (refine ⟨(by kernel_rfl : chkR _ _ _ _ = true), ?_⟩; conv => whnf) | (refine EvOr.go ?_; conv => whnf))
      refine ⟨by first | exact hk | omega, _, StW.ofP [] ?_ ?_ ?_⟩
      · kernel_rfl
      · rfl
      · rfl
  · obtain rfl : c = false := by rw [hc]; exact decide_eq_false (by omega)
    obtain rfl : i = 8 := by omega
    conv => whnf
    refine ⟨(by kernel_rfl : chkR _ _ _ _ = true), ?_⟩
    conv => whnf
    refine EvOr.go ?_
    conv => whnf
    refine EvOr.cut (CodeT.weaken _ (StW.ofP [] ?_ ?_ ?_) (gB))
    · kernel_rfl
    · rfl
    · rfl
def rpI (m i : Nat) : LTm × LHp := ([iv (m : Nat), .junk, .junk, ub (pw i), iv (i : Nat), .junk, .junk, .junk, .junk, .junk, .junk, .junk, .junk, .junk, .junk, .junk, .junk], [])
theorem refpow_ok (n : Int) (_hn : -2 ^ 63 ≤ n ∧ n < 2 ^ 63) : FunT Try.prog 124 [iv n] [] (ub (pwZ n)) [] := by
  have hm := Int.tmod_lt_of_pos n (show (0 : Int) < 255 by decide)
  have hm2 : -255 < n.tmod 255 := by
    have := Int.lt_tmod_of_pos n (show (0 : Int) < 255 by decide)
    omega
  have hdm : 255 * n.tdiv 255 + n.tmod 255 = n := Int.mul_tdiv_add_tmod n 255
  generalize n.tdiv 255 = q at hdm
  have e1 : arithI .rem .i64 n 255 = some (n.tmod 255) := rfl
  generalize n.tmod 255 = r at hm hm2 hdm e1
  have e2 : arithI .add .i64 r 255 = some (r + 255) := by
    show some (IntKind.i64.wrap (r + 255)) = _
    rw [IntWalk.i64_in _ ⟨by omega, by omega⟩]
  have e3 : arithI .rem .i64 (r + 255) 255 = some (((n % 255).toNat : Nat) : Int) := by
    show some ((r + 255).tmod 255) = _
    rw [Int.tmod_eq_emod_of_nonneg (by omega)]
    congr 1; omega
  have hp : pw (n % 255).toNat = pwZ n := rfl
  have hlt : (n % 255).toNat < 255 := by omega
  generalize (n % 255).toNat = m at *
  obtain ⟨I, hI⟩ : ∃ I, I = rpI m := ⟨_, rfl⟩
  refine FunT.ev tabOk mixed Try.func124 rfl ?_
  conv => whnf
  repeat (first | (refine ⟨(by kernel_rfl : chkR _ _ _ _ = true), ?_⟩; conv => whnf) | (refine EvOr.go ?_; conv => whnf))
  refine ⟨_, e1, ?_⟩
  conv => whnf
  repeat (first | (refine ⟨(by kernel_rfl : chkR _ _ _ _ = true), ?_⟩; conv => whnf) | (refine EvOr.go ?_; conv => whnf))
  refine ⟨_, e2, ?_⟩
  conv => whnf
  repeat (first | (refine ⟨(by kernel_rfl : chkR _ _ _ _ = true), ?_⟩; conv => whnf) | (refine EvOr.go ?_; conv => whnf))
  refine ⟨_, e3, ?_⟩
  conv => whnf
  repeat (first | (refine ⟨(by kernel_rfl : chkR _ _ _ _ = true), ?_⟩; conv => whnf) | (refine EvOr.go ?_; conv => whnf))
  refine CodeT.loopN tabOk mixed I m _ (StW.ofP [] ?_ ?_ ?_) (fun k => by subst hI; rfl) ?_
  · subst hI; kernel_rfl
  · subst hI; rfl
  · subst hI; rfl
  intro k hkl
  subst hI
  conv => whnf
  repeat (first | (refine ⟨(by kernel_rfl : chkR _ _ _ _ = true), ?_⟩; conv => whnf) | (refine EvOr.go ?_; conv => whnf))
  intro c hc
  by_cases hk : k < m
  · obtain rfl : c = true := by rw [hc]; exact decide_eq_true (by omega)
    have hM : FunT Try.prog 123 [ub (pw k), .sc (.raw (.int .u8 2))] [] (ub (pw (k + 1))) [] := by
      have := refmul_ok (pw k) (pw 1) (pw_lt k) (pw_lt 1)
      rw [pw_add] at this
      exact this
    conv => whnf
    repeat (first | (refine ⟨(by kernel_rfl : chkR _ _ _ _ = true), ?_⟩; conv => whnf) | (refine EvOr.go ?_; conv => whnf))
    refine CallG.use hM c123 [] [] ?_ ?_ ?_ ?_ ?_ ?_; rfl; rfl; kernel_rfl; rfl; rfl
    conv => whnf
    repeat (first | (refine ⟨(by kernel_rfl : chkR _ _ _ _ = true), ?_⟩; conv => whnf) | (refine EvOr.go ?_; conv => whnf))
    refine ⟨_, inc_nat (by omega), ?_⟩
    conv => whnf
    repeat (first | (refine ⟨(by kernel_rfl : chkR _ _ _ _ = true), ?_⟩; conv => whnf) | (refine EvOr.go ?_; conv => whnf))
    refine ⟨by first | exact hk | omega, _, StW.ofP [] ?_ ?_ ?_⟩
    · kernel_rfl
    · rfl
    · rfl
  · obtain rfl : c = false := by rw [hc]; exact decide_eq_false (by omega)
    obtain rfl : k = m := by omega
    conv => whnf
    repeat (first | (refine ⟨(by kernel_rfl : chkR _ _ _ _ = true), ?_⟩; conv => whnf) | (refine EvOr.go ?_; conv => whnf))
    refine retQ.one rfl (.inr rfl) ?_ (Nat.le_of_ble_eq_true rfl) rfl
    rw [← hp]; rfl
end Go.Proofs.Ytdmcbfmpnakdfaa.Eng
