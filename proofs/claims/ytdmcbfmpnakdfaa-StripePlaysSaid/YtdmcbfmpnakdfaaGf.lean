/- Plain facts on the field of 256 elements: bytes as numbers below 256. -/
import Derived.RowKit
namespace Go.Proofs.Ytdmcbfmpnakdfaa.Gf

/-- A byte times x. -/
def xt (a : Nat) : Nat := (a * 2 % 256) ^^^ (a / 128 * 29 % 256)

/-- The product's loop: n steps. -/
def mstep : Nat → Nat → Nat → Nat → Nat
  | 0, _, _, o => o
  | n + 1, a, b, o => mstep n (xt a) (b / 2) (if b % 2 = 0 then o else o ^^^ a)

def gmul (a b : Nat) : Nat := mstep 8 a b 0

/-- x to the n. -/
def pw : Nat → Nat
  | 0 => 1
  | n + 1 => xt (pw n)

theorem xor_lt {a b : Nat} (ha : a < 256) (hb : b < 256) : a ^^^ b < 256 := Nat.xor_lt_two_pow (n := 8) ha hb

theorem xt_lt {a : Nat} (_h : a < 256) : xt a < 256 := xor_lt (Nat.mod_lt _ (by decide)) (Nat.mod_lt _ (by decide))

theorem xt_xor (a b : Nat) (ha : a < 256) (hb : b < 256) : xt (a ^^^ b) = xt a ^^^ xt b := by
  have h1 : (a ^^^ b) * 2 % 256 = (a * 2 % 256) ^^^ (b * 2 % 256) := by
    have e : (a ^^^ b) * 2 = (a * 2) ^^^ (b * 2) := by
      have := Nat.shiftLeft_xor_distrib (a := a) (b := b) (i := 1)
      simpa [Nat.shiftLeft_eq] using this
    rw [e]; exact Nat.xor_mod_two_pow (n := 8)
  have h2 : (a ^^^ b) / 128 = (a / 128) ^^^ (b / 128) := by
    have := Nat.shiftRight_xor_distrib (a := a) (b := b) (i := 7)
    simpa [Nat.shiftRight_eq_div_pow] using this
  have h3 : ∀ x, x < 2 → ∀ y, y < 2 → (x ^^^ y) * 29 % 256 = (x * 29 % 256) ^^^ (y * 29 % 256) := by decide
  unfold xt
  rw [h1, h2, h3 _ (by omega) _ (by omega)]
  ac_rfl

theorem mstep_lt (n : Nat) : ∀ a b o, a < 256 → o < 256 → mstep n a b o < 256 := by
  induction n with
  | zero => intro a b o _ h; exact h
  | succ n ih =>
    intro a b o ha ho
    unfold mstep
    exact ih _ _ _ (xt_lt ha) (by split; exact ho; exact xor_lt ho ha)

theorem gmul_lt {a b : Nat} (ha : a < 256) : gmul a b < 256 := mstep_lt 8 a b 0 ha (by decide)

theorem mstep_out (n : Nat) : ∀ a b o p, mstep n a b (o ^^^ p) = mstep n a b o ^^^ p := by
  induction n with
  | zero => intro a b o p; rfl
  | succ n ih =>
    intro a b o p
    unfold mstep
    by_cases h : b % 2 = 0
    · simp only [h, if_true]; exact ih _ _ _ _
    · simp only [h, if_false]; rw [← ih]; congr 1; ac_rfl

/-- Linear in the first factor. -/
theorem mstep_left (n : Nat) : ∀ a c b o p, a < 256 → c < 256 → mstep n (a ^^^ c) b (o ^^^ p) = mstep n a b o ^^^ mstep n c b p := by
  induction n with
  | zero => intro a c b o p _ _; rfl
  | succ n ih =>
    intro a c b o p ha hc
    unfold mstep
    rw [xt_xor a c ha hc]
    by_cases h : b % 2 = 0
    · simp only [h, if_true]; exact ih _ _ _ _ _ (xt_lt ha) (xt_lt hc)
    · simp only [h, if_false]
      rw [← ih _ _ _ _ _ (xt_lt ha) (xt_lt hc)]; congr 1; ac_rfl

theorem gmul_xor_left {a c : Nat} (b : Nat) (ha : a < 256) (hc : c < 256) : gmul (a ^^^ c) b = gmul a b ^^^ gmul c b := by
  unfold gmul; exact mstep_left 8 a c b 0 0 ha hc

theorem mstep_right (n : Nat) : ∀ a b c o p, mstep n a (b ^^^ c) (o ^^^ p) = mstep n a b o ^^^ mstep n a c p := by
  induction n with
  | zero => intro a b c o p; rfl
  | succ n ih =>
    intro a b c o p
    unfold mstep
    have h2 : (b ^^^ c) / 2 = (b / 2) ^^^ (c / 2) := by
      have := Nat.shiftRight_xor_distrib (a := b) (b := c) (i := 1)
      simpa [Nat.shiftRight_eq_div_pow] using this
    have h1 : (b ^^^ c) % 2 = (b % 2) ^^^ (c % 2) := Nat.xor_mod_two_pow (n := 1)
    rw [h2, h1, ← ih]
    congr 1
    rcases Nat.mod_two_eq_zero_or_one b with e | e <;> rcases Nat.mod_two_eq_zero_or_one c with f | f <;> simp [e, f]
    · ac_rfl
    · ac_rfl
    · rw [show o ^^^ a ^^^ (p ^^^ a) = o ^^^ p ^^^ (a ^^^ a) by ac_rfl]; simp

theorem gmul_xor_right (a b c : Nat) : gmul a (b ^^^ c) = gmul a b ^^^ gmul a c := by
  unfold gmul; exact mstep_right 8 a b c 0 0

theorem mstep_xt (n : Nat) : ∀ a b o, a < 256 → o < 256 → mstep n (xt a) b (xt o) = xt (mstep n a b o) := by
  induction n with
  | zero => intro a b o _ _; rfl
  | succ n ih =>
    intro a b o ha ho
    unfold mstep
    by_cases h : b % 2 = 0
    · simp only [h, if_true]; exact ih _ _ _ (xt_lt ha) ho
    · simp only [h, if_false]; rw [← xt_xor o a ho ha]; exact ih _ _ _ (xt_lt ha) (xor_lt ho ha)

theorem gmul_xt {a : Nat} (b : Nat) (ha : a < 256) : gmul (xt a) b = xt (gmul a b) := by
  have := mstep_xt 8 a b 0 ha (by decide)
  unfold gmul; exact this

theorem pw_lt (n : Nat) : pw n < 256 := by
  induction n with
  | zero => decide
  | succ n ih => exact xt_lt ih

theorem gmul_one_all : ∀ b, b < 256 → gmul 1 b = b := by decide +kernel

theorem pw_add (n m : Nat) : gmul (pw n) (pw m) = pw (n + m) := by
  induction n with
  | zero => rw [Nat.zero_add]; exact gmul_one_all _ (pw_lt m)
  | succ n ih =>
    show gmul (xt (pw n)) (pw m) = _
    rw [gmul_xt _ (pw_lt n), ih, Nat.add_right_comm]; rfl

/-- The numbers of the bytes, eight bits each. -/
def lgT : Nat := 22135253156888987530748098150270024343632497605293634117281264061560962248099620766229961468867162294233796152347975563017024165690400661622462404646302566225833645086064538892198543335321514950294300187779610338557442029018619797274438901674641748676613670242915365385819254959901651105240253464034662486586186382979728982817772067067513442677601938078891989292316012868233806586592927239821351197800766822366321181463280924672822998103315976779850880337712374790938628529953751181886374687897611504386983350015558142994211516619836411558782076806704747441947939324473761869443721989389604670425385080942269787340800

/-- The number of a byte. -/
def lg (a : Nat) : Nat := (lgT >>> (8 * a)) % 256

theorem lg_all : ∀ a, a < 256 → a = 0 ∨ (lg a < 255 ∧ pw (lg a) = a) := by decide +kernel

theorem lg_lt {a : Nat} (h : a < 256) (h0 : a ≠ 0) : lg a < 255 := ((lg_all a h).resolve_left h0).1
theorem pw_lg {a : Nat} (h : a < 256) (h0 : a ≠ 0) : pw (lg a) = a := ((lg_all a h).resolve_left h0).2

theorem pw_255 : pw 255 = 1 := by decide +kernel

theorem pw_ne_one : ∀ d, d < 255 → d = 0 ∨ pw d ≠ 1 := by decide +kernel

theorem pw_round (n : Nat) : pw (n + 255) = pw n := by
  rw [← pw_add, pw_255]
  have := pw_add n 0
  exact this

theorem pw_rounds (n k : Nat) : pw (n + 255 * k) = pw n := by
  induction k with
  | zero => rfl
  | succ k ih => rw [show n + 255 * (k + 1) = (n + 255 * k) + 255 by omega, pw_round, ih]

theorem pw_mod (n : Nat) : pw n = pw (n % 255) := by
  have := pw_rounds (n % 255) (n / 255)
  rw [show n % 255 + 255 * (n / 255) = n by omega] at this
  exact this

theorem pw_ne_zero (n : Nat) : pw n ≠ 0 := by
  intro h
  have h1 := pw_add n (255 * n - n)
  rw [h, show n + (255 * n - n) = 0 + 255 * n by omega, pw_rounds] at h1
  have h2 : ∀ b, b < 256 → gmul 0 b = 0 := by decide +kernel
  rw [h2 _ (pw_lt _)] at h1
  exact absurd h1 (by decide)

theorem pw_inj_lt {i j : Nat} (hij : i < j) (hj : j < 255) : pw i ≠ pw j := by
  intro h
  have h1 := pw_add i (255 - i)
  have h2 := pw_add j (255 - i)
  rw [h] at h1
  rw [h1, show i + (255 - i) = 0 + 255 by omega, show j + (255 - i) = (j - i) + 255 by omega, pw_round, pw_round] at h2
  rcases pw_ne_one (j - i) (by omega) with e | e
  · omega
  · exact e h2.symm

theorem pw_inj {i j : Nat} (hi : i < 255) (hj : j < 255) (h : pw i = pw j) : i = j := by
  rcases Nat.lt_trichotomy i j with e | e | e
  · exact absurd h (pw_inj_lt e hj)
  · exact e
  · exact absurd h.symm (pw_inj_lt e hi)

theorem pw_eq_iff (i j : Nat) : pw i = pw j ↔ i % 255 = j % 255 := by
  constructor
  · intro h
    rw [pw_mod i, pw_mod j] at h
    exact pw_inj (Nat.mod_lt _ (by decide)) (Nat.mod_lt _ (by decide)) h
  · intro h
    rw [pw_mod i, pw_mod j, h]

theorem exists_pw {a : Nat} (h : a < 256) (h0 : a ≠ 0) : ∃ n, n < 255 ∧ a = pw n := ⟨lg a, lg_lt h h0, (pw_lg h h0).symm⟩

theorem gmul_zero_left (b : Nat) (hb : b < 256) : gmul 0 b = 0 := by
  have h2 : ∀ b, b < 256 → gmul 0 b = 0 := by decide +kernel
  exact h2 b hb
theorem gmul_zero_right (a : Nat) : gmul a 0 = 0 := by
  have h := gmul_xor_right a 0 0
  rw [Nat.xor_self] at h
  have := h
  rw [Nat.xor_self] at this
  exact this
theorem gmul_one_left (b : Nat) (hb : b < 256) : gmul 1 b = b := gmul_one_all b hb

theorem gmul_comm {a b : Nat} (ha : a < 256) (hb : b < 256) : gmul a b = gmul b a := by
  by_cases h : a = 0
  · subst h; rw [gmul_zero_left b hb, gmul_zero_right]
  · by_cases h' : b = 0
    · subst h'; rw [gmul_zero_left a ha, gmul_zero_right]
    · obtain ⟨i, _, rfl⟩ := exists_pw ha h
      obtain ⟨j, _, rfl⟩ := exists_pw hb h'
      rw [pw_add, pw_add, Nat.add_comm]

theorem gmul_one_right (a : Nat) (ha : a < 256) : gmul a 1 = a := by rw [gmul_comm ha (by decide), gmul_one_left a ha]

theorem gmul_assoc {a b c : Nat} (ha : a < 256) (hb : b < 256) (hc : c < 256) : gmul (gmul a b) c = gmul a (gmul b c) := by
  by_cases h : a = 0
  · subst h; rw [gmul_zero_left b hb, gmul_zero_left c hc, gmul_zero_left _ (gmul_lt hb)]
  · by_cases h' : b = 0
    · subst h'; rw [gmul_zero_right, gmul_zero_left c hc, gmul_zero_right]
    · by_cases h'' : c = 0
      · subst h''; rw [gmul_zero_right, gmul_zero_right, gmul_zero_right]
      · obtain ⟨i, _, rfl⟩ := exists_pw ha h
        obtain ⟨j, _, rfl⟩ := exists_pw hb h'
        obtain ⟨k, _, rfl⟩ := exists_pw hc h''
        rw [pw_add, pw_add, pw_add, pw_add, Nat.add_assoc]

theorem gmul_eq_zero {a b : Nat} (ha : a < 256) (hb : b < 256) : gmul a b = 0 ↔ a = 0 ∨ b = 0 := by
  constructor
  · intro h
    by_cases h1 : a = 0
    · exact Or.inl h1
    · by_cases h2 : b = 0
      · exact Or.inr h2
      · exfalso
        obtain ⟨i, _, rfl⟩ := exists_pw ha h1
        obtain ⟨j, _, rfl⟩ := exists_pw hb h2
        rw [pw_add] at h
        exact pw_ne_zero _ h
  · rintro (h | h)
    · subst h; exact gmul_zero_left b hb
    · subst h; exact gmul_zero_right a

/-- The power of any whole number. -/
def pwZ (n : Int) : Nat := pw (n % 255).toNat

theorem pwZ_lt (n : Int) : pwZ n < 256 := pw_lt _
theorem pwZ_ne_zero (n : Int) : pwZ n ≠ 0 := pw_ne_zero _
theorem pwZ_nat (n : Nat) : pwZ n = pw n := by
  unfold pwZ
  rw [show ((n : Int) % 255).toNat = n % 255 by omega, ← pw_mod]
theorem pwZ_eq_iff (n m : Int) : pwZ n = pwZ m ↔ n % 255 = m % 255 := by
  unfold pwZ
  rw [pw_eq_iff]
  omega
theorem pwZ_add (n m : Int) : gmul (pwZ n) (pwZ m) = pwZ (n + m) := by
  unfold pwZ
  rw [pw_add, pw_eq_iff]
  omega
theorem pwZ_zero : pwZ 0 = 1 := rfl
/-- The inverse of a byte that is not 0. -/
def ginv (a : Nat) : Nat := pwZ (-(lg a : Int))
theorem ginv_lt (a : Nat) : ginv a < 256 := pwZ_lt _
theorem ginv_ne_zero (a : Nat) : ginv a ≠ 0 := pwZ_ne_zero _
theorem gmul_ginv {a : Nat} (ha : a < 256) (h : a ≠ 0) : gmul a (ginv a) = 1 := by
  have e : a = pwZ (lg a : Int) := by rw [pwZ_nat, pw_lg ha h]
  have e2 : gmul (pwZ (lg a : Int)) (ginv a) = 1 := by
    unfold ginv
    rw [pwZ_add, show (lg a : Int) + -(lg a : Int) = 0 by omega]; rfl
  rw [← e] at e2; exact e2
theorem gmul_cancel {a b c : Nat} (ha : a < 256) (hb : b < 256) (hc : c < 256) (h : c ≠ 0) (e : gmul a c = gmul b c) : a = b := by
  have h1 : gmul (gmul a c) (ginv c) = gmul (gmul b c) (ginv c) := by rw [e]
  rw [gmul_assoc ha hc (ginv_lt c), gmul_assoc hb hc (ginv_lt c), gmul_ginv hc h, gmul_one_right a ha, gmul_one_right b hb] at h1
  exact h1
theorem ginv_unique {a x : Nat} (ha : a < 256) (hx : x < 256) (h : a ≠ 0) (e : gmul x a = 1) : x = ginv a := by
  refine gmul_cancel hx (ginv_lt a) ha h ?_
  rw [e, gmul_comm (ginv_lt a) ha, gmul_ginv ha h]
theorem ginv_ginv {a : Nat} (ha : a < 256) (h : a ≠ 0) : ginv (ginv a) = a :=
  (ginv_unique (ginv_lt a) ha (ginv_ne_zero a) (gmul_ginv ha h)).symm

end Go.Proofs.Ytdmcbfmpnakdfaa.Gf
