/- The powers of two numbers make that of their sum, and each byte but 0 is the power of its number: of all numbers of 32 bits and all bytes, no condition. -/
import Derived.Test.YtdcanfjpnohhjaaRows
import Derived.Test.YtdcanfjpnohhjaaPGfInversex1
import Derived.Test.YtdcanfjpnohhjaaGf
import Derived.Laws.BitsLemmas
import Derived.WalkKit
import Derived.ProofKit
import Derived.OpenShut
import Derived.ShutString
import Derived.ChangeOld
import Derived.Below
import Derived.SizedLaws
namespace Go.Proofs.Ytdcanfjpnohhjaa.BrGfCircle
open Go.Proofs.YtdcanfjpnohhjaaW.PrintMore Go.RowKit Go.Proofs.Ytdcanfjpnohhjaa.PGfInverse Go.Proofs.YtdcanfjpnohhjaaW.PrintWords Go.Proofs.YtdcanfjpnohhjaaW.PrintLast Go.Proofs.Ytdcanfjpnohhjaa.Gf

theorem xor8 {a b : Nat} (ha : a < 256) (hb : b < 256) : Go.bits .xor .u8 (a : Int) (b : Int) = ((a ^^^ b : Nat) : Int) := by
  have h := xor_lt ha hb
  have e : (BitVec.ofNat 8 a ^^^ BitVec.ofNat 8 b).toNat = a ^^^ b := by
    rw [BitVec.toNat_xor, BitVec.toNat_ofNat, BitVec.toNat_ofNat, Nat.mod_eq_of_lt (by omega), Nat.mod_eq_of_lt (by omega)]
  show IntKind.u8.wrap (((BitVec.ofInt 8 (a : Int) ^^^ BitVec.ofInt 8 (b : Int)).toNat : Nat) : Int) = _
  rw [BitVec.ofInt_natCast, BitVec.ofInt_natCast, e, IntKind.wrap_u8]
  omega

theorem and1_8 {b : Nat} (hb : b < 256) : Go.bits .and .u8 (b : Int) 1 = ((b % 2 : Nat) : Int) := by
  have h := bits_mask .u8 8 (by decide) wraps_u8 1 (by decide) (b : Int) (by omega) (by omega)
  rw [show (1 : Int) = 2 ^ 1 - 1 from rfl, h]; omega

theorem xt8 (a : Nat) : Go.bits .xor .u8 (((a : Int) * 2) % 256) ((((a : Int) / 128) * 29) % 256) = ((xt a : Nat) : Int) := by
  have h := xor8 (a := a * 2 % 256) (b := a / 128 * 29 % 256) (Nat.mod_lt _ (by decide)) (Nat.mod_lt _ (by decide))
  unfold xt
  rw [← h]
  congr 1

theorem mul_l0 (n : Nat) : ∀ (k a b o : Nat) (i : Int), i = 8 - (n : Int) → n ≤ 8 → n < k → a < 256 → b < 256 → o < 256 →
    gf_Mul.l0 k (a : Int) (b : Int) (o : Int) i = some ((mstep n a b o : Nat) : Int) := by
  induction n with
  | zero =>
    intro k a b o i hi _ hk _ _ _
    obtain ⟨k, rfl⟩ : ∃ m, k = m + 1 := ⟨k - 1, by omega⟩
    simp only [gf_Mul.l0]; rw [if_neg (by omega)]; rfl
  | succ n ih =>
    intro k a b o i hi hn hk ha hb ho
    obtain ⟨k, rfl⟩ : ∃ m, k = m + 1 := ⟨k - 1, by omega⟩
    have hw : wrap64 (i + 1) = i + 1 := by unfold wrap64; omega
    have hd : ((b : Int) / 2) = ((b / 2 : Nat) : Int) := by omega
    simp only [gf_Mul.l0]
    rw [if_pos (by omega), and1_8 hb, xt8 a, hw, hd, xor8 ho ha]
    by_cases h : b % 2 = 0
    · rw [if_pos (by omega), ih k _ _ _ _ (by omega) (by omega) (by omega) (xt_lt ha) (by omega) ho]
      simp [mstep, h]
    · rw [if_neg (by omega), ih k _ _ _ _ (by omega) (by omega) (by omega) (xt_lt ha) (by omega) (xor_lt ho ha)]
      simp [mstep, h]

theorem mul_f {k a b : Nat} (hk : 8 < k) (ha : a < 256) (hb : b < 256) : gf_Mul.f k (a : Int) (b : Int) = some ((gmul a b : Nat) : Int) := by
  unfold gf_Mul.f
  exact mul_l0 8 k a b 0 0 (by decide) (by decide) hk ha hb (by decide)

/-- Square and multiply. -/
theorem pow_l0 (d : Nat) : ∀ (k n o s : Nat), n ≤ d → n < 255 → d + 9 < k →
    gf_Pow.l0 k (n : Int) ((pw o : Nat) : Int) ((pw s : Nat) : Int) = some ((pw (o + n * s) : Nat) : Int) := by
  induction d with
  | zero =>
    intro k n o s hn hn' hk
    obtain ⟨k, rfl⟩ : ∃ m, k = m + 1 := ⟨k - 1, by omega⟩
    obtain rfl : n = 0 := by omega
    simp [gf_Pow.l0]
  | succ d ih =>
    intro k n o s hn hn' hk
    obtain ⟨k, rfl⟩ : ∃ m, k = m + 1 := ⟨k - 1, by omega⟩
    by_cases h0 : n = 0
    · subst h0; simp [gf_Pow.l0]
    · have hb : Go.bits .and .i64 (n : Int) 1 = ((n % 2 : Nat) : Int) := by
        have h := bits_mask .i64 63 (by decide) (fun m h0 h1 => by simp [IntKind.wrap, IntKind.bits, IntKind.signed] at *; omega) 1 (by decide) (n : Int) (by omega) (by omega)
        rw [show (1 : Int) = 2 ^ 1 - 1 from rfl, h]; omega
      have hd : ((n : Int) / 2) = ((n / 2 : Nat) : Int) := by omega
      simp only [gf_Pow.l0]
      rw [if_pos (by omega), hb, mul_f (by omega) (pw_lt s) (pw_lt s), mul_f (by omega) (pw_lt o) (pw_lt s), pw_add, pw_add, hd]
      simp only [Option.bind_some]
      by_cases h : n % 2 = 0
      · rw [if_pos (by omega), ih k _ _ _ (by omega) (by omega) (by omega)]
        congr 3
        have : n / 2 * (s + s) = n * s := by
          rw [← Nat.two_mul, ← Nat.mul_assoc, Nat.div_mul_cancel (Nat.dvd_of_mod_eq_zero h)]
        omega
      · rw [if_neg (by omega), ih k _ _ _ (by omega) (by omega) (by omega)]
        congr 3
        have e : n = 2 * (n / 2) + 1 := by omega
        have : n / 2 * (s + s) + s = n * s := by
          conv => rhs; rw [e, Nat.add_mul, Nat.one_mul]
          rw [← Nat.two_mul, ← Nat.mul_assoc, Nat.mul_comm (n/2) 2]
        omega

theorem pow_f {k : Nat} (n : Int) (hk : 300 < k) : gf_Pow.f k n = some ((pwZ n : Nat) : Int) := by
  have hl : ∀ m : Nat, m < 255 → gf_Pow.j0 k (m : Int) = some ((pw m : Nat) : Int) := by
    intro m hm
    obtain ⟨k, rfl⟩ : ∃ j, k = j + 1 := ⟨k - 1, by omega⟩
    simp only [gf_Pow.j0]
    have h := pow_l0 254 k m 0 1 (by omega) hm (by omega)
    rw [show 0 + m * 1 = m by omega] at h
    exact h
  unfold gf_Pow.f
  unfold pwZ
  have h1 := Int.tmod_eq_emod (a := n) (b := 255)
  have h3 : Int.natAbs 255 = 255 := rfl
  by_cases h : Int.tmod n 255 < 0
  · rw [if_pos h]
    have hw : wrap64 (Int.tmod n 255 + 255) = (((n % 255).toNat : Nat) : Int) := by
      unfold wrap64
      have h2 : 0 ≤ n % 255 := Int.emod_nonneg _ (by decide)
      split at h1 <;> omega
    rw [hw, hl _ (by omega)]
  · rw [if_neg h]
    have hw : Int.tmod n 255 = (((n % 255).toNat : Nat) : Int) := by
      have h2 : 0 ≤ n % 255 := Int.emod_nonneg _ (by decide)
      split at h1 <;> omega
    rw [hw, hl _ (by omega)]

theorem awake_f {k : Nat} (hk : 300 < k) : casematelaw01_awake.f k = some true := by
  unfold casematelaw01_awake.f
  have m1 := mul_f (k := k) (a := 2) (b := 128) (by omega) (by decide) (by decide)
  have m2 := mul_f (k := k) (a := 3) (b := 3) (by omega) (by decide) (by decide)
  have e1 : gmul 2 128 = 29 := by decide +kernel
  have e2 : gmul 3 3 = 5 := by decide +kernel
  have e3 : pwZ 8 = 29 := by decide +kernel
  have e4 : pwZ (-255) = 1 := by decide +kernel
  rw [e1] at m1; rw [e2] at m2
  have p1 := pow_f (k := k) 8 hk
  have p2 := pow_f (k := k) (-255) hk
  rw [e3] at p1; rw [e4] at p2
  have q1 : gf_Mul.f k 2 128 = some 29 := m1
  have q2 : gf_Mul.f k 3 3 = some 5 := m2
  have q3 : gf_Pow.f k 8 = some 29 := p1
  have q4 : gf_Pow.f k (-255) = some 1 := p2
  rw [q1, q2, q3, q4]
  rfl

/-- A byte of a row is a number below 256. -/
theorem byte_nat {a : Int} (h : (Lit.int .u8 a).wf = true) : ∃ n : Nat, n < 256 ∧ a = (n : Int) := by
  have h' : 0 ≤ a ∧ a ≤ 255 := by
    simp [Lit.wf, IntKind.min, IntKind.max, IntKind.bits, IntKind.signed] at h
    exact h
  exact ⟨a.toNat, by omega, by omega⟩

/-- The number of a byte: the search. -/
theorem log_l0 (d : Nat) : ∀ (k a n : Nat), n + d = 255 → d < 300 → d + 300 < k → a < 256 → (a = 0 ∨ n ≤ lg a) →
    gf_Log.l0 k (a : Int) ((pw n : Nat) : Int) (n : Int) = if a = 0 then some (0, 2) else some ((lg a : Int), 0) := by
  induction d with
  | zero =>
    intro k a n hn _ hk ha h
    obtain ⟨k, rfl⟩ : ∃ m, k = m + 1 := ⟨k - 1, by omega⟩
    simp only [gf_Log.l0]; rw [if_neg (by omega)]
    by_cases h0 : a = 0
    · rw [if_pos h0]
    · have := lg_lt ha h0
      omega
  | succ d ih =>
    intro k a n hn hd hk ha h
    obtain ⟨k, rfl⟩ : ∃ m, k = m + 1 := ⟨k - 1, by omega⟩
    simp only [gf_Log.l0]; rw [if_pos (by omega)]
    by_cases e : pw n = a
    · have h0 : a ≠ 0 := by rw [← e]; exact pw_ne_zero n
      have hl : lg a = n := pw_inj (lg_lt ha h0) (by omega) (by rw [pw_lg ha h0, e])
      rw [if_pos (by omega), if_neg h0, hl]
    · have hw : wrap64 ((n : Int) + 1) = ((n + 1 : Nat) : Int) := by unfold wrap64; omega
      have hm := mul_f (k := k) (a := pw n) (b := 2) (by omega) (pw_lt n) (by decide)
      have h2 : gmul (pw n) 2 = pw (n + 1) := by
        have := pw_add n 1
        exact this
      rw [h2] at hm
      have hm' : gf_Mul.f k ((pw n : Nat) : Int) 2 = some ((pw (n + 1) : Nat) : Int) := hm
      rw [if_neg (by omega), hm', hw]
      simp only [Option.bind_some]
      refine ih k a (n + 1) (by omega) (by omega) (by omega) ha ?_
      by_cases h0 : a = 0
      · exact Or.inl h0
      · right
        have h3 : n ≤ lg a := h.resolve_left h0
        have h4 : lg a ≠ n := by
          intro e2
          apply e
          rw [← e2]
          exact pw_lg ha h0
        omega

theorem log_f {k a : Nat} (hk : 600 < k) (ha : a < 256) : gf_Log.f k (a : Int) = if a = 0 then some (0, 2) else some ((lg a : Int), 0) := by
  unfold gf_Log.f
  exact log_l0 255 k a 0 (by decide) (by decide) (by omega) ha (Or.inr (Nat.zero_le _))
theorem log_zero {k : Nat} (hk : 600 < k) : gf_Log.f k 0 = some (0, 2) := log_f (a := 0) hk (by decide)
theorem log_some {k a : Nat} (hk : 600 < k) (ha : a < 256) (h : a ≠ 0) : gf_Log.f k (a : Int) = some ((lg a : Int), 0) := by
  rw [log_f hk ha, if_neg h]

end Go.Proofs.Ytdcanfjpnohhjaa.BrGfCircle
namespace Go.Proofs.Ytdcanfjpnohhjaa.OwnGfCircle
open Go.RowKit Go.Proofs.Ytdcanfjpnohhjaa.PGfInverse Go.Proofs.Ytdcanfjpnohhjaa.BrGfCircle Go.Proofs.YtdcanfjpnohhjaaW.PrintMore Go.Proofs.YtdcanfjpnohhjaaW.PrintWords Go.Proofs.YtdcanfjpnohhjaaW.PrintLast Go.Proofs.Ytdcanfjpnohhjaa.Gf
set_option linter.unusedVariables false
set_option linter.unusedSimpArgs false

def MulIs (x y r : Int) : Prop := ∀ w, Calls Try.prog 11 #[.int .u8 x, .int .u8 y] w fun e w' => e = .returned (.int .u8 r) ∧ Drawn0 w w'
theorem MulIs.calls {x y r : Int} (h : MulIs x y r) (w : World) : Calls Try.prog 11 #[.int .u8 x, .int .u8 y] w fun e w' => e = .returned (.int .u8 r) ∧ Drawn0 w w' := h w
theorem mul_is {a b : Nat} (ha : a < 256) (hb : b < 256) : MulIs (a : Int) (b : Int) ((gmul a b : Nat) : Int) := fun w =>
  gf_Mul.calls 2000 _ _ _ w (mul_f (by decide) ha hb)
def PowIs (x r : Int) : Prop := ∀ w, Calls Try.prog 15 #[.int .i64 x] w fun e w' => e = .returned (.int .u8 r) ∧ Drawn0 w w'
theorem PowIs.calls {x r : Int} (h : PowIs x r) (w : World) : Calls Try.prog 15 #[.int .i64 x] w fun e w' => e = .returned (.int .u8 r) ∧ Drawn0 w w' := h w
theorem pow_is (n : Int) : PowIs n ((pwZ n : Nat) : Int) := fun w => gf_Pow.calls 2000 _ _ w (pow_f n (by decide))
def LogIs (x r s : Int) : Prop := ∀ w, Calls Try.prog 13 #[.int .u8 x] w fun e w' => e = .returned (.tuple #[.int .i64 r, .int .i64 s]) ∧ Drawn0 w w'
theorem LogIs.calls {x r s : Int} (h : LogIs x r s) (w : World) : Calls Try.prog 13 #[.int .u8 x] w fun e w' => e = .returned (.tuple #[.int .i64 r, .int .i64 s]) ∧ Drawn0 w w' := h w
theorem awake_calls (w : World) : Calls Try.prog 12 #[] w fun e w' => e = .returned (.bool true) ∧ Drawn0 w w' :=
  casematelaw01_awake.calls 2000 true w (awake_f (by decide))

set_option maxHeartbeats 4000000 in
set_option maxRecDepth 100000 in
theorem walk_zero (n m a : Int) (w : World) (ha : (a == 0) = true) (hl : LogIs a 0 2) :
    Calls Try.prog 6 #[.int .i32 n, .int .i32 m, .int .u8 a] w fun e w' => e = .returned (.bool true) ∧ Drawn0 w w' := by
  have HL := Aside0.mk hl
  clear hl
  go_enter Try.func6, Try.ntmps6
  go_wp2_with (first | ((with_reducible refine gate_callee (f := 13) rfl ?_); refine goesL_ (some 11) rfl rfl Try.func13 (by kernel_rfl) rfl #[.int .u8 a] rfl (by (try simp only [List.map_toArray, List.map_cons, List.map_nil]); first | done | rfl | (simp only [List.length_drop, List.length_take]; rfl)) ?_; (with_reducible refine (HL.out.calls _).mono ?_); rintro e w' ⟨rfl, ⟨nd, rfl⟩⟩; refine ⟨_, rfl, ?_⟩) | (go_at_call 12; (with_reducible refine (awake_calls _).mono ?_); rintro e w' ⟨rfl, ⟨nd, rfl⟩⟩))
  go_ret
  exact ⟨by first | rfl | (simp; done) | (simp [*]; done), by repeat (first | exact Drawn0.refl _ | apply Drawn0.step)⟩

set_option maxHeartbeats 4000000 in
set_option maxRecDepth 100000 in
theorem walk_some (n m a l x y z : Int) (w : World) (ha : (a == 0) = false) (hl : LogIs a l 0) (h1 : 0 ≤ l) (h2 : l < 255) (hp : PowIs l a)
    (wn : wrap64 n = n) (wm : wrap64 m = m) (ws : wrap64 (n + m) = n + m) (wt : wrap64 (n + 255) = n + 255)
    (hx : PowIs n x) (hy : PowIs m y) (hz : PowIs (n + m) z) (hm : MulIs x y z) (hr : PowIs (n + 255) x) :
    Calls Try.prog 6 #[.int .i32 n, .int .i32 m, .int .u8 a] w fun e w' => e = .returned (.bool true) ∧ Drawn0 w w' := by
  have HL := Aside0.mk hl
  have HP := Aside0.mk hp
  have HX := Aside0.mk hx
  have HY := Aside0.mk hy
  have HZ := Aside0.mk hz
  have HM := Aside0.mk hm
  have HR := Aside0.mk hr
  clear hl hp hx hy hz hm hr
  have h1b : decide (0 ≤ l) = true := decide_eq_true h1
  have h2b : decide (l < 255) = true := decide_eq_true h2
  go_enter Try.func6, Try.ntmps6
  go_wp2_with (first | ((with_reducible refine gate_callee (f := 13) rfl ?_); refine goesL_ (some 11) rfl rfl Try.func13 (by kernel_rfl) rfl #[.int .u8 a] rfl (by (try simp only [List.map_toArray, List.map_cons, List.map_nil]); first | done | rfl | (simp only [List.length_drop, List.length_take]; rfl)) ?_; (with_reducible refine (HL.out.calls _).mono ?_); rintro e w' ⟨rfl, ⟨nd, rfl⟩⟩; refine ⟨_, rfl, ?_⟩) | (go_at_call 15; (with_reducible refine (HP.out.calls _).mono ?_); rintro e w' ⟨rfl, ⟨nd, rfl⟩⟩) | (go_at_call 15; (with_reducible refine (HX.out.calls _).mono ?_); rintro e w' ⟨rfl, ⟨nd, rfl⟩⟩) | (go_at_call 15; (with_reducible refine (HY.out.calls _).mono ?_); rintro e w' ⟨rfl, ⟨nd, rfl⟩⟩) | (go_at_call 15; (with_reducible refine (HZ.out.calls _).mono ?_); rintro e w' ⟨rfl, ⟨nd, rfl⟩⟩) | (go_at_call 15; (with_reducible refine (HR.out.calls _).mono ?_); rintro e w' ⟨rfl, ⟨nd, rfl⟩⟩) | (go_at_call 11; (with_reducible refine (HM.out.calls _).mono ?_); rintro e w' ⟨rfl, ⟨nd, rfl⟩⟩) | (go_at_call 12; (with_reducible refine (awake_calls _).mono ?_); rintro e w' ⟨rfl, ⟨nd, rfl⟩⟩))
  go_ret
  exact ⟨by first | rfl | (simp; done) | (simp [*]; done), by repeat (first | exact Drawn0.refl _ | apply Drawn0.step)⟩

theorem walk (n m a : Int) (w : World) (wn : (Lit.int .i32 n).wf = true) (wm : (Lit.int .i32 m).wf = true) (wa : (Lit.int .u8 a).wf = true) :
    Calls Try.prog 6 #[.int .i32 n, .int .i32 m, .int .u8 a] w fun e w' => e = .returned (.bool true) ∧ Below w.heap.size w w' := by
  have hn : -2147483648 ≤ n ∧ n ≤ 2147483647 := by
    simp [Lit.wf, IntKind.min, IntKind.max, IntKind.bits, IntKind.signed] at wn
    exact wn
  have hm : -2147483648 ≤ m ∧ m ≤ 2147483647 := by
    simp [Lit.wf, IntKind.min, IntKind.max, IntKind.bits, IntKind.signed] at wm
    exact wm
  obtain ⟨a, ha, rfl⟩ := byte_nat wa
  by_cases h0 : a = 0
  · subst h0
    refine (walk_zero n m _ w rfl (fun w => gf_Log.calls 2000 _ _ _ w (log_zero (by decide)))).mono ?_
    rintro e w' ⟨rfl, hd⟩
    exact ⟨rfl, hd.below⟩
  · have hl := lg_lt ha h0
    have hp := pow_is (lg a : Int)
    rw [pwZ_nat, pw_lg ha h0] at hp
    have hmm := mul_is (pwZ_lt n) (pwZ_lt m)
    rw [pwZ_add] at hmm
    have hr := pow_is (n + 255)
    rw [(pwZ_eq_iff (n + 255) n).2 (by omega)] at hr
    refine (walk_some n m (a : Int) (lg a : Int) _ _ _ w (by rw [beq_eq_false_iff_ne]; omega) (fun w => gf_Log.calls 2000 _ _ _ w (log_some (by decide) ha h0)) (by omega) (by omega) hp (by unfold wrap64; omega) (by unfold wrap64; omega) (by unfold wrap64; omega) (by unfold wrap64; omega) (pow_is n) (pow_is m) (pow_is (n + m)) hmm hr).mono ?_
    rintro e w' ⟨rfl, hd⟩
    exact ⟨rfl, hd.below⟩
end Go.Proofs.Ytdcanfjpnohhjaa.OwnGfCircle
namespace Go.Proofs.Ytdcanfjpnohhjaa.gfCircle
open Go.ChangeShapes Go.WideShapes Go.ChangeAt Go.RowKit
open Go.ChangeMaps (open_string shut_string)
set_option linter.unusedVariables false
theorem own : ownKnob Try.prog.godebug = none := by kernel_rfl
set_option maxRecDepth 100000 in
theorem lifted (os : Os) (started : os.Started) (H : Type) (enc : TypeId × Value → H) :
    ReturnsInHanded {} Try.checked os 6 .any (Rows.gfCircleSpec.pre6 enc Try.prog Try.f6 Rows.gfCircleRow.domain false) (Rows.gfCircleSpec.post enc Try.prog Try.f6 false true false false) := by
  refine returnsInHanded_of_change_sized (C := Try.checked) own started (by kernel_rfl) Try.func6
    (ChangeSpec.witness6 (enc := enc) (C := Try.checked) false ⟨#[], #[.int .i32 0, .int .i32 0, .int .u8 0], []⟩ 8 (by kernel_rfl) (by kernel_rfl) (by kernel_rfl) (by kernel_rfl)) ?_
  intro W base args ds gs before hval0 hW hcnd hsz0 _
  have hsz : (DataW.weightsEach Try.prog (Try.f6.params.toList ++ Rows.gfCircleSpec.plain.varTypes Try.prog) (ds ++ gs)).all (· ≤ reachBytes) = true := hsz0
  have hval : ∀ (j : Nat) t v, Try.f6.params[j]? = some t → args[j]? = some v → Value.okWide Try.prog W .any base t v := hval0
  have hW' := hW
  obtain ⟨p, q, hA0, hV, rfl, hfz, hnd⟩ := hW
  have hA : DataW.TrodAll enc Try.prog W 0 (fun _ => true) true Try.f6.params.toList args.toList ds p := hA0
  rw [Try.params6] at hA hval hsz
  obtain ⟨v0, vs0, d0, ds0, p0, q0, hargs, rfl, rfl, h0, r0⟩ := trodAll_cons hA
  obtain ⟨v1, vs1, d1, ds1, p1, q1, rfl, rfl, rfl, h1, r1⟩ := trodAll_cons r0
  obtain ⟨v2, vs2, d2, ds2, p2, q2, rfl, rfl, rfl, h2, r2⟩ := trodAll_cons r1
  obtain ⟨rfl, rfl, rfl⟩ := trodAll_nil r2
  obtain rfl : args = #[v0, v1, v2] := by cases args; simp_all
  obtain ⟨rfl, rfl⟩ := trodVars_none hV
  obtain ⟨a0, rfl, rfl, rfl, w0⟩ := open_int Try.underlying21 (hval 0 21 v0 rfl rfl) h0
  obtain ⟨a1, rfl, rfl, rfl, w1⟩ := open_int Try.underlying21 (hval 1 21 v1 rfl rfl) h1
  obtain ⟨a2, rfl, rfl, rfl, w2⟩ := open_int Try.underlying5 (hval 2 5 v2 rfl rfl) h2
  clear hA0 hval0 hsz0 hsz
  refine (OwnGfCircle.walk a0 a1 a2 W w0 w1 w2).mono fun e W' ⟨he, bel⟩ => ?_
  subst he
  exact ⟨_, rfl, _, _, _, [], _, [], hW', trodAll_mk1 (shut_bool Try.underlying4 _), (trodAll_cons_mk (shut_int Try.underlying21 w0) (trodAll_cons_mk (shut_int Try.underlying21 w1) (trodAll_cons_mk (shut_int Try.underlying5 w2) trodAll_mk0))), rfl, bel.frame _, fun h => by cases h⟩
theorem over : Rows.gfCircleRow.holds Try.pinned (OpenSpec.ofChange Rows.gfCircleSpec) :=
  OpenClaim.holds_of_wide 6 Try.f6 rfl rfl rfl rfl rfl rfl rfl ⟨rfl, rfl, rfl, rfl, rfl⟩ rfl rfl rfl rfl rfl (by kernel_rfl) Try.func6 (by kernel_rfl)
    (of_decide_eq_true (by kernel_rfl)) (by unfold Func.isWrapper; first | (rw [if_pos (by decide +kernel)]; kernel_rfl) | (rw [if_neg (by decide +kernel)]; exact ⟨rfl, rfl⟩))
    (fun os started H enc _ => lifted os started H enc)
theorem proved : Rows.GfCircleSaid := over
#print axioms proved
end Go.Proofs.Ytdcanfjpnohhjaa.gfCircle
namespace Go.Proofs.Ytdcanfjpnohhjaa
/-- The row, under a short name, for the claim. -/
theorem gfCircle_holds : Rows.GfCircleSaid := gfCircle.proved
end Go.Proofs.Ytdcanfjpnohhjaa
