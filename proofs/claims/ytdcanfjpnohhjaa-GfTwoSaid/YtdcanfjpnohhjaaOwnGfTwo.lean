/- Two bytes are told by their sum and by the sum of their products with unlike powers of two: of all bytes and powers of 16 bits, no condition. -/
import Derived.Test.YtdcanfjpnohhjaaRows
import Derived.Test.YtdcanfjpnohhjaaPGfTwox1
import Derived.Test.YtdcanfjpnohhjaaGf
import Derived.Laws.BitsLemmas
import Derived.WalkKit
import Derived.ProofKit
import Derived.OpenShut
import Derived.ShutString
import Derived.ChangeOld
import Derived.Below
import Derived.SizedLaws
import Derived.Lib.SmallJoins
namespace Go.Proofs.Ytdcanfjpnohhjaa.BrGfTwo
open Go.Proofs.YtdcanfjpnohhjaaW.PrintMore Go.RowKit Go.Proofs.Ytdcanfjpnohhjaa.PGfTwo Go.Proofs.YtdcanfjpnohhjaaW.PrintWords Go.Proofs.YtdcanfjpnohhjaaW.PrintLast Go.Proofs.Ytdcanfjpnohhjaa.Gf

theorem xor8 {a b : Nat} (ha : a < 256) (hb : b < 256) : Go.bits .xor .u8 (a : Int) (b : Int) = ((a ^^^ b : Nat) : Int) := by
  have h := xor_lt ha hb
  have e : (BitVec.ofNat 8 a ^^^ BitVec.ofNat 8 b).toNat = a ^^^ b := by
    rw [BitVec.toNat_xor, BitVec.toNat_ofNat, BitVec.toNat_ofNat, Nat.mod_eq_of_lt (by omega), Nat.mod_eq_of_lt (by omega)]
  show IntKind.u8.wrap (((BitVec.ofInt 8 (a : Int) ^^^ BitVec.ofInt 8 (b : Int)).toNat : Nat) : Int) = _
  rw [BitVec.ofInt_natCast, BitVec.ofInt_natCast, e, IntKind.wrap_u8]
  omega

theorem and1_8 {b : Nat} (hb : b < 256) : Go.bits .and .u8 (b : Int) 1 = ((b % 2 : Nat) : Int) := by
  have h := bits_mask .u8 8 (by decide) wraps_u8 1 (by decide) (b : Int) (by omega) (by omega)
  rw [show (1 : Int) = 2 ^ 1 - 1 from rfl, h]; omega

theorem xt8 (a : Nat) : Go.bits .xor .u8 (((a : Int) * 2) % 256) ((((a : Int) / 128) * 29) % 256) = ((xt a : Nat) : Int) := by
  have h := xor8 (a := a * 2 % 256) (b := a / 128 * 29 % 256) (Nat.mod_lt _ (by decide)) (Nat.mod_lt _ (by decide))
  unfold xt
  rw [← h]
  congr 1

theorem mul_l0 (n : Nat) : ∀ (k a b o : Nat) (i : Int), i = 8 - (n : Int) → n ≤ 8 → n < k → a < 256 → b < 256 → o < 256 →
    gf_Mul.l0 k (a : Int) (b : Int) (o : Int) i = some ((mstep n a b o : Nat) : Int) := by
  induction n with
  | zero =>
    intro k a b o i hi _ hk _ _ _
    obtain ⟨k, rfl⟩ : ∃ m, k = m + 1 := ⟨k - 1, by omega⟩
    simp only [gf_Mul.l0]; rw [if_neg (by omega)]; rfl
  | succ n ih =>
    intro k a b o i hi hn hk ha hb ho
    obtain ⟨k, rfl⟩ : ∃ m, k = m + 1 := ⟨k - 1, by omega⟩
    have hw : wrap64 (i + 1) = i + 1 := by unfold wrap64; omega
    have hd : ((b : Int) / 2) = ((b / 2 : Nat) : Int) := by omega
    simp only [gf_Mul.l0]
    rw [if_pos (by omega), and1_8 hb, xt8 a, hw, hd, xor8 ho ha]
    by_cases h : b % 2 = 0
    · rw [if_pos (by omega), ih k _ _ _ _ (by omega) (by omega) (by omega) (xt_lt ha) (by omega) ho]
      simp [mstep, h]
    · rw [if_neg (by omega), ih k _ _ _ _ (by omega) (by omega) (by omega) (xt_lt ha) (by omega) (xor_lt ho ha)]
      simp [mstep, h]

theorem mul_f {k a b : Nat} (hk : 8 < k) (ha : a < 256) (hb : b < 256) : gf_Mul.f k (a : Int) (b : Int) = some ((gmul a b : Nat) : Int) := by
  unfold gf_Mul.f
  exact mul_l0 8 k a b 0 0 (by decide) (by decide) hk ha hb (by decide)

/-- Square and multiply. -/
theorem pow_l0 (d : Nat) : ∀ (k n o s : Nat), n ≤ d → n < 255 → d + 9 < k →
    gf_Pow.l0 k (n : Int) ((pw o : Nat) : Int) ((pw s : Nat) : Int) = some ((pw (o + n * s) : Nat) : Int) := by
  induction d with
  | zero =>
    intro k n o s hn hn' hk
    obtain ⟨k, rfl⟩ : ∃ m, k = m + 1 := ⟨k - 1, by omega⟩
    obtain rfl : n = 0 := by omega
    simp [gf_Pow.l0]
  | succ d ih =>
    intro k n o s hn hn' hk
    obtain ⟨k, rfl⟩ : ∃ m, k = m + 1 := ⟨k - 1, by omega⟩
    by_cases h0 : n = 0
    · subst h0; simp [gf_Pow.l0]
    · have hb : Go.bits .and .i64 (n : Int) 1 = ((n % 2 : Nat) : Int) := by
        have h := bits_mask .i64 63 (by decide) (fun m h0 h1 => by simp [IntKind.wrap, IntKind.bits, IntKind.signed] at *; omega) 1 (by decide) (n : Int) (by omega) (by omega)
        rw [show (1 : Int) = 2 ^ 1 - 1 from rfl, h]; omega
      have hd : ((n : Int) / 2) = ((n / 2 : Nat) : Int) := by omega
      simp only [gf_Pow.l0]
      rw [if_pos (by omega), hb, mul_f (by omega) (pw_lt s) (pw_lt s), mul_f (by omega) (pw_lt o) (pw_lt s), pw_add, pw_add, hd]
      simp only [Option.bind_some]
      by_cases h : n % 2 = 0
      · rw [if_pos (by omega), ih k _ _ _ (by omega) (by omega) (by omega)]
        congr 3
        have : n / 2 * (s + s) = n * s := by
          rw [← Nat.two_mul, ← Nat.mul_assoc, Nat.div_mul_cancel (Nat.dvd_of_mod_eq_zero h)]
        omega
      · rw [if_neg (by omega), ih k _ _ _ (by omega) (by omega) (by omega)]
        congr 3
        have e : n = 2 * (n / 2) + 1 := by omega
        have : n / 2 * (s + s) + s = n * s := by
          conv => rhs; rw [e, Nat.add_mul, Nat.one_mul]
          rw [← Nat.two_mul, ← Nat.mul_assoc, Nat.mul_comm (n/2) 2]
        omega

theorem pow_f {k : Nat} (n : Int) (hk : 300 < k) : gf_Pow.f k n = some ((pwZ n : Nat) : Int) := by
  have hl : ∀ m : Nat, m < 255 → gf_Pow.j0 k (m : Int) = some ((pw m : Nat) : Int) := by
    intro m hm
    obtain ⟨k, rfl⟩ : ∃ j, k = j + 1 := ⟨k - 1, by omega⟩
    simp only [gf_Pow.j0]
    have h := pow_l0 254 k m 0 1 (by omega) hm (by omega)
    rw [show 0 + m * 1 = m by omega] at h
    exact h
  unfold gf_Pow.f
  unfold pwZ
  have h1 := Int.tmod_eq_emod (a := n) (b := 255)
  have h3 : Int.natAbs 255 = 255 := rfl
  by_cases h : Int.tmod n 255 < 0
  · rw [if_pos h]
    have hw : wrap64 (Int.tmod n 255 + 255) = (((n % 255).toNat : Nat) : Int) := by
      unfold wrap64
      have h2 : 0 ≤ n % 255 := Int.emod_nonneg _ (by decide)
      split at h1 <;> omega
    rw [hw, hl _ (by omega)]
  · rw [if_neg h]
    have hw : Int.tmod n 255 = (((n % 255).toNat : Nat) : Int) := by
      have h2 : 0 ≤ n % 255 := Int.emod_nonneg _ (by decide)
      split at h1 <;> omega
    rw [hw, hl _ (by omega)]

theorem awake_f {k : Nat} (hk : 300 < k) : casematelaw01_awake.f k = some true := by
  unfold casematelaw01_awake.f
  have m1 := mul_f (k := k) (a := 2) (b := 128) (by omega) (by decide) (by decide)
  have m2 := mul_f (k := k) (a := 3) (b := 3) (by omega) (by decide) (by decide)
  have e1 : gmul 2 128 = 29 := by decide +kernel
  have e2 : gmul 3 3 = 5 := by decide +kernel
  have e3 : pwZ 8 = 29 := by decide +kernel
  have e4 : pwZ (-255) = 1 := by decide +kernel
  rw [e1] at m1; rw [e2] at m2
  have p1 := pow_f (k := k) 8 hk
  have p2 := pow_f (k := k) (-255) hk
  rw [e3] at p1; rw [e4] at p2
  have q1 : gf_Mul.f k 2 128 = some 29 := m1
  have q2 : gf_Mul.f k 3 3 = some 5 := m2
  have q3 : gf_Pow.f k 8 = some 29 := p1
  have q4 : gf_Pow.f k (-255) = some 1 := p2
  rw [q1, q2, q3, q4]
  rfl

/-- A byte of a row is a number below 256. -/
theorem byte_nat {a : Int} (h : (Lit.int .u8 a).wf = true) : ∃ n : Nat, n < 256 ∧ a = (n : Int) := by
  have h' : 0 ≤ a ∧ a ≤ 255 := by
    simp [Lit.wf, IntKind.min, IntKind.max, IntKind.bits, IntKind.signed] at h
    exact h
  exact ⟨a.toNat, by omega, by omega⟩

/-- The number of a byte: the search. -/
theorem log_l0 (d : Nat) : ∀ (k a n : Nat), n + d = 255 → d < 300 → d + 300 < k → a < 256 → (a = 0 ∨ n ≤ lg a) →
    gf_Log.l0 k (a : Int) ((pw n : Nat) : Int) (n : Int) = if a = 0 then some (0, 2) else some ((lg a : Int), 0) := by
  induction d with
  | zero =>
    intro k a n hn _ hk ha h
    obtain ⟨k, rfl⟩ : ∃ m, k = m + 1 := ⟨k - 1, by omega⟩
    simp only [gf_Log.l0]; rw [if_neg (by omega)]
    by_cases h0 : a = 0
    · rw [if_pos h0]
    · have := lg_lt ha h0
      omega
  | succ d ih =>
    intro k a n hn hd hk ha h
    obtain ⟨k, rfl⟩ : ∃ m, k = m + 1 := ⟨k - 1, by omega⟩
    simp only [gf_Log.l0]; rw [if_pos (by omega)]
    by_cases e : pw n = a
    · have h0 : a ≠ 0 := by rw [← e]; exact pw_ne_zero n
      have hl : lg a = n := pw_inj (lg_lt ha h0) (by omega) (by rw [pw_lg ha h0, e])
      rw [if_pos (by omega), if_neg h0, hl]
    · have hw : wrap64 ((n : Int) + 1) = ((n + 1 : Nat) : Int) := by unfold wrap64; omega
      have hm := mul_f (k := k) (a := pw n) (b := 2) (by omega) (pw_lt n) (by decide)
      have h2 : gmul (pw n) 2 = pw (n + 1) := by
        have := pw_add n 1
        exact this
      rw [h2] at hm
      have hm' : gf_Mul.f k ((pw n : Nat) : Int) 2 = some ((pw (n + 1) : Nat) : Int) := hm
      rw [if_neg (by omega), hm', hw]
      simp only [Option.bind_some]
      refine ih k a (n + 1) (by omega) (by omega) (by omega) ha ?_
      by_cases h0 : a = 0
      · exact Or.inl h0
      · right
        have h3 : n ≤ lg a := h.resolve_left h0
        have h4 : lg a ≠ n := by
          intro e2
          apply e
          rw [← e2]
          exact pw_lg ha h0
        omega

theorem log_f {k a : Nat} (hk : 600 < k) (ha : a < 256) : gf_Log.f k (a : Int) = if a = 0 then some (0, 2) else some ((lg a : Int), 0) := by
  unfold gf_Log.f
  exact log_l0 255 k a 0 (by decide) (by decide) (by omega) ha (Or.inr (Nat.zero_le _))
theorem log_zero {k : Nat} (hk : 600 < k) : gf_Log.f k 0 = some (0, 2) := log_f (a := 0) hk (by decide)
theorem log_some {k a : Nat} (hk : 600 < k) (ha : a < 256) (h : a ≠ 0) : gf_Log.f k (a : Int) = some ((lg a : Int), 0) := by
  rw [log_f hk ha, if_neg h]

theorem inv_f {k a : Nat} (hk : 600 < k) (ha : a < 256) (h : a ≠ 0) : gf_Inv.f k (a : Int) = some (((ginv a : Nat) : Int), 0) := by
  unfold gf_Inv.f
  rw [log_some hk ha h]
  simp only [Option.bind_some, if_true]
  have hl := lg_lt ha h
  have hw : wrap64 (-(lg a : Int)) = -(lg a : Int) := by unfold wrap64; omega
  rw [hw, pow_f _ (by omega)]
  rfl
theorem inv_zero {k : Nat} (hk : 600 < k) : gf_Inv.f k 0 = some (0, 2) := by
  unfold gf_Inv.f
  rw [log_zero hk]
  rfl
theorem div_f {k a b : Nat} (hk : 600 < k) (ha : a < 256) (hb : b < 256) (h : b ≠ 0) : gf_Div.f k (a : Int) (b : Int) = some (((gmul a (ginv b) : Nat) : Int), 0) := by
  unfold gf_Div.f
  rw [inv_f hk hb h]
  simp only [Option.bind_some, if_true]
  rw [mul_f (by omega) ha (ginv_lt b)]
  rfl
theorem div_zero {k : Nat} (a : Int) (hk : 600 < k) : gf_Div.f k a 0 = some (0, 2) := by
  unfold gf_Div.f
  rw [inv_zero hk]
  rfl

theorem byte_rng {a : Int} (h : (Lit.int .i16 a).wf = true) : -32768 ≤ a ∧ a ≤ 32767 := by
  simp [Lit.wf, IntKind.min, IntKind.max, IntKind.bits, IntKind.signed] at h
  exact h

theorem two_f {k x y : Nat} {i j : Int} (hk : 1000 < k) (hx : x < 256) (hy : y < 256) (hi : -32768 ≤ i ∧ i ≤ 32767) (hj : -32768 ≤ j ∧ j ≤ 32767) :
    casematelaw01_GfTwo.f k (x : Int) (y : Int) i j = some true := by
  have wi : wrap64 i = i := by unfold wrap64; omega
  have wj : wrap64 j = j := by unfold wrap64; omega
  have wd : wrap64 (i - j) = i - j := by unfold wrap64; omega
  have ht := Int.tmod_eq_emod (a := i - j) (b := 255)
  have h3 : Int.natAbs 255 = 255 := rfl
  have hz : Int.tmod (i - j) 255 = 0 ↔ pwZ i = pwZ j := by
    rw [pwZ_eq_iff]
    split at ht <;> omega
  have ha := pwZ_lt i
  have hb := pwZ_lt j
  have hax : gmul (pwZ i) x < 256 := gmul_lt ha
  have hby : gmul (pwZ j) y < 256 := gmul_lt hb
  unfold casematelaw01_GfTwo.f
  rw [wi, wj, wd, pow_f _ (by omega), pow_f _ (by omega)]
  simp only [Option.bind_some]
  rw [mul_f (by omega) ha hx, mul_f (by omega) hb hy]
  simp only [Option.bind_some]
  rw [xor8 hx hy, xor8 hax hby, xor8 ha hb, mul_f (by omega) ha (xor_lt hx hy)]
  simp only [Option.bind_some]
  by_cases e : pwZ i = pwZ j
  · rw [if_pos (by omega), if_pos (hz.2 e), gmul_xor_right, e, if_pos rfl, awake_f (by omega)]
    rfl
  · have hne : pwZ i ^^^ pwZ j ≠ 0 := by
      intro h7
      apply e
      have h8 : (pwZ i ^^^ pwZ j) ^^^ pwZ j = 0 ^^^ pwZ j := by rw [h7]
      rw [Nat.xor_assoc, Nat.xor_self, Nat.xor_zero, Nat.zero_xor] at h8
      exact h8
    have hab := xor_lt ha hb
    have hq : gmul (pwZ i) x ^^^ gmul (pwZ j) y ^^^ gmul (pwZ i) (x ^^^ y) = gmul (pwZ i ^^^ pwZ j) y := by
      rw [gmul_xor_right, gmul_xor_left _ ha hb]
      rw [show gmul (pwZ i) x ^^^ gmul (pwZ j) y ^^^ (gmul (pwZ i) x ^^^ gmul (pwZ i) y) = gmul (pwZ i) y ^^^ gmul (pwZ j) y ^^^ (gmul (pwZ i) x ^^^ gmul (pwZ i) x) by ac_rfl]
      simp
    have hy2 : gmul (gmul (pwZ i ^^^ pwZ j) y) (ginv (pwZ i ^^^ pwZ j)) = y := by
      rw [gmul_comm hab hy, gmul_assoc hy hab (ginv_lt _), gmul_ginv hab hne, gmul_one_right y hy]
    have hx2 : x ^^^ y ^^^ y = x := by rw [Nat.xor_assoc, Nat.xor_self, Nat.xor_zero]
    rw [if_neg (by omega), xor8 (xor_lt hax hby) (gmul_lt ha), hq, div_f (by omega) (gmul_lt hab) hab hne, hy2]
    simp only [Option.bind_some, if_true]
    rw [if_neg (fun h => e (hz.1 h)), xor8 (xor_lt hx hy) hy, hx2, awake_f (by omega)]
    simp

end Go.Proofs.Ytdcanfjpnohhjaa.BrGfTwo
namespace Go.Proofs.Ytdcanfjpnohhjaa.gfTwo
open Go.ChangeShapes Go.WideShapes Go.ChangeAt Go.RowKit
open Go.ChangeMaps (open_string shut_string)
set_option linter.unusedVariables false
theorem own : ownKnob Try.prog.godebug = none := by kernel_rfl
theorem Try.cells45 : Try.prog.cellsOf 45 = 4 := by kernel_rfl
theorem walk (a b c d : Int) (w : World) (wa : (Lit.int .u8 a).wf = true) (wb : (Lit.int .u8 b).wf = true) (wc : (Lit.int .i16 c).wf = true) (wd : (Lit.int .i16 d).wf = true) :
    Calls Try.prog 10 #[.agg #[.int .u8 a, .int .u8 b, .int .i16 c, .int .i16 d]] w fun e w' => e = .returned (.bool true) ∧ Below w.heap.size w w' := by
  obtain ⟨a, ha, rfl⟩ := BrGfTwo.byte_nat wa
  obtain ⟨b, hb, rfl⟩ := BrGfTwo.byte_nat wb
  exact PGfTwo.casematelaw01_GfTwo.calls 2000 _ _ _ _ true w (BrGfTwo.two_f (by decide) ha hb (BrGfTwo.byte_rng wc) (BrGfTwo.byte_rng wd))
set_option maxRecDepth 100000 in
theorem lifted (os : Os) (started : os.Started) (H : Type) (enc : TypeId × Value → H) :
    ReturnsInHanded {} Try.checked os 10 .any (Rows.gfTwoSpec.pre6 enc Try.prog Try.f10 Rows.gfTwoRow.domain false) (Rows.gfTwoSpec.post enc Try.prog Try.f10 false true false false) := by
  refine returnsInHanded_of_change_sized (C := Try.checked) own started (by kernel_rfl) Try.func10
    (ChangeSpec.witness6 (enc := enc) (C := Try.checked) false ⟨#[], #[.agg #[.int .u8 0, .int .u8 0, .int .i16 0, .int .i16 0]], []⟩ 8 (by kernel_rfl) (by kernel_rfl) (by kernel_rfl) (by kernel_rfl)) ?_
  intro W base args ds gs before hval0 hW hcnd hsz0 _
  have hsz : (DataW.weightsEach Try.prog (Try.f10.params.toList ++ Rows.gfTwoSpec.plain.varTypes Try.prog) (ds ++ gs)).all (· ≤ reachBytes) = true := hsz0
  have hval : ∀ (j : Nat) t v, Try.f10.params[j]? = some t → args[j]? = some v → Value.okWide Try.prog W .any base t v := hval0
  have hW' := hW
  obtain ⟨p, q, hA0, hV, rfl, hfz, hnd⟩ := hW
  have hA : DataW.TrodAll enc Try.prog W 0 (fun _ => true) true Try.f10.params.toList args.toList ds p := hA0
  rw [Try.params10] at hA hval hsz
  obtain ⟨v0, d0, rfl, rfl, h0⟩ := trodAll_one hA
  obtain ⟨rfl, rfl⟩ := trodVars_none hV
  obtain ⟨c0, c1, c2, c3, y0, y1, y2, y3, m, rfl, rfl, rfl, hy0, hy1, hy2, hy3⟩ := Joins.open_agg4 Try.underlying45 (by kernel_rfl) Try.cells45 (hval 0 45 v0 rfl rfl) h0
  obtain ⟨a, e0, rfl, wa⟩ := DataW.trod_int Try.underlying5 hy0
  obtain ⟨b, e1, rfl, wb⟩ := DataW.trod_int Try.underlying5 hy1
  obtain ⟨c, e2, rfl, wc⟩ := DataW.trod_int Try.underlying43 hy2
  obtain ⟨d, e3, rfl, wd⟩ := DataW.trod_int Try.underlying43 hy3
  simp at e0 e1 e2 e3
  subst e0 e1 e2 e3
  clear hA0 hval0 hsz0 hsz
  simp only [List.append_nil] at hW'
  have structReads : ∀ (W' : World) (sp : Nat → Bool), DataW.Trod enc Try.prog W' 0 sp true 45 (.agg #[.int .u8 a, .int .u8 b, .int .i16 c, .int .i16 d]) (.agg [.lit (.int .u8 a), .lit (.int .u8 b), .lit (.int .i16 c), .lit (.int .i16 d)]) [] := fun W' sp =>
    Joins.shut_agg4 (y0 := (.lit (.int .u8 a), [])) (y1 := (.lit (.int .u8 b), [])) (y2 := (.lit (.int .i16 c), [])) (y3 := (.lit (.int .i16 d), [])) Try.underlying45 (by kernel_rfl) Try.cells45 ⟨1, by simp [DataW.trod, Try.underlying5, wa]⟩ ⟨1, by simp [DataW.trod, Try.underlying5, wb]⟩ ⟨1, by simp [DataW.trod, Try.underlying43, wc]⟩ ⟨1, by simp [DataW.trod, Try.underlying43, wd]⟩
  refine (walk a b c d W wa wb wc wd).mono fun e W' ⟨he, bel⟩ => ?_
  subst he
  exact ⟨_, rfl, _, _, _, [], _, [], hW', trodAll_mk1 (shut_bool Try.underlying4 _), trodAll_mk1 (structReads _ _), rfl, bel.frame _, fun h => by cases h⟩
theorem over : Rows.gfTwoRow.holds Try.pinned (OpenSpec.ofChange Rows.gfTwoSpec) :=
  OpenClaim.holds_of_wide 10 Try.f10 rfl rfl rfl rfl rfl rfl rfl ⟨rfl, rfl, rfl, rfl, rfl⟩ rfl rfl rfl rfl rfl (by kernel_rfl) Try.func10 (by kernel_rfl)
    (of_decide_eq_true (by kernel_rfl)) (by unfold Func.isWrapper; first | (rw [if_pos (by decide +kernel)]; kernel_rfl) | (rw [if_neg (by decide +kernel)]; exact ⟨rfl, rfl⟩))
    (fun os started H enc _ => lifted os started H enc)
theorem proved : Rows.GfTwoSaid := over
#print axioms proved
end Go.Proofs.Ytdcanfjpnohhjaa.gfTwo
namespace Go.Proofs.Ytdcanfjpnohhjaa
/-- The row, under a short name, for the claim. -/
theorem gfTwo_holds : Rows.GfTwoSaid := gfTwo.proved
end Go.Proofs.Ytdcanfjpnohhjaa
