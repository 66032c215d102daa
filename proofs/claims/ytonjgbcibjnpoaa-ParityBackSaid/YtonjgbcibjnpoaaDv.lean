/- gf.Log, gf.Inv, gf.Div: the kit's printed walks of these three (function by function as printed), and what they compute. -/
import Derived.Test.YtonjgbcibjnpoaaPb
namespace Go.Proofs.Ytonjgbcibjnpoaa.Dv
open Go.RowKit Go.Proofs.YtonjgbcibjnpoaaW.PrintWords Go.Proofs.YtonjgbcibjnpoaaW.PrintLast Go.Proofs.YtonjgbcibjnpoaaW.PrintMore Go.Proofs.Ytonjgbcibjnpoaa.PParityOf Go.Proofs.Ytonjgbcibjnpoaa.Gf Go.Proofs.Ytonjgbcibjnpoaa.Pb
attribute [local go_sem] max2_int min2_int max_two min_two max_three min_three max_four min_four   -- for this text's walks alone
set_option linter.unusedVariables false
set_option linter.unusedSimpArgs false
def gf_Log.l0 : Nat → Int → Int → Int → Option (Int × Int)
  | 0, _, _, _ => none
  | k + 1, x0, x4, x6 => if x6 < 255 then (if x4 = x0 then (some (x6, 0)) else ((gf_Mul.f k x4 2).bind fun t238 => (gf_Log.l0 k x0 t238 (wrap64 (x6 + 1))))) else (some (0, 2))
def gf_Log.f (k : Nat) (a0 : Int) : Option (Int × Int) := gf_Log.l0 k a0 1 0
theorem gf_Log.mono_l : ∀ k, (∀ y0 y1 y2, LeO (gf_Log.l0 k y0 y1 y2) (gf_Log.l0 (k + 1) y0 y1 y2))
  | 0 => fun _ _ _ r h => by simp [gf_Log.l0] at h
  | k + 1 => by
    have ih0 := gf_Log.mono_l k
    · intro y0 y1 y2
      unfold gf_Log.l0
      repeat' first
      | (with_reducible exact ih0 _ _ _)
      | (with_reducible exact gf_Mul.mono _ _ _)
      | (with_reducible exact LeO.refl _)
      | (with_reducible exact LeO.none _)
      | (with_reducible refine LeO.ite ?_ ?_)
      | (with_reducible refine LeO.bind ?_ (fun _ => ?_))
      | exact ih0 _ _ _
      | exact gf_Mul.mono _ _ _
      | exact LeO.none _
      | refine LeO.ite ?_ ?_
      | refine LeO.bind ?_ (fun _ => ?_)
theorem gf_Log.mono : ∀ a0 k, LeO (gf_Log.f k a0) (gf_Log.f (k + 1) a0) := by
  intro a0 k
  have ih0 := gf_Log.mono_l k
  unfold gf_Log.f
  repeat' first
      | (with_reducible exact ih0 _ _ _)
      | (with_reducible exact gf_Mul.mono _ _ _)
      | (with_reducible exact LeO.refl _)
      | (with_reducible exact LeO.none _)
      | (with_reducible refine LeO.ite ?_ ?_)
      | (with_reducible refine LeO.bind ?_ (fun _ => ?_))
      | exact ih0 _ _ _
      | exact gf_Mul.mono _ _ _
      | exact LeO.none _
      | refine LeO.ite ?_ ?_
      | refine LeO.bind ?_ (fun _ => ?_)
set_option maxHeartbeats 8000000 in
set_option maxRecDepth 100000 in
theorem gf_Log.calls (k : Nat) (a0 : Int) (r1 : Int) (r2 : Int) (w : World) (h : gf_Log.f k a0 = some (r1, r2)) :
    Calls Try.prog 62 #[.int .u8 a0] w fun e w' => e = .returned (.tuple #[.int .i64 r1, .int .i64 r2]) ∧ Drawn0 w w' := by
  have H : (gf_Log.l0 k a0 1 0) = some (r1, r2) := h
  clear h
  have H' := Aside0.mk H
  clear H
  go_enter Try.func62, Try.ntmps62
  go_wp2
  go_loopg [4, 6] k (fun kq v4 v6 w' => ∃ (x4_1 : Int) (x6_1 : Int), v4 = .int .u8 x4_1 ∧ v6 = .int .i64 x6_1 ∧ Aside0 (gf_Log.l0 kq a0 x4_1 x6_1 = some (r1, r2)) ∧ Aside0 (kq ≤ k) ∧ Drawn0 w w')
  case atStart => exact ⟨(1), (0), (by first | rfl | (simp; done) | (simp [*]; done)), (by first | rfl | (simp; done) | (simp [*]; done)), H', ⟨Nat.le_refl _⟩, by repeat (first | exact Drawn0.refl _ | apply Drawn0.step)⟩
  case round =>
    clear H'
    obtain ⟨x4_1, x6_1, rfl, rfl, HA, HK1, ⟨m1, rfl⟩⟩ := hrel
    cases gk with
    | zero => exact absurd HA.out (by simp [gf_Log.l0])
    | succ k1 =>
      have H := HA.out
      clear HA
      simp only [gf_Log.l0] at H
      by_cases c2 : x6_1 < 255
      · rw [if_pos c2] at H
        have c2b0 : decide (x6_1 < 255) = true := decide_eq_true c2
        clear c2
        by_cases c3 : x4_1 = a0
        · rw [if_pos c3] at H
          have c3b0 : (x4_1 == a0) = true := beq_iff_eq.mpr c3
          have c3b1 : (x4_1 != a0) = false := bne_eq_false_iff_eq.mpr c3
          clear c3
          simp only [Option.some.injEq, Prod.mk.injEq] at H
          obtain ⟨rfl, rfl⟩ := H
          go_wp2
          go_ret2
          exact ⟨by first | rfl | (simp; done) | (simp [*]; done), by repeat (first | exact Drawn0.refl _ | apply Drawn0.step)⟩
        · rw [if_neg c3] at H
          have c3b0 : (x4_1 == a0) = false := beq_eq_false_iff_ne.mpr c3
          have c3b1 : (x4_1 != a0) = true := bne_iff_ne.mpr c3
          replace H := Option.bind_eq_some_iff.mp H
          obtain ⟨t238, A40, H⟩ := H
          replace H : (gf_Log.l0 k1 a0 t238 (wrap64 (x6_1 + 1))) = some (r1, r2) := H
          have A4 := Aside0.mk A40
          clear A40
          have H' := Aside0.mk H
          clear H
          go_wp2_with (first | ((with_reducible refine gate_callee (f := 42) rfl ?_); refine goesL_ (some 14) rfl rfl Try.func42 (by kernel_rfl) rfl #[.int .u8 x4_1, .int .u8 2] rfl (by (try simp only [List.map_toArray, List.map_cons, List.map_nil]); first | done | rfl | (simp only [List.length_drop, List.length_take]; rfl)) ?_; (with_reducible refine (gf_Mul.calls k1 x4_1 2 t238 _ A4.out).mono ?_); rintro e w' ⟨rfl, ⟨nd, rfl⟩⟩; refine ⟨_, rfl, ?_⟩))
          go_roundg k1
          case measure => have := HK1.out; omega
          case rel => exact ⟨(t238), (wrap64 (x6_1 + 1)), (by first | rfl | (simp; done) | (simp [*]; done)), (by first | rfl | (simp; done) | (simp [*]; done)), H', ⟨by have := HK1.out; omega⟩, by repeat (first | exact Drawn0.refl _ | apply Drawn0.step)⟩
      · rw [if_neg c2] at H
        have c2b0 : decide (x6_1 < 255) = false := decide_eq_false c2
        clear c2
        simp only [Option.some.injEq, Prod.mk.injEq] at H
        obtain ⟨rfl, rfl⟩ := H
        go_wp2
        go_ret2
        exact ⟨by first | rfl | (simp; done) | (simp [*]; done), by repeat (first | exact Drawn0.refl _ | apply Drawn0.step)⟩

/-! ### gf_Inv: function 50 -/
def gf_Inv.f (k : Nat) (a0 : Int) : Option (Int × Int) := (gf_Log.f k a0).bind fun bt239 => (if bt239.2 = 0 then ((gf_Pow.f k (wrap64 (-bt239.1))).bind fun t241 => (some (t241, 0))) else (some (0, bt239.2)))
theorem gf_Inv.mono : ∀ a0 k, LeO (gf_Inv.f k a0) (gf_Inv.f (k + 1) a0) := by
  intro a0 k
  unfold gf_Inv.f
  repeat' first
      | (with_reducible exact gf_Log.mono _ _)
      | (with_reducible exact gf_Pow.mono _ _)
      | (with_reducible exact LeO.refl _)
      | (with_reducible exact LeO.none _)
      | (with_reducible refine LeO.ite ?_ ?_)
      | (with_reducible refine LeO.bind ?_ (fun _ => ?_))
      | exact gf_Log.mono _ _
      | exact gf_Pow.mono _ _
      | exact LeO.none _
      | refine LeO.ite ?_ ?_
      | refine LeO.bind ?_ (fun _ => ?_)
set_option maxHeartbeats 8000000 in
set_option maxRecDepth 100000 in
theorem gf_Inv.calls (k : Nat) (a0 : Int) (r1 : Int) (r2 : Int) (w : World) (h : gf_Inv.f k a0 = some (r1, r2)) :
    Calls Try.prog 50 #[.int .u8 a0] w fun e w' => e = .returned (.tuple #[.int .u8 r1, .int .i64 r2]) ∧ Drawn0 w w' := by
  have H : ((gf_Log.f k a0).bind fun bt239 => (if bt239.2 = 0 then ((gf_Pow.f k (wrap64 (-bt239.1))).bind fun t241 => (some (t241, 0))) else (some (0, bt239.2)))) = some (r1, r2) := h
  clear h
  replace H := Option.bind_eq_some_iff.mp H
  obtain ⟨⟨t239, t240⟩, A20, H⟩ := H
  replace H : (if t240 = 0 then ((gf_Pow.f k (wrap64 (-t239))).bind fun t241 => (some (t241, 0))) else (some (0, t240))) = some (r1, r2) := H
  have A2 := Aside0.mk A20
  clear A20
  by_cases c3 : t240 = 0
  · rw [if_pos c3] at H
    have c3b0 : (t240 == 0) = true := beq_iff_eq.mpr c3
    have c3b1 : (t240 != 0) = false := bne_eq_false_iff_eq.mpr c3
    clear c3
    replace H := Option.bind_eq_some_iff.mp H
    obtain ⟨t241, A40, H⟩ := H
    replace H : (some (t241, 0)) = some (r1, r2) := H
    have A4 := Aside0.mk A40
    clear A40
    simp only [Option.some.injEq, Prod.mk.injEq] at H
    obtain ⟨rfl, rfl⟩ := H
    go_enter Try.func50, Try.ntmps50
    go_wp2_with (first | ((with_reducible refine gate_callee (f := 62) rfl ?_); refine goesL_ (some 8) rfl rfl Try.func62 (by kernel_rfl) rfl #[.int .u8 a0] rfl (by (try simp only [List.map_toArray, List.map_cons, List.map_nil]); first | done | rfl | (simp only [List.length_drop, List.length_take]; rfl)) ?_; (with_reducible refine (gf_Log.calls k a0 t239 t240 _ A2.out).mono ?_); rintro e w' ⟨rfl, ⟨nd, rfl⟩⟩; refine ⟨_, rfl, ?_⟩) | ((with_reducible refine gate_callee (f := 27) rfl ?_); refine goesL_ (some 16) rfl rfl Try.func27 (by kernel_rfl) rfl #[.int .i64 (wrap64 (-t239))] rfl (by (try simp only [List.map_toArray, List.map_cons, List.map_nil]); first | done | rfl | (simp only [List.length_drop, List.length_take]; rfl)) ?_; (with_reducible refine (gf_Pow.calls k (wrap64 (-t239)) t241 _ A4.out).mono ?_); rintro e w' ⟨rfl, ⟨nd, rfl⟩⟩; refine ⟨_, rfl, ?_⟩))
    go_ret2
    exact ⟨by first | rfl | (simp; done) | (simp [*]; done), by repeat (first | exact Drawn0.refl _ | apply Drawn0.step)⟩
  · rw [if_neg c3] at H
    have c3b0 : (t240 == 0) = false := beq_eq_false_iff_ne.mpr c3
    have c3b1 : (t240 != 0) = true := bne_iff_ne.mpr c3
    simp only [Option.some.injEq, Prod.mk.injEq] at H
    obtain ⟨rfl, rfl⟩ := H
    go_enter Try.func50, Try.ntmps50
    go_wp2_with (first | ((with_reducible refine gate_callee (f := 62) rfl ?_); refine goesL_ (some 8) rfl rfl Try.func62 (by kernel_rfl) rfl #[.int .u8 a0] rfl (by (try simp only [List.map_toArray, List.map_cons, List.map_nil]); first | done | rfl | (simp only [List.length_drop, List.length_take]; rfl)) ?_; (with_reducible refine (gf_Log.calls k a0 t239 t240 _ A2.out).mono ?_); rintro e w' ⟨rfl, ⟨nd, rfl⟩⟩; refine ⟨_, rfl, ?_⟩))
    go_ret2
    exact ⟨by first | rfl | (simp; done) | (simp [*]; done), by repeat (first | exact Drawn0.refl _ | apply Drawn0.step)⟩

/-! ### gf_Div: function 46 -/
def gf_Div.f (k : Nat) (a0 : Int) (a1 : Int) : Option (Int × Int) := (gf_Inv.f k a1).bind fun bt242 => (if bt242.2 = 0 then ((gf_Mul.f k a0 bt242.1).bind fun t244 => (some (t244, 0))) else (some (0, bt242.2)))
theorem gf_Div.mono : ∀ a0 a1 k, LeO (gf_Div.f k a0 a1) (gf_Div.f (k + 1) a0 a1) := by
  intro a0 a1 k
  unfold gf_Div.f
  repeat' first
      | (with_reducible exact gf_Inv.mono _ _)
      | (with_reducible exact gf_Mul.mono _ _ _)
      | (with_reducible exact LeO.refl _)
      | (with_reducible exact LeO.none _)
      | (with_reducible refine LeO.ite ?_ ?_)
      | (with_reducible refine LeO.bind ?_ (fun _ => ?_))
      | exact gf_Inv.mono _ _
      | exact gf_Mul.mono _ _ _
      | exact LeO.none _
      | refine LeO.ite ?_ ?_
      | refine LeO.bind ?_ (fun _ => ?_)
set_option maxHeartbeats 8000000 in
set_option maxRecDepth 100000 in
theorem gf_Div.calls (k : Nat) (a0 : Int) (a1 : Int) (r1 : Int) (r2 : Int) (w : World) (h : gf_Div.f k a0 a1 = some (r1, r2)) :
    Calls Try.prog 46 #[.int .u8 a0, .int .u8 a1] w fun e w' => e = .returned (.tuple #[.int .u8 r1, .int .i64 r2]) ∧ Drawn0 w w' := by
  have H : ((gf_Inv.f k a1).bind fun bt242 => (if bt242.2 = 0 then ((gf_Mul.f k a0 bt242.1).bind fun t244 => (some (t244, 0))) else (some (0, bt242.2)))) = some (r1, r2) := h
  clear h
  replace H := Option.bind_eq_some_iff.mp H
  obtain ⟨⟨t242, t243⟩, A30, H⟩ := H
  replace H : (if t243 = 0 then ((gf_Mul.f k a0 t242).bind fun t244 => (some (t244, 0))) else (some (0, t243))) = some (r1, r2) := H
  have A3 := Aside0.mk A30
  clear A30
  by_cases c4 : t243 = 0
  · rw [if_pos c4] at H
    have c4b0 : (t243 == 0) = true := beq_iff_eq.mpr c4
    have c4b1 : (t243 != 0) = false := bne_eq_false_iff_eq.mpr c4
    clear c4
    replace H := Option.bind_eq_some_iff.mp H
    obtain ⟨t244, A50, H⟩ := H
    replace H : (some (t244, 0)) = some (r1, r2) := H
    have A5 := Aside0.mk A50
    clear A50
    simp only [Option.some.injEq, Prod.mk.injEq] at H
    obtain ⟨rfl, rfl⟩ := H
    go_enter Try.func46, Try.ntmps46
    go_wp2_with (first | ((with_reducible refine gate_callee (f := 50) rfl ?_); refine goesL_ (some 10) rfl rfl Try.func50 (by kernel_rfl) rfl #[.int .u8 a1] rfl (by (try simp only [List.map_toArray, List.map_cons, List.map_nil]); first | done | rfl | (simp only [List.length_drop, List.length_take]; rfl)) ?_; (with_reducible refine (gf_Inv.calls k a1 t242 t243 _ A3.out).mono ?_); rintro e w' ⟨rfl, ⟨nd, rfl⟩⟩; refine ⟨_, rfl, ?_⟩) | ((with_reducible refine gate_callee (f := 42) rfl ?_); refine goesL_ (some 18) rfl rfl Try.func42 (by kernel_rfl) rfl #[.int .u8 a0, .int .u8 t242] rfl (by (try simp only [List.map_toArray, List.map_cons, List.map_nil]); first | done | rfl | (simp only [List.length_drop, List.length_take]; rfl)) ?_; (with_reducible refine (gf_Mul.calls k a0 t242 t244 _ A5.out).mono ?_); rintro e w' ⟨rfl, ⟨nd, rfl⟩⟩; refine ⟨_, rfl, ?_⟩))
    go_ret2
    exact ⟨by first | rfl | (simp; done) | (simp [*]; done), by repeat (first | exact Drawn0.refl _ | apply Drawn0.step)⟩
  · rw [if_neg c4] at H
    have c4b0 : (t243 == 0) = false := beq_eq_false_iff_ne.mpr c4
    have c4b1 : (t243 != 0) = true := bne_iff_ne.mpr c4
    simp only [Option.some.injEq, Prod.mk.injEq] at H
    obtain ⟨rfl, rfl⟩ := H
    go_enter Try.func46, Try.ntmps46
    go_wp2_with (first | ((with_reducible refine gate_callee (f := 50) rfl ?_); refine goesL_ (some 10) rfl rfl Try.func50 (by kernel_rfl) rfl #[.int .u8 a1] rfl (by (try simp only [List.map_toArray, List.map_cons, List.map_nil]); first | done | rfl | (simp only [List.length_drop, List.length_take]; rfl)) ?_; (with_reducible refine (gf_Inv.calls k a1 t242 t243 _ A3.out).mono ?_); rintro e w' ⟨rfl, ⟨nd, rfl⟩⟩; refine ⟨_, rfl, ?_⟩))
    go_ret2
    exact ⟨by first | rfl | (simp; done) | (simp [*]; done), by repeat (first | exact Drawn0.refl _ | apply Drawn0.step)⟩

-- NOT PRINTED: function 37 (parity_two)

/-! ### slices_Index_int_int: function 47 -/
/-- The number of a byte: the search. -/
theorem log_l0 (d : Nat) : ∀ (k a n : Nat), n + d = 255 → d < 300 → d + 300 < k → a < 256 → (a = 0 ∨ n ≤ lg a) →
    gf_Log.l0 k (a : Int) ((pw n : Nat) : Int) (n : Int) = if a = 0 then some (0, 2) else some ((lg a : Int), 0) := by
  induction d with
  | zero =>
    intro k a n hn _ hk ha h
    obtain ⟨k, rfl⟩ : ∃ m, k = m + 1 := ⟨k - 1, by omega⟩
    simp only [gf_Log.l0]; rw [if_neg (by omega)]
    by_cases h0 : a = 0
    · rw [if_pos h0]
    · have := lg_lt ha h0
      omega
  | succ d ih =>
    intro k a n hn hd hk ha h
    obtain ⟨k, rfl⟩ : ∃ m, k = m + 1 := ⟨k - 1, by omega⟩
    simp only [gf_Log.l0]; rw [if_pos (by omega)]
    by_cases e : pw n = a
    · have h0 : a ≠ 0 := by rw [← e]; exact pw_ne_zero n
      have hl : lg a = n := pw_inj (lg_lt ha h0) (by omega) (by rw [pw_lg ha h0, e])
      rw [if_pos (by omega), if_neg h0, hl]
    · have hw : wrap64 ((n : Int) + 1) = ((n + 1 : Nat) : Int) := by unfold wrap64; omega
      have hm := mul_f (k := k) (a := pw n) (b := 2) (by omega) (pw_lt n) (by decide)
      have h2 : gmul (pw n) 2 = pw (n + 1) := by
        have := pw_add n 1
        exact this
      rw [h2] at hm
      have hm' : gf_Mul.f k ((pw n : Nat) : Int) 2 = some ((pw (n + 1) : Nat) : Int) := hm
      rw [if_neg (by omega), hm', hw]
      simp only [Option.bind_some]
      refine ih k a (n + 1) (by omega) (by omega) (by omega) ha ?_
      by_cases h0 : a = 0
      · exact Or.inl h0
      · right
        have h3 : n ≤ lg a := h.resolve_left h0
        have h4 : lg a ≠ n := by
          intro e2
          apply e
          rw [← e2]
          exact pw_lg ha h0
        omega

theorem log_f {k a : Nat} (hk : 600 < k) (ha : a < 256) : gf_Log.f k (a : Int) = if a = 0 then some (0, 2) else some ((lg a : Int), 0) := by
  unfold gf_Log.f
  exact log_l0 255 k a 0 (by decide) (by decide) (by omega) ha (Or.inr (Nat.zero_le _))
theorem log_zero {k : Nat} (hk : 600 < k) : gf_Log.f k 0 = some (0, 2) := log_f (a := 0) hk (by decide)
theorem log_some {k a : Nat} (hk : 600 < k) (ha : a < 256) (h : a ≠ 0) : gf_Log.f k (a : Int) = some ((lg a : Int), 0) := by
  rw [log_f hk ha, if_neg h]

theorem inv_f {k a : Nat} (hk : 600 < k) (ha : a < 256) (h : a ≠ 0) : gf_Inv.f k (a : Int) = some (((ginv a : Nat) : Int), 0) := by
  unfold gf_Inv.f
  rw [log_some hk ha h]
  simp only [Option.bind_some, if_true]
  have hl := lg_lt ha h
  have hw : wrap64 (-(lg a : Int)) = -(lg a : Int) := by unfold wrap64; omega
  rw [hw, pow_f _ (by omega)]
  rfl
theorem inv_zero {k : Nat} (hk : 600 < k) : gf_Inv.f k 0 = some (0, 2) := by
  unfold gf_Inv.f
  rw [log_zero hk]
  rfl
theorem div_f {k a b : Nat} (hk : 600 < k) (ha : a < 256) (hb : b < 256) (h : b ≠ 0) : gf_Div.f k (a : Int) (b : Int) = some (((gmul a (ginv b) : Nat) : Int), 0) := by
  unfold gf_Div.f
  rw [inv_f hk hb h]
  simp only [Option.bind_some, if_true]
  rw [mul_f (by omega) ha (ginv_lt b)]
  rfl
theorem div_zero {k : Nat} (a : Int) (hk : 600 < k) : gf_Div.f k a 0 = some (0, 2) := by
  unfold gf_Div.f
  rw [inv_zero hk]
  rfl


theorem div_calls {a b : Nat} (ha : a < 256) (hb : b < 256) (h : b ≠ 0) (w : World) : Calls Try.prog 46 #[.int .u8 (a : Int), .int .u8 (b : Int)] w fun e w' => e = .returned (.tuple #[.int .u8 ((gmul a (ginv b) : Nat) : Int), .int .i64 0]) ∧ Drawn0 w w' :=
  gf_Div.calls 700 _ _ _ _ w (div_f (by decide) ha hb h)
end Go.Proofs.Ytonjgbcibjnpoaa.Dv
