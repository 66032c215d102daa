/- In a row each member has one column and each column one member, and in as many rows as there are members each member has each column once: of all geometries, no condition. -/
import Derived.Test.YtpelcemffincoaaPPlaceTurnsx2
import Derived.Test.YtpelcemffincoaaPl
import Derived.OpenShut
namespace Go.Proofs.Ytpelcemffincoaa.BrPlaceTurns
open Go.RowKit Go.Proofs.Ytpelcemffincoaa.PPlaceTurns Go.Proofs.YtpelcemffincoaaW.PrintWords Go.Proofs.YtpelcemffincoaaW.PrintLast Go.Proofs.YtpelcemffincoaaW.PrintMore Go.Proofs.Ytpelcemffincoaa.Pl

theorem check_yes {M R : Int} (g : Geo M R) : geom_Check.f M R = some 0 := by
  obtain ⟨h1, h2, h3, h4⟩ := g
  unfold geom_Check.f
  rw [if_neg (by omega), if_neg (by omega), if_neg (by omega), if_neg (by omega)]
theorem check_no {M R : Int} (g : ¬ Geo M R) : geom_Check.f M R = some 2 := by
  unfold geom_Check.f
  by_cases h1 : M < 4
  · rw [if_pos h1]
  by_cases h2 : M > 64
  · rw [if_neg h1, if_pos h2]
  by_cases h3 : R < 1
  · rw [if_neg h1, if_neg h2, if_pos h3]
  by_cases h4 : R > 64
  · rw [if_neg h1, if_neg h2, if_neg h3, if_pos h4]
  exact absurd ⟨by omega, by omega, by omega, by omega⟩ g
theorem may4_l (k : Nat) (a b c d : Int) : place_may.l0 (k + 3) [a, b, c, d] 0 = if 0 ≤ a ∧ a < b ∧ 0 ≤ c ∧ c < d then some 0 else some 2 := by
  have e1 : wrap64 1 = 1 := wr (by omega) (by omega)
  have e2 : wrap64 2 = 2 := wr (by omega) (by omega)
  have e3 : wrap64 3 = 3 := wr (by omega) (by omega)
  have e4 : wrap64 4 = 4 := wr (by omega) (by omega)
  have e5 : wrap64 5 = 5 := wr (by omega) (by omega)
  simp [place_may.l0, rd, e1, e2, e3, e4, e5]
  by_cases h1 : a < 0
  · rw [if_pos h1, if_neg (by omega)]
  by_cases h2 : b ≤ a
  · rw [if_neg h1, if_pos h2, if_neg (by omega)]
  by_cases h3 : c < 0
  · rw [if_neg h1, if_neg h2, if_pos h3, if_neg (by omega)]
  by_cases h4 : d ≤ c
  · rw [if_neg h1, if_neg h2, if_neg h3, if_pos h4, if_neg (by omega)]
  rw [if_neg h1, if_neg h2, if_neg h3, if_neg h4, if_pos (by omega)]
theorem may4_yes {k : Nat} {M R a b c d : Int} (hk : 5 < k) (g : Geo M R) (h : 0 ≤ a ∧ a < b ∧ 0 ≤ c ∧ c < d) : place_may.f k M R [a, b, c, d] = some 0 := by
  obtain ⟨k, rfl⟩ : ∃ m, k = m + 3 := ⟨k - 3, by omega⟩
  unfold place_may.f
  rw [check_yes g]
  simp only [Option.bind_some, if_true]
  rw [may4_l, if_pos h]
theorem may4_no {k : Nat} {M R a b c d : Int} (hk : 5 < k) (h : ¬ (Geo M R ∧ 0 ≤ a ∧ a < b ∧ 0 ≤ c ∧ c < d)) : place_may.f k M R [a, b, c, d] = some 2 := by
  obtain ⟨k, rfl⟩ : ∃ m, k = m + 3 := ⟨k - 3, by omega⟩
  unfold place_may.f
  by_cases g : Geo M R
  · rw [check_yes g]
    simp only [Option.bind_some, if_true]
    rw [may4_l, if_neg (fun h' => h ⟨g, h'⟩)]
  · rw [check_no g]
    rfl

theorem column_yes {k : Nat} {M R row n : Int} (hk : 5 < k) (g : Geo M R) (h : 0 ≤ row ∧ row < R ∧ 0 ≤ n ∧ n < M) : place_Column.f k M R row n = some (colv M row n, 0) := by
  have := g.m0; have := g.m1; have := g.r1
  unfold place_Column.f colv
  rw [may4_yes hk g h]
  simp only [Option.bind_some, if_true]
  rw [if_neg (by omega), wr (by omega) (by omega), tmod_pos (by omega)]
theorem column_no {k : Nat} {M R row n : Int} (hk : 5 < k) (h : ¬ (Geo M R ∧ 0 ≤ row ∧ row < R ∧ 0 ≤ n ∧ n < M)) : place_Column.f k M R row n = some (0, 2) := by
  unfold place_Column.f
  rw [may4_no hk h]
  rfl
theorem member_yes {k : Nat} {M R row n : Int} (hk : 5 < k) (g : Geo M R) (h : 0 ≤ row ∧ row < R ∧ 0 ≤ n ∧ n < M) : place_Member.f k M R row n = some (memv M row n, 0) := by
  have := g.m0; have := g.m1; have := g.r1
  unfold place_Member.f memv
  rw [may4_yes hk g h]
  simp only [Option.bind_some, if_true]
  have h1 : 0 ≤ row % M := Int.emod_nonneg _ (by omega)
  have h2 : row % M < M := Int.emod_lt_of_pos _ (by omega)
  rw [if_neg (by omega), wr (x := n + M) (by omega) (by omega), tmod_pos h.1, wr (by omega) (by omega), tmod_pos (by omega)]
theorem member_no {k : Nat} {M R row n : Int} (hk : 5 < k) (h : ¬ (Geo M R ∧ 0 ≤ row ∧ row < R ∧ 0 ≤ n ∧ n < M)) : place_Member.f k M R row n = some (0, 2) := by
  unfold place_Member.f
  rw [may4_no hk h]
  rfl
theorem leaf_yes {k : Nat} {M R row n : Int} (hk : 5 < k) (g : Geo M R) (h : 0 ≤ row ∧ row < R ∧ 0 ≤ n ∧ n < M) : place_Leaf.f k M R row n = some (row * M + n, 0) := by
  have := g.m0; have := g.m1; have := g.r1
  unfold place_Leaf.f
  rw [may4_yes hk g h]
  simp only [Option.bind_some, if_true]
  have h1 := mul_rng (A := 64) (B := 64) h.1 (by omega) (show 0 ≤ M by omega) g.m1
  rw [wr (x := row * M) (by omega) (by omega), wr (by omega) (by omega)]
theorem leaf_no {k : Nat} {M R row n : Int} (hk : 5 < k) (h : ¬ (Geo M R ∧ 0 ≤ row ∧ row < R ∧ 0 ≤ n ∧ n < M)) : place_Leaf.f k M R row n = some (0, 2) := by
  unfold place_Leaf.f
  rw [may4_no hk h]
  rfl
theorem awake_f {k : Nat} (hk : 5 < k) : casematelaw15_awake.f k = some true := by
  have g : Geo 4 3 := ⟨by omega, by omega, by omega, by omega⟩
  have h1 := column_yes (k := k) (row := 1) (n := 2) hk g (by omega)
  have h2 := member_yes (k := k) (row := 1) (n := 0) hk g (by omega)
  have h3 := leaf_yes (k := k) (row := 2) (n := 1) hk g (by omega)
  unfold casematelaw15_awake.f casematelaw15_given.f casematelaw15_is.f
  simp only [Option.bind_some]
  rw [h1, h2, h3]
  rfl

/-- What is marked was told before: of the columns of one row. -/
def Seen (M r m : Int) (xs : List Bool) : Prop := (xs.length : Int) = M ∧ ∀ j : Nat, xs.getD j false = true → ∃ m' : Int, 0 ≤ m' ∧ m' < m ∧ colv M r m' = j
theorem seen_start {M r : Int} (h : 0 ≤ M) : Seen M r 0 (List.replicate M.toNat false) := by
  refine ⟨by simp; omega, fun j hj => ?_⟩
  rw [List.getD_eq_getElem?_getD, List.getElem?_replicate] at hj
  split at hj <;> simp at hj
theorem seen_step {M r m : Int} {xs : List Bool} (h : Seen M r m xs) (hM : 0 < M) (hm : 0 ≤ m) : Seen M r (m + 1) (xs.set (colv M r m).toNat true) := by
  refine ⟨by simp; exact h.1, fun j hj => ?_⟩
  have hc := colv_rng (M := M) (row := r) (n := m) hM
  by_cases e : (colv M r m).toNat = j
  · exact ⟨m, hm, by omega, by omega⟩
  · rw [List.getD_eq_getElem?_getD, List.getElem?_set_ne e, ← List.getD_eq_getElem?_getD] at hj
    obtain ⟨m', h1, h2, h3⟩ := h.2 j hj
    exact ⟨m', h1, by omega, h3⟩
theorem seen_not {M r m : Int} {xs : List Bool} (h : Seen M r m xs) (hM : 0 < M) (hm : 0 ≤ m) (hm' : m < M) : ¬ (rdOf false xs (colv M r m) = true) := by
  intro hj
  have hc := colv_rng (M := M) (row := r) (n := m) hM
  obtain ⟨m', h1, h2, h3⟩ := h.2 _ hj
  have h4 := memv_colv (M := M) (row := r) (n := m') h1 (by omega)
  rw [h3, show (((colv M r m).toNat : Nat) : Int) = colv M r m by omega, memv_colv hm hm'] at h4
  omega
theorem turns_l1 (d : Nat) : ∀ (k : Nat) (c M R r m : Int) (xs : List Bool), M - m = d → Geo M R → 0 ≤ r → r < R → 0 ≤ m → Seen M r m xs → d + 20 < k →
    casematelaw15_PlaceTurns.l1 k c r xs m M R = casematelaw15_PlaceTurns.l0 (k - d - 1) c (r + 1) M R := by
  induction d with
  | zero =>
    intro k c M R r m xs hd g hr hr' hm hs hk
    obtain ⟨k, rfl⟩ : ∃ j, k = j + 1 := ⟨k - 1, by omega⟩
    have := g.r1
    simp only [casematelaw15_PlaceTurns.l1]
    rw [if_neg (by omega), wr (by omega) (by omega)]
    rfl
  | succ d ih =>
    intro k c M R r m xs hd g hr hr' hm hs hk
    obtain ⟨k, rfl⟩ : ∃ j, k = j + 1 := ⟨k - 1, by omega⟩
    have := g.r1; have := g.m0; have := g.m1
    have hc := colv_rng (M := M) (row := r) (n := m) (by omega)
    have hl := hs.1
    simp only [casematelaw15_PlaceTurns.l1]
    rw [if_pos (by omega), column_yes (by omega) g ⟨hr, hr', hm, by omega⟩]
    simp only [Option.bind_some, if_true]
    rw [if_neg (by omega), if_neg (by omega), if_pos (by omega), if_pos (by omega), if_neg (seen_not hs (by omega) hm (by omega)), wr (by omega) (by omega)]
    rw [ih k c M R r (m + 1) _ (by omega) g hr hr' (by omega) (seen_step hs (by omega) hm) (by omega), show k + 1 - (d + 1) - 1 = k - d - 1 by omega]

/-- What is marked was told before: of one column's rows. -/
def Had (M c r : Int) (xs : List Bool) : Prop := (xs.length : Int) = M ∧ ∀ j : Nat, xs.getD j false = true → ∃ r' : Int, 0 ≤ r' ∧ r' < r ∧ memv M r' c = j
theorem had_start {M c : Int} (h : 0 ≤ M) : Had M c 0 (List.replicate M.toNat false) := by
  refine ⟨by simp; omega, fun j hj => ?_⟩
  rw [List.getD_eq_getElem?_getD, List.getElem?_replicate] at hj
  split at hj <;> simp at hj
theorem had_step {M c r : Int} {xs : List Bool} (h : Had M c r xs) (hM : 0 < M) (hr : 0 ≤ r) : Had M c (r + 1) (xs.set (memv M r c).toNat true) := by
  refine ⟨by simp; exact h.1, fun j hj => ?_⟩
  have hc := memv_rng (M := M) (row := r) (n := c) hM
  by_cases e : (memv M r c).toNat = j
  · exact ⟨r, hr, by omega, by omega⟩
  · rw [List.getD_eq_getElem?_getD, List.getElem?_set_ne e, ← List.getD_eq_getElem?_getD] at hj
    obtain ⟨m', h1, h2, h3⟩ := h.2 j hj
    exact ⟨m', h1, by omega, h3⟩
theorem memv_rows {M c r r' : Int} (h0 : 0 ≤ c) (h1 : c < M) (hr : 0 ≤ r) (hr1 : r < M) (hr' : 0 ≤ r') (hr1' : r' < M) (h : memv M r c = memv M r' c) : r = r' := by
  have a := colv_memv (M := M) (row := r) h0 h1
  have b := colv_memv (M := M) (row := r') h0 h1
  have hm := memv_rng (M := M) (row := r) (n := c) (by omega)
  rw [← h] at b
  generalize memv M r c = m at a b hm
  unfold colv at a b
  have a1 := Int.emod_def (m + r) M
  have b1 := Int.emod_def (m + r') M
  have a2 : r - r' = M * ((m + r) / M - (m + r') / M) := by rw [Int.mul_sub]; omega
  have a3 : (r - r') % M = 0 := by rw [a2]; exact Int.mul_emod_right _ _
  have a4 := Int.emod_def (r - r') M
  have a5 : (m + r) / M - (m + r') / M = 0 := by
    generalize (m + r) / M - (m + r') / M = q at a2
    by_cases hq : q = 0
    · exact hq
    · exfalso
      rcases Int.lt_or_gt_of_ne hq with hq | hq
      · have := Int.mul_le_mul_of_nonneg_left (show q ≤ -1 by omega) (show 0 ≤ M by omega)
        omega
      · have := Int.mul_le_mul_of_nonneg_left (show 1 ≤ q by omega) (show 0 ≤ M by omega)
        omega
  rw [a5, Int.mul_zero] at a2
  omega
theorem had_not {M c r : Int} {xs : List Bool} (h : Had M c r xs) (h0 : 0 ≤ c) (h1 : c < M) (hr : 0 ≤ r) (hr' : r < M) : ¬ (rdOf false xs (memv M r c) = true) := by
  intro hj
  have hc := memv_rng (M := M) (row := r) (n := c) (by omega)
  obtain ⟨r', g1, g2, g3⟩ := h.2 _ hj
  have h4 := memv_rows h0 h1 g1 (by omega) hr hr' (by rw [g3]; omega)
  omega
theorem turns_l2 (d : Nat) : ∀ (k : Nat) (c M R r : Int) (xs : List Bool), M - r = d → Geo M R → 0 ≤ c → c < M → 0 ≤ r → Had M c r xs → 2 * d + 20 < k →
    casematelaw15_PlaceTurns.l2 k c xs r M R = some true := by
  induction d with
  | zero =>
    intro k c M R r xs hd g hc hc' hr hs hk
    obtain ⟨k, rfl⟩ : ∃ j, k = j + 2 := ⟨k - 2, by omega⟩
    simp only [casematelaw15_PlaceTurns.l2]
    rw [if_neg (by omega)]
    simp only [casematelaw15_PlaceTurns.j3]
    rw [if_neg (by decide), awake_f (by omega)]
    rfl
  | succ d ih =>
    intro k c M R r xs hd g hc hc' hr hs hk
    obtain ⟨k, rfl⟩ : ∃ j, k = j + 2 := ⟨k - 2, by omega⟩
    have := g.r1; have := g.m0; have := g.m1
    simp only [casematelaw15_PlaceTurns.l2]
    rw [if_pos (by omega)]
    simp only [casematelaw15_PlaceTurns.j3]
    by_cases hR : r < R
    · have hm := memv_rng (M := M) (row := r) (n := c) (by omega)
      have hl := hs.1
      rw [decide_eq_true hR, if_pos rfl, member_yes (by omega) g ⟨hr, hR, hc, hc'⟩]
      simp only [Option.bind_some, if_true]
      rw [if_pos (by omega), if_pos (by omega), if_neg (had_not hs hc hc' hr (by omega)), wr (by omega) (by omega)]
      exact ih k c M R (r + 1) _ (by omega) g hc hc' (by omega) (had_step hs (by omega) hr) (by omega)
    · rw [decide_eq_false hR, if_neg (by decide), awake_f (by omega)]
      rfl
theorem turns_l0 (d : Nat) : ∀ (k : Nat) (c M R r : Int), R - r = d → Geo M R → 0 ≤ c → c < M → 0 ≤ r → 70 * d + 200 < k →
    casematelaw15_PlaceTurns.l0 k c r M R = some true := by
  induction d with
  | zero =>
    intro k c M R r hd g hc hc' hr hk
    obtain ⟨k, rfl⟩ : ∃ j, k = j + 1 := ⟨k - 1, by omega⟩
    have := g.r1; have := g.m0; have := g.m1
    simp only [casematelaw15_PlaceTurns.l0]
    rw [if_neg (by omega), if_pos (by omega), if_pos (by omega)]
    exact turns_l2 M.toNat k c M R 0 _ (by omega) g hc hc' (by omega) (had_start (by omega)) (by omega)
  | succ d ih =>
    intro k c M R r hd g hc hc' hr hk
    obtain ⟨k, rfl⟩ : ∃ j, k = j + 1 := ⟨k - 1, by omega⟩
    have := g.r1; have := g.m0; have := g.m1
    simp only [casematelaw15_PlaceTurns.l0]
    rw [if_pos (by omega), if_pos (by omega), if_pos (by omega)]
    rw [turns_l1 M.toNat k c M R r 0 _ (by omega) g hr (by omega) (by omega) (seen_start (by omega)) (by omega)]
    exact ih _ c M R (r + 1) (by omega) g hc hc' (by omega) (by omega)
end Go.Proofs.Ytpelcemffincoaa.BrPlaceTurns
namespace Go.Proofs.Ytpelcemffincoaa.Pure
open Go.RowKit Go.Proofs.Ytpelcemffincoaa.PPlaceTurns Go.Proofs.Ytpelcemffincoaa.BrPlaceTurns Go.Proofs.Ytpelcemffincoaa.Pl
theorem PlaceTurns : casematelaw15_PlaceTurns.Pure := by
  intro a b c wa wb wc
  have ha := bounds_u8 wa
  have hb := bounds_u8 wb
  have hc := bounds_u8 wc
  have ea : Int.tmod a 61 = a % 61 := tmod_pos (by omega)
  have eb : Int.tmod b 64 = b % 64 := tmod_pos (by omega)
  have hs : casematelaw15_small.f a b = some (4 + a % 61, 1 + b % 64) := by
    unfold casematelaw15_small.f
    rw [wr (x := a) (by omega) (by omega), wr (x := b) (by omega) (by omega), ea, eb, wr (x := 4 + a % 61) (by omega) (by omega), wr (x := 1 + b % 64) (by omega) (by omega)]
  refine ⟨10000, ?_⟩
  unfold casematelaw15_PlaceTurns.f
  rw [hs]
  simp only [Option.bind_some]
  rw [if_neg (by omega), wr (x := c) (by omega) (by omega), tmod_pos hc.1]
  have h1 : 0 ≤ c % (4 + a % 61) := Int.emod_nonneg _ (by omega)
  have h2 : c % (4 + a % 61) < 4 + a % 61 := Int.emod_lt_of_pos _ (by omega)
  exact turns_l0 (1 + b % 64).toNat _ _ _ _ 0 (by omega) ⟨by omega, by omega, by omega, by omega⟩ h1 h2 (by omega) (by omega)
end Go.Proofs.Ytpelcemffincoaa.Pure
