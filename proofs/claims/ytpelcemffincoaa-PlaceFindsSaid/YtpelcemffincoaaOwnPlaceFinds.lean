/- Where a logical sector and a leaf of any number lies is the document's answer: of any geometry, no condition. -/
import Derived.Test.YtpelcemffincoaaPPlaceFindsx3
import Derived.Test.YtpelcemffincoaaPl
import Derived.Test.YtpelcemffincoaaRows
import Derived.WalkKit
import Derived.ProofKit
import Derived.OpenShut
import Derived.ShutString
import Derived.ChangeOld
import Derived.Below
import Derived.Carry
import Derived.SizedLaws
import Derived.Lib.SmallJoins
namespace Go.Proofs.Ytpelcemffincoaa.BrPlaceFinds
open Go.RowKit Go.Proofs.Ytpelcemffincoaa.PPlaceFinds Go.Proofs.YtpelcemffincoaaW.PrintWords Go.Proofs.YtpelcemffincoaaW.PrintLast Go.Proofs.YtpelcemffincoaaW.PrintMore Go.Proofs.Ytpelcemffincoaa.Pl

theorem check_yes {M R : Int} (g : Geo M R) : geom_Check.f M R = some 0 := by
  obtain ⟨h1, h2, h3, h4⟩ := g
  unfold geom_Check.f
  rw [if_neg (by omega), if_neg (by omega), if_neg (by omega), if_neg (by omega)]
theorem check_no {M R : Int} (g : ¬ Geo M R) : geom_Check.f M R = some 2 := by
  unfold geom_Check.f
  by_cases h1 : M < 4
  · rw [if_pos h1]
  by_cases h2 : M > 64
  · rw [if_neg h1, if_pos h2]
  by_cases h3 : R < 1
  · rw [if_neg h1, if_neg h2, if_pos h3]
  by_cases h4 : R > 64
  · rw [if_neg h1, if_neg h2, if_neg h3, if_pos h4]
  exact absurd ⟨by omega, by omega, by omega, by omega⟩ g
theorem may4_l (k : Nat) (a b c d : Int) : place_may.l0 (k + 3) [a, b, c, d] 0 = if 0 ≤ a ∧ a < b ∧ 0 ≤ c ∧ c < d then some 0 else some 2 := by
  have e1 : wrap64 1 = 1 := wr (by omega) (by omega)
  have e2 : wrap64 2 = 2 := wr (by omega) (by omega)
  have e3 : wrap64 3 = 3 := wr (by omega) (by omega)
  have e4 : wrap64 4 = 4 := wr (by omega) (by omega)
  have e5 : wrap64 5 = 5 := wr (by omega) (by omega)
  simp [place_may.l0, rd, e1, e2, e3, e4, e5]
  by_cases h1 : a < 0
  · rw [if_pos h1, if_neg (by omega)]
  by_cases h2 : b ≤ a
  · rw [if_neg h1, if_pos h2, if_neg (by omega)]
  by_cases h3 : c < 0
  · rw [if_neg h1, if_neg h2, if_pos h3, if_neg (by omega)]
  by_cases h4 : d ≤ c
  · rw [if_neg h1, if_neg h2, if_neg h3, if_pos h4, if_neg (by omega)]
  rw [if_neg h1, if_neg h2, if_neg h3, if_neg h4, if_pos (by omega)]
theorem may4_yes {k : Nat} {M R a b c d : Int} (hk : 5 < k) (g : Geo M R) (h : 0 ≤ a ∧ a < b ∧ 0 ≤ c ∧ c < d) : place_may.f k M R [a, b, c, d] = some 0 := by
  obtain ⟨k, rfl⟩ : ∃ m, k = m + 3 := ⟨k - 3, by omega⟩
  unfold place_may.f
  rw [check_yes g]
  simp only [Option.bind_some, if_true]
  rw [may4_l, if_pos h]
theorem may4_no {k : Nat} {M R a b c d : Int} (hk : 5 < k) (h : ¬ (Geo M R ∧ 0 ≤ a ∧ a < b ∧ 0 ≤ c ∧ c < d)) : place_may.f k M R [a, b, c, d] = some 2 := by
  obtain ⟨k, rfl⟩ : ∃ m, k = m + 3 := ⟨k - 3, by omega⟩
  unfold place_may.f
  by_cases g : Geo M R
  · rw [check_yes g]
    simp only [Option.bind_some, if_true]
    rw [may4_l, if_neg (fun h' => h ⟨g, h'⟩)]
  · rw [check_no g]
    rfl

theorem column_yes {k : Nat} {M R row n : Int} (hk : 5 < k) (g : Geo M R) (h : 0 ≤ row ∧ row < R ∧ 0 ≤ n ∧ n < M) : place_Column.f k M R row n = some (colv M row n, 0) := by
  have := g.m0; have := g.m1; have := g.r1
  unfold place_Column.f colv
  rw [may4_yes hk g h]
  simp only [Option.bind_some, if_true]
  rw [if_neg (by omega), wr (by omega) (by omega), tmod_pos (by omega)]
theorem column_no {k : Nat} {M R row n : Int} (hk : 5 < k) (h : ¬ (Geo M R ∧ 0 ≤ row ∧ row < R ∧ 0 ≤ n ∧ n < M)) : place_Column.f k M R row n = some (0, 2) := by
  unfold place_Column.f
  rw [may4_no hk h]
  rfl
theorem member_yes {k : Nat} {M R row n : Int} (hk : 5 < k) (g : Geo M R) (h : 0 ≤ row ∧ row < R ∧ 0 ≤ n ∧ n < M) : place_Member.f k M R row n = some (memv M row n, 0) := by
  have := g.m0; have := g.m1; have := g.r1
  unfold place_Member.f memv
  rw [may4_yes hk g h]
  simp only [Option.bind_some, if_true]
  have h1 : 0 ≤ row % M := Int.emod_nonneg _ (by omega)
  have h2 : row % M < M := Int.emod_lt_of_pos _ (by omega)
  rw [if_neg (by omega), wr (x := n + M) (by omega) (by omega), tmod_pos h.1, wr (by omega) (by omega), tmod_pos (by omega)]
theorem member_no {k : Nat} {M R row n : Int} (hk : 5 < k) (h : ¬ (Geo M R ∧ 0 ≤ row ∧ row < R ∧ 0 ≤ n ∧ n < M)) : place_Member.f k M R row n = some (0, 2) := by
  unfold place_Member.f
  rw [may4_no hk h]
  rfl
theorem leaf_yes {k : Nat} {M R row n : Int} (hk : 5 < k) (g : Geo M R) (h : 0 ≤ row ∧ row < R ∧ 0 ≤ n ∧ n < M) : place_Leaf.f k M R row n = some (row * M + n, 0) := by
  have := g.m0; have := g.m1; have := g.r1
  unfold place_Leaf.f
  rw [may4_yes hk g h]
  simp only [Option.bind_some, if_true]
  have h1 := mul_rng (A := 64) (B := 64) h.1 (by omega) (show 0 ≤ M by omega) g.m1
  rw [wr (x := row * M) (by omega) (by omega), wr (by omega) (by omega)]
theorem leaf_no {k : Nat} {M R row n : Int} (hk : 5 < k) (h : ¬ (Geo M R ∧ 0 ≤ row ∧ row < R ∧ 0 ≤ n ∧ n < M)) : place_Leaf.f k M R row n = some (0, 2) := by
  unfold place_Leaf.f
  rw [may4_no hk h]
  rfl
theorem awake_f {k : Nat} (hk : 5 < k) : casematelaw15_awake.f k = some true := by
  have g : Geo 4 3 := ⟨by omega, by omega, by omega, by omega⟩
  have h1 := column_yes (k := k) (row := 1) (n := 2) hk g (by omega)
  have h2 := member_yes (k := k) (row := 1) (n := 0) hk g (by omega)
  have h3 := leaf_yes (k := k) (row := 2) (n := 1) hk g (by omega)
  unfold casematelaw15_awake.f casematelaw15_given.f casematelaw15_is.f
  simp only [Option.bind_some]
  rw [h1, h2, h3]
  rfl

theorem may2_l (k : Nat) (a b : Int) : place_may.l0 (k + 2) [a, b] 0 = if 0 ≤ a ∧ a < b then some 0 else some 2 := by
  have e1 : wrap64 1 = 1 := wr (by omega) (by omega)
  have e2 : wrap64 2 = 2 := wr (by omega) (by omega)
  have e3 : wrap64 3 = 3 := wr (by omega) (by omega)
  simp [place_may.l0, rd, e1, e2, e3]
  by_cases h1 : a < 0
  · rw [if_pos h1, if_neg (by omega)]
  by_cases h2 : b ≤ a
  · rw [if_neg h1, if_pos h2, if_neg (by omega)]
  rw [if_neg h1, if_neg h2, if_pos (by omega)]
theorem may2_yes {k : Nat} {M R a b : Int} (hk : 5 < k) (g : Geo M R) (h : 0 ≤ a ∧ a < b) : place_may.f k M R [a, b] = some 0 := by
  obtain ⟨k, rfl⟩ : ∃ m, k = m + 2 := ⟨k - 2, by omega⟩
  unfold place_may.f
  rw [check_yes g]
  simp only [Option.bind_some, if_true]
  rw [may2_l, if_pos h]
theorem may2_no {k : Nat} {M R a b : Int} (hk : 5 < k) (h : ¬ (Geo M R ∧ 0 ≤ a ∧ a < b)) : place_may.f k M R [a, b] = some 2 := by
  obtain ⟨k, rfl⟩ : ∃ m, k = m + 2 := ⟨k - 2, by omega⟩
  unfold place_may.f
  by_cases g : Geo M R
  · rw [check_yes g]
    simp only [Option.bind_some, if_true]
    rw [may2_l, if_neg (fun h' => h ⟨g, h'⟩)]
  · rw [check_no g]
    rfl
theorem logical_yes {M R : Int} (g : Geo M R) : geom_Logical.f M R = some (R * (M - 2)) := by
  have := g.m0; have := g.m1; have := g.r1; have := g.r0
  unfold geom_Logical.f geom_is.f
  rw [check_yes g]
  have h1 := mul_rng (A := 64) (B := 64) (show 0 ≤ R by omega) g.r1 (show 0 ≤ M - 2 by omega) (by omega)
  have e : wrap64 (M - 2) = M - 2 := wr (by omega) (by omega)
  have e2 : wrap64 (R * (M - 2)) = R * (M - 2) := wr (by omega) (by omega)
  simp [e, e2]
theorem logical_no {M R : Int} (g : ¬ Geo M R) : geom_Logical.f M R = some 0 := by
  unfold geom_Logical.f geom_is.f
  rw [check_no g]
  rfl
theorem of_yes {k : Nat} {M R n : Int} (hk : 5 < k) (g : Geo M R) (h : 0 ≤ n ∧ n < R * (M - 2)) : place_Of.f k M R n = some (n / (M - 2), n % (M - 2), 0) := by
  have := g.m0; have := g.m1; have := g.r1; have := g.r0
  have h1 := mul_rng (A := 64) (B := 64) (show 0 ≤ R by omega) g.r1 (show 0 ≤ M - 2 by omega) (by omega)
  have e : wrap64 (M - 2) = M - 2 := wr (by omega) (by omega)
  have h2 := div_rng (show 0 < M - 2 by omega) h.1 h.2
  have e2 : wrap64 (n / (M - 2)) = n / (M - 2) := wr (by omega) (by omega)
  unfold place_Of.f
  rw [logical_yes g]
  simp only [Option.bind_some]
  rw [may2_yes hk g h]
  simp only [Option.bind_some, if_true]
  rw [e, if_neg (by omega), tmod_pos h.1, tdiv_pos h.1, e2]
theorem of_no {k : Nat} {M R n : Int} (hk : 5 < k) (h : ¬ (Geo M R ∧ 0 ≤ n ∧ n < R * (M - 2))) : place_Of.f k M R n = some (0, 0, 2) := by
  unfold place_Of.f
  by_cases g : Geo M R
  · rw [logical_yes g]
    simp only [Option.bind_some]
    rw [may2_no hk h]
    rfl
  · rw [logical_no g]
    simp only [Option.bind_some]
    rw [may2_no hk (fun h' => g h'.1)]
    rfl
theorem leaves_yes {M R : Int} (g : Geo M R) : geom_Leaves.f M R = some (M * R) := by
  have := g.m0; have := g.m1; have := g.r1; have := g.r0
  unfold geom_Leaves.f geom_is.f
  rw [check_yes g]
  have h1 := mul_rng (A := 64) (B := 64) (show 0 ≤ M by omega) g.m1 (show 0 ≤ R by omega) (by omega)
  have e2 : wrap64 (M * R) = M * R := wr (by omega) (by omega)
  simp [e2]
theorem leaves_no {M R : Int} (g : ¬ Geo M R) : geom_Leaves.f M R = some 0 := by
  unfold geom_Leaves.f geom_is.f
  rw [check_no g]
  rfl
theorem at_yes {k : Nat} {M R n : Int} (hk : 5 < k) (g : Geo M R) (h : 0 ≤ n ∧ n < M * R) : place_At.f k M R n = some (n / M, n % M, 0) := by
  have := g.m0; have := g.m1; have := g.r1; have := g.r0
  have h1 := mul_rng (A := 64) (B := 64) (show 0 ≤ M by omega) g.m1 (show 0 ≤ R by omega) (by omega)
  have h2 := div_rng (R := R) (show 0 < M by omega) h.1 (by rw [Int.mul_comm]; exact h.2)
  have e2 : wrap64 (n / M) = n / M := wr (by omega) (by omega)
  unfold place_At.f
  rw [leaves_yes g]
  simp only [Option.bind_some]
  rw [may2_yes hk g h]
  simp only [Option.bind_some, if_true]
  rw [if_neg (by omega), tmod_pos h.1, tdiv_pos h.1, e2]
theorem at_no {k : Nat} {M R n : Int} (hk : 5 < k) (h : ¬ (Geo M R ∧ 0 ≤ n ∧ n < M * R)) : place_At.f k M R n = some (0, 0, 2) := by
  unfold place_At.f
  by_cases g : Geo M R
  · rw [leaves_yes g]
    simp only [Option.bind_some]
    rw [may2_no hk h]
    rfl
  · rw [leaves_no g]
    simp only [Option.bind_some]
    rw [may2_no hk (fun h' => g h'.1)]
    rfl
theorem refmay_yes {M R : Int} (g : Geo M R) : casemateref15_May.f M R = some true := by
  obtain ⟨h1, h2, h3, h4⟩ := g
  unfold casemateref15_May.f
  rw [if_pos (by omega), if_pos (by omega), if_pos (by omega), decide_eq_true h4]
theorem refmay_no {M R : Int} (g : ¬ Geo M R) : casemateref15_May.f M R = some false := by
  unfold casemateref15_May.f
  by_cases h1 : M ≥ 4
  · by_cases h2 : M ≤ 64
    · by_cases h3 : R ≥ 1
      · by_cases h4 : R ≤ 64
        · exact absurd ⟨h1, h2, h3, h4⟩ g
        · rw [if_pos h1, if_pos h2, if_pos h3, decide_eq_false h4]
      · rw [if_pos h1, if_pos h2, if_neg h3]
    · rw [if_pos h1, if_neg h2]
  · rw [if_neg h1]

theorem refof_l1 (d : Nat) : ∀ (k : Nat) (M R n x c : Int), (M - 2) - c = d → Geo M R → 0 ≤ x → x < R → 0 ≤ c → x * (M - 2) + c ≤ n → d < k →
    casemateref15_Of.l1 k n (x * (M - 2) + c) x c M R = if n < (x + 1) * (M - 2) then some (x, n - x * (M - 2), 0) else casemateref15_Of.l0 (k - d - 1) n ((x + 1) * (M - 2)) (x + 1) M R := by
  induction d with
  | zero =>
    intro k M R n x c hd g hx hx' hc hn hk
    obtain ⟨k, rfl⟩ : ∃ m, k = m + 1 := ⟨k - 1, by omega⟩
    have := g.m0; have := g.m1; have := g.r1
    have e : x * (M - 2) + c = (x + 1) * (M - 2) := by rw [Int.add_mul, Int.one_mul]; omega
    simp only [casemateref15_Of.l1]
    rw [wr (x := c + 2) (by omega) (by omega), if_neg (by omega), if_neg (by omega), e, wr (by omega) (by omega)]
    rfl
  | succ d ih =>
    intro k M R n x c hd g hx hx' hc hn hk
    obtain ⟨k, rfl⟩ : ∃ m, k = m + 1 := ⟨k - 1, by omega⟩
    have := g.m0; have := g.m1; have := g.r1
    have hm := mul_rng (A := 64) (B := 64) hx (by omega) (show 0 ≤ M - 2 by omega) (by omega)
    have e : (x + 1) * (M - 2) = x * (M - 2) + (M - 2) := by rw [Int.add_mul, Int.one_mul]
    simp only [casemateref15_Of.l1]
    rw [wr (x := c + 2) (by omega) (by omega), if_pos (by omega)]
    by_cases hq : x * (M - 2) + c = n
    · rw [if_pos hq, if_pos (by omega), show n - x * (M - 2) = c by omega]
    · rw [if_neg hq, wr (x := x * (M - 2) + c + 1) (by omega) (by omega), wr (x := c + 1) (by omega) (by omega)]
      have h := ih k M R n x (c + 1) (by omega) g hx hx' (by omega) (by omega) (by omega)
      rw [Int.add_assoc, h, show k + 1 - (d + 1) - 1 = k - d - 1 by omega]
theorem refof_l0 (d : Nat) : ∀ (k : Nat) (M R n x : Int), R - x = d → Geo M R → 0 ≤ x → x * (M - 2) ≤ n → d * 70 + 10 < k →
    casemateref15_Of.l0 k n (x * (M - 2)) x M R = if n < R * (M - 2) then some (n / (M - 2), n % (M - 2), 0) else some (0, 0, 2) := by
  induction d with
  | zero =>
    intro k M R n x hd g hx hn hk
    obtain ⟨k, rfl⟩ : ∃ m, k = m + 1 := ⟨k - 1, by omega⟩
    obtain rfl : x = R := by omega
    simp only [casemateref15_Of.l0]
    rw [if_neg (by omega), if_neg (by omega)]
  | succ d ih =>
    intro k M R n x hd g hx hn hk
    obtain ⟨k, rfl⟩ : ∃ m, k = m + 1 := ⟨k - 1, by omega⟩
    have := g.m0; have := g.m1; have := g.r1
    have h1 := refof_l1 (M - 2).toNat k M R n x 0 (by omega) g hx (by omega) (by omega) (by omega) (by omega)
    rw [Int.add_zero] at h1
    simp only [casemateref15_Of.l0]
    rw [if_pos (by omega), h1]
    have e : (x + 1) * (M - 2) = x * (M - 2) + (M - 2) := by rw [Int.add_mul, Int.one_mul]
    have hle : (x + 1) * (M - 2) ≤ R * (M - 2) := Int.mul_le_mul_of_nonneg_right (by omega) (by omega)
    by_cases hq : n < (x + 1) * (M - 2)
    · have hdv := div_is (n := n) (w := M - 2) (q := x) (r := n - x * (M - 2)) (by omega) (by omega) (by omega)
      rw [if_pos hq, if_pos (by omega), hdv.1, hdv.2]
    · rw [if_neg hq]
      exact ih _ M R n (x + 1) (by omega) g (by omega) (by omega) (by omega)
theorem refof_yes {k : Nat} {M R n : Int} (hk : 5000 < k) (g : Geo M R) (h : 0 ≤ n ∧ n < R * (M - 2)) : casemateref15_Of.f k M R n = some (n / (M - 2), n % (M - 2), 0) := by
  have := g.m0; have := g.m1; have := g.r1; have := g.r0
  obtain ⟨k, rfl⟩ : ∃ m, k = m + 1 := ⟨k - 1, by omega⟩
  have hl := refof_l0 R.toNat k M R n 0 (by omega) g (by omega) (by omega) (by omega)
  rw [Int.zero_mul, if_pos h.2] at hl
  unfold casemateref15_Of.f
  rw [refmay_yes g, decide_eq_false (by omega)]
  simp only [Option.bind_some, if_true, casemateref15_Of.j0]
  rw [if_neg (by decide)]
  exact hl
theorem refof_no {k : Nat} {M R n : Int} (hk : 5000 < k) (h : ¬ (Geo M R ∧ 0 ≤ n ∧ n < R * (M - 2))) : casemateref15_Of.f k M R n = some (0, 0, 2) := by
  obtain ⟨k, rfl⟩ : ∃ m, k = m + 1 := ⟨k - 1, by omega⟩
  unfold casemateref15_Of.f
  by_cases g : Geo M R
  · have := g.m0; have := g.m1; have := g.r1; have := g.r0
    rw [refmay_yes g]
    simp only [Option.bind_some, if_true, casemateref15_Of.j0]
    by_cases h1 : n < 0
    · rw [decide_eq_true h1]; rfl
    · rw [decide_eq_false h1, if_neg (by decide)]
      have hl := refof_l0 R.toNat k M R n 0 (by omega) g (by omega) (by omega) (by omega)
      rw [Int.zero_mul, if_neg (fun h2 => h ⟨g, by omega, h2⟩)] at hl
      exact hl
  · rw [refmay_no g]
    simp [casemateref15_Of.j0]

theorem refat_l0 (d : Nat) : ∀ (k : Nat) (M R n x : Int), R - x = d → Geo M R → 0 ≤ x → 0 ≤ n → n < 9223372036854775808 → d < k →
    casemateref15_At.l0 k n x M R = if n < d * M then some (x + n / M, n % M, 0) else some (0, 0, 2) := by
  induction d with
  | zero =>
    intro k M R n x hd g hx hn hn' hk
    obtain ⟨k, rfl⟩ : ∃ m, k = m + 1 := ⟨k - 1, by omega⟩
    simp only [casemateref15_At.l0]
    rw [if_neg (by omega), if_neg (by omega)]
  | succ d ih =>
    intro k M R n x hd g hx hn hn' hk
    obtain ⟨k, rfl⟩ : ∃ m, k = m + 1 := ⟨k - 1, by omega⟩
    have := g.m0; have := g.m1; have := g.r1
    have e : ((d + 1 : Nat) : Int) * M = d * M + M := by rw [Int.natCast_add, Int.add_mul]; omega
    have hp := Int.mul_nonneg (show (0 : Int) ≤ d by omega) (show 0 ≤ M by omega)
    simp only [casemateref15_At.l0]
    rw [if_pos (by omega)]
    by_cases hq : n < M
    · rw [if_pos hq, if_pos (by omega), Int.ediv_eq_zero_of_lt hn hq, Int.emod_eq_of_lt hn hq, Int.add_zero]
    · rw [if_neg hq, wr (by omega) (by omega), wr (by omega) (by omega), ih k M R (n - M) (x + 1) (by omega) g (by omega) (by omega) (by omega) (by omega)]
      have e1 : n / M = (n - M) / M + 1 := by
        have := Int.add_mul_ediv_left (n - M) 1 (show M ≠ 0 by omega)
        rw [Int.mul_one, Int.sub_add_cancel] at this
        exact this
      have e2 : n % M = (n - M) % M := by rw [Int.sub_emod_right]
      by_cases hc : n - M < d * M
      · rw [if_pos hc, if_pos (by omega), e1, e2, show x + 1 + (n - M) / M = x + ((n - M) / M + 1) by omega]
      · rw [if_neg hc, if_neg (by omega)]
theorem refat_f {k : Nat} {M R n : Int} (hk : 100 < k) (g : Geo M R) (h : 0 ≤ n) (hn : n < 9223372036854775808) : casemateref15_At.f k M R n = if n < M * R then some (n / M, n % M, 0) else some (0, 0, 2) := by
  have := g.m0; have := g.m1; have := g.r1; have := g.r0
  obtain ⟨k, rfl⟩ : ∃ m, k = m + 1 := ⟨k - 1, by omega⟩
  have hl := refat_l0 R.toNat k M R n 0 (by omega) g (by omega) h hn (by omega)
  rw [show ((R.toNat : Nat) : Int) = R by omega, Int.mul_comm R M, Int.zero_add] at hl
  unfold casemateref15_At.f
  rw [refmay_yes g, decide_eq_false (by omega)]
  simp only [Option.bind_some, if_true, casemateref15_At.j0]
  rw [if_neg (by decide)]
  exact hl
theorem refat_yes {k : Nat} {M R n : Int} (hk : 100 < k) (g : Geo M R) (h : 0 ≤ n ∧ n < M * R) (hn : n < 9223372036854775808) : casemateref15_At.f k M R n = some (n / M, n % M, 0) := by
  rw [refat_f hk g h.1 hn, if_pos h.2]
theorem refat_no {k : Nat} {M R n : Int} (hk : 100 < k) (h : ¬ (Geo M R ∧ 0 ≤ n ∧ n < M * R)) (hn : n < 9223372036854775808) : casemateref15_At.f k M R n = some (0, 0, 2) := by
  by_cases g : Geo M R
  · by_cases h1 : n < 0
    · obtain ⟨k, rfl⟩ : ∃ m, k = m + 1 := ⟨k - 1, by omega⟩
      unfold casemateref15_At.f
      rw [refmay_yes g, decide_eq_true h1]
      rfl
    · rw [refat_f hk g (by omega) hn, if_neg (fun h2 => h ⟨g, by omega, h2⟩)]
  · obtain ⟨k, rfl⟩ : ∃ m, k = m + 1 := ⟨k - 1, by omega⟩
    unfold casemateref15_At.f
    rw [refmay_no g]
    simp [casemateref15_At.j0]

theorem finds_f {k : Nat} {M R n : Int} (hk : 6000 < k) (hn : n < 9223372036854775808) : casematelaw15_PlaceFinds.f k M R n = some true := by
  unfold casematelaw15_PlaceFinds.f
  rw [awake_f (by omega)]
  have h1 : ∃ r, place_Of.f k M R n = some r ∧ casemateref15_Of.f k M R n = some r := by
    by_cases h : Geo M R ∧ 0 ≤ n ∧ n < R * (M - 2)
    · exact ⟨_, of_yes (by omega) h.1 h.2, refof_yes (by omega) h.1 h.2⟩
    · exact ⟨_, of_no (by omega) h, refof_no (by omega) h⟩
  have h2 : ∃ r, place_At.f k M R n = some r ∧ casemateref15_At.f k M R n = some r := by
    by_cases h : Geo M R ∧ 0 ≤ n ∧ n < M * R
    · exact ⟨_, at_yes (by omega) h.1 h.2, refat_yes (by omega) h.1 h.2 hn⟩
    · exact ⟨_, at_no (by omega) h, refat_no (by omega) h hn⟩
  obtain ⟨r, e1, e2⟩ := h1
  obtain ⟨s, e3, e4⟩ := h2
  rw [e1, e2, e3, e4]
  simp
end Go.Proofs.Ytpelcemffincoaa.BrPlaceFinds
namespace Go.Proofs.Ytpelcemffincoaa.OwnPlaceFinds
open Go.RowKit Go.Proofs.Ytpelcemffincoaa.PPlaceFinds Go.Proofs.Ytpelcemffincoaa.BrPlaceFinds
theorem walk (m r n : Int) (w : World) (_ : (Lit.int .i64 m).wf = true) (_ : (Lit.int .i64 r).wf = true) (wn : (Lit.int .i64 n).wf = true) :
    Calls Try.prog 7 #[.agg #[.int .i64 m, .int .i64 r], .int .i64 n] w fun e w' => e = .returned (.bool true) ∧ Below w.heap.size w w' :=
  casematelaw15_PlaceFinds.calls 10000 m r n true w (finds_f (k := 10000) (by decide) (by have := bounds_i64 wn; omega))
end Go.Proofs.Ytpelcemffincoaa.OwnPlaceFinds
namespace Go.Proofs.Ytpelcemffincoaa.placeFinds
open Go.ChangeShapes Go.WideShapes Go.ChangeAt Go.RowKit
open Go.ChangeMaps (open_string shut_string)
set_option linter.unusedVariables false
theorem own : ownKnob Try.prog.godebug = none := by kernel_rfl
theorem Try.laidOut : laidOutB Try.prog = true := by kernel_rfl
theorem cells23 : Try.prog.cellsOf 23 = 2 := by kernel_rfl
set_option maxRecDepth 100000 in
theorem lifted (os : Os) (started : os.Started) (H : Type) (enc : TypeId × Value → H) :
    ReturnsInHanded {} Try.checked os 7 .any (Rows.placeFindsSpec.pre6 enc Try.prog Try.f7 Rows.placeFindsRow.domain false) (Rows.placeFindsSpec.post enc Try.prog Try.f7 false true false false) := by
  refine returnsInHanded_of_change_sized (C := Try.checked) own started (by kernel_rfl) Try.func7
    (ChangeSpec.witness6 (enc := enc) (C := Try.checked) false ⟨#[], #[.agg #[.int .i64 0, .int .i64 0], .int .i64 0], []⟩ 8 (by kernel_rfl) (by kernel_rfl) (by kernel_rfl) (by kernel_rfl)) ?_
  intro W base args ds gs before hval0 hW hcnd hsz0 _
  have hval : ∀ (j : Nat) t v, Try.f7.params[j]? = some t → args[j]? = some v → Value.okWide Try.prog W .any base t v := hval0
  have hW' := hW
  have hWlt := hW.lt
  obtain ⟨p, q, hA0, hV, rfl, hfz, hnd⟩ := hW
  have hA : DataW.TrodAll enc Try.prog W 0 (fun _ => true) true Try.f7.params.toList args.toList ds p := hA0
  rw [Try.params7] at hA hval
  obtain ⟨v0, vs0, d0, ds0, p0, q0, hargs, rfl, rfl, h0, r0⟩ := trodAll_cons hA
  obtain ⟨v1, vs1, d1, ds1, p1, q1, rfl, rfl, rfl, h1, r1⟩ := trodAll_cons r0
  obtain ⟨rfl, rfl, rfl⟩ := trodAll_nil r1
  obtain rfl : args = #[v0, v1] := by cases args; simp_all
  obtain ⟨rfl, rfl⟩ := trodVars_none hV
  have k0 := h0
  have l0 : ∀ x ∈ p0, x.block < W.heap.size := fun x hx => hWlt x (by simp [hx])
  have k1 := h1
  have l1 : ∀ x ∈ p1, x.block < W.heap.size := fun x hx => hWlt x (by simp [hx])
  obtain ⟨c0_0, c0_1, y0_0, y0_1, m0, rfl, rfl, rfl, hy0_0, hy0_1⟩ := Joins.open_agg2 Try.underlying23 (by kernel_rfl) cells23 (hval 0 23 v0 rfl rfl) h0
  obtain ⟨a0_0, e0_0, rfl, w0_0⟩ := DataW.trod_int Try.underlying3 hy0_0
  obtain ⟨a0_1, e0_1, rfl, w0_1⟩ := DataW.trod_int Try.underlying3 hy0_1
  simp at e0_0 e0_1
  subst e0_0 e0_1
  obtain ⟨a1, rfl, rfl, rfl, w1⟩ := open_int Try.underlying3 (hval 1 3 v1 rfl rfl) h1
  refine (OwnPlaceFinds.walk a0_0 a0_1 a1 W w0_0 w0_1 w1).mono fun e W' ⟨he, bel⟩ => ?_
  subst he
  exact ⟨_, rfl, _, _, _, [], _, [], hW', trodAll_mk1 (shut_bool Try.underlying4 _), (trodAll_cons_mk (Below.trod Try.laidOut (by kernel_rfl) (of_decide_eq_true (by kernel_rfl)) k0 bel l0) (trodAll_cons_mk (Below.trod Try.laidOut (by kernel_rfl) (of_decide_eq_true (by kernel_rfl)) k1 bel l1) trodAll_mk0)), rfl, bel.frame _, fun h => by cases h⟩
theorem over : Rows.placeFindsRow.holds Try.pinned (OpenSpec.ofChange Rows.placeFindsSpec) :=
  OpenClaim.holds_of_wide 7 Try.f7 rfl rfl rfl rfl rfl rfl rfl ⟨rfl, rfl, rfl, rfl, rfl⟩ rfl rfl rfl rfl rfl (by kernel_rfl) Try.func7 (by kernel_rfl)
    (of_decide_eq_true (by kernel_rfl)) (by unfold Func.isWrapper; first | (rw [if_pos (by decide +kernel)]; kernel_rfl) | (rw [if_neg (by decide +kernel)]; exact ⟨rfl, rfl⟩))
    (fun os started H enc _ => lifted os started H enc)
theorem proved : Rows.PlaceFindsSaid := over
#print axioms proved
end Go.Proofs.Ytpelcemffincoaa.placeFinds
namespace Go.Proofs.Ytpelcemffincoaa
/-- The row, under a short name, for the claim. -/
theorem placeFinds_holds : Rows.PlaceFindsSaid := placeFinds.proved
end Go.Proofs.Ytpelcemffincoaa
