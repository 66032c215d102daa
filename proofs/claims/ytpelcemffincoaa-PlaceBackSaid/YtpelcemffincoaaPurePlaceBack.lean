/- Columns and members, numbers and places, leaves and places undo each other: of all geometries and numbers, no condition. -/
import Derived.Test.YtpelcemffincoaaPPlaceBackx3
import Derived.Test.YtpelcemffincoaaPl
import Derived.OpenShut
namespace Go.Proofs.Ytpelcemffincoaa.BrPlaceBack
open Go.RowKit Go.Proofs.Ytpelcemffincoaa.PPlaceBack Go.Proofs.YtpelcemffincoaaW.PrintWords Go.Proofs.YtpelcemffincoaaW.PrintLast Go.Proofs.YtpelcemffincoaaW.PrintMore Go.Proofs.Ytpelcemffincoaa.Pl

theorem check_yes {M R : Int} (g : Geo M R) : geom_Check.f M R = some 0 := by
  obtain ⟨h1, h2, h3, h4⟩ := g
  unfold geom_Check.f
  rw [if_neg (by omega), if_neg (by omega), if_neg (by omega), if_neg (by omega)]
theorem check_no {M R : Int} (g : ¬ Geo M R) : geom_Check.f M R = some 2 := by
  unfold geom_Check.f
  by_cases h1 : M < 4
  · rw [if_pos h1]
  by_cases h2 : M > 64
  · rw [if_neg h1, if_pos h2]
  by_cases h3 : R < 1
  · rw [if_neg h1, if_neg h2, if_pos h3]
  by_cases h4 : R > 64
  · rw [if_neg h1, if_neg h2, if_neg h3, if_pos h4]
  exact absurd ⟨by omega, by omega, by omega, by omega⟩ g
theorem may4_l (k : Nat) (a b c d : Int) : place_may.l0 (k + 3) [a, b, c, d] 0 = if 0 ≤ a ∧ a < b ∧ 0 ≤ c ∧ c < d then some 0 else some 2 := by
  have e1 : wrap64 1 = 1 := wr (by omega) (by omega)
  have e2 : wrap64 2 = 2 := wr (by omega) (by omega)
  have e3 : wrap64 3 = 3 := wr (by omega) (by omega)
  have e4 : wrap64 4 = 4 := wr (by omega) (by omega)
  have e5 : wrap64 5 = 5 := wr (by omega) (by omega)
  simp [place_may.l0, rd, e1, e2, e3, e4, e5]
  by_cases h1 : a < 0
  · rw [if_pos h1, if_neg (by omega)]
  by_cases h2 : b ≤ a
  · rw [if_neg h1, if_pos h2, if_neg (by omega)]
  by_cases h3 : c < 0
  · rw [if_neg h1, if_neg h2, if_pos h3, if_neg (by omega)]
  by_cases h4 : d ≤ c
  · rw [if_neg h1, if_neg h2, if_neg h3, if_pos h4, if_neg (by omega)]
  rw [if_neg h1, if_neg h2, if_neg h3, if_neg h4, if_pos (by omega)]
theorem may4_yes {k : Nat} {M R a b c d : Int} (hk : 5 < k) (g : Geo M R) (h : 0 ≤ a ∧ a < b ∧ 0 ≤ c ∧ c < d) : place_may.f k M R [a, b, c, d] = some 0 := by
  obtain ⟨k, rfl⟩ : ∃ m, k = m + 3 := ⟨k - 3, by omega⟩
  unfold place_may.f
  rw [check_yes g]
  simp only [Option.bind_some, if_true]
  rw [may4_l, if_pos h]
theorem may4_no {k : Nat} {M R a b c d : Int} (hk : 5 < k) (h : ¬ (Geo M R ∧ 0 ≤ a ∧ a < b ∧ 0 ≤ c ∧ c < d)) : place_may.f k M R [a, b, c, d] = some 2 := by
  obtain ⟨k, rfl⟩ : ∃ m, k = m + 3 := ⟨k - 3, by omega⟩
  unfold place_may.f
  by_cases g : Geo M R
  · rw [check_yes g]
    simp only [Option.bind_some, if_true]
    rw [may4_l, if_neg (fun h' => h ⟨g, h'⟩)]
  · rw [check_no g]
    rfl

theorem column_yes {k : Nat} {M R row n : Int} (hk : 5 < k) (g : Geo M R) (h : 0 ≤ row ∧ row < R ∧ 0 ≤ n ∧ n < M) : place_Column.f k M R row n = some (colv M row n, 0) := by
  have := g.m0; have := g.m1; have := g.r1
  unfold place_Column.f colv
  rw [may4_yes hk g h]
  simp only [Option.bind_some, if_true]
  rw [if_neg (by omega), wr (by omega) (by omega), tmod_pos (by omega)]
theorem column_no {k : Nat} {M R row n : Int} (hk : 5 < k) (h : ¬ (Geo M R ∧ 0 ≤ row ∧ row < R ∧ 0 ≤ n ∧ n < M)) : place_Column.f k M R row n = some (0, 2) := by
  unfold place_Column.f
  rw [may4_no hk h]
  rfl
theorem member_yes {k : Nat} {M R row n : Int} (hk : 5 < k) (g : Geo M R) (h : 0 ≤ row ∧ row < R ∧ 0 ≤ n ∧ n < M) : place_Member.f k M R row n = some (memv M row n, 0) := by
  have := g.m0; have := g.m1; have := g.r1
  unfold place_Member.f memv
  rw [may4_yes hk g h]
  simp only [Option.bind_some, if_true]
  have h1 : 0 ≤ row % M := Int.emod_nonneg _ (by omega)
  have h2 : row % M < M := Int.emod_lt_of_pos _ (by omega)
  rw [if_neg (by omega), wr (x := n + M) (by omega) (by omega), tmod_pos h.1, wr (by omega) (by omega), tmod_pos (by omega)]
theorem member_no {k : Nat} {M R row n : Int} (hk : 5 < k) (h : ¬ (Geo M R ∧ 0 ≤ row ∧ row < R ∧ 0 ≤ n ∧ n < M)) : place_Member.f k M R row n = some (0, 2) := by
  unfold place_Member.f
  rw [may4_no hk h]
  rfl
theorem leaf_yes {k : Nat} {M R row n : Int} (hk : 5 < k) (g : Geo M R) (h : 0 ≤ row ∧ row < R ∧ 0 ≤ n ∧ n < M) : place_Leaf.f k M R row n = some (row * M + n, 0) := by
  have := g.m0; have := g.m1; have := g.r1
  unfold place_Leaf.f
  rw [may4_yes hk g h]
  simp only [Option.bind_some, if_true]
  have h1 := mul_rng (A := 64) (B := 64) h.1 (by omega) (show 0 ≤ M by omega) g.m1
  rw [wr (x := row * M) (by omega) (by omega), wr (by omega) (by omega)]
theorem leaf_no {k : Nat} {M R row n : Int} (hk : 5 < k) (h : ¬ (Geo M R ∧ 0 ≤ row ∧ row < R ∧ 0 ≤ n ∧ n < M)) : place_Leaf.f k M R row n = some (0, 2) := by
  unfold place_Leaf.f
  rw [may4_no hk h]
  rfl
theorem awake_f {k : Nat} (hk : 5 < k) : casematelaw15_awake.f k = some true := by
  have g : Geo 4 3 := ⟨by omega, by omega, by omega, by omega⟩
  have h1 := column_yes (k := k) (row := 1) (n := 2) hk g (by omega)
  have h2 := member_yes (k := k) (row := 1) (n := 0) hk g (by omega)
  have h3 := leaf_yes (k := k) (row := 2) (n := 1) hk g (by omega)
  unfold casematelaw15_awake.f casematelaw15_given.f casematelaw15_is.f
  simp only [Option.bind_some]
  rw [h1, h2, h3]
  rfl

theorem may2_l (k : Nat) (a b : Int) : place_may.l0 (k + 2) [a, b] 0 = if 0 ≤ a ∧ a < b then some 0 else some 2 := by
  have e1 : wrap64 1 = 1 := wr (by omega) (by omega)
  have e2 : wrap64 2 = 2 := wr (by omega) (by omega)
  have e3 : wrap64 3 = 3 := wr (by omega) (by omega)
  simp [place_may.l0, rd, e1, e2, e3]
  by_cases h1 : a < 0
  · rw [if_pos h1, if_neg (by omega)]
  by_cases h2 : b ≤ a
  · rw [if_neg h1, if_pos h2, if_neg (by omega)]
  rw [if_neg h1, if_neg h2, if_pos (by omega)]
theorem may2_yes {k : Nat} {M R a b : Int} (hk : 5 < k) (g : Geo M R) (h : 0 ≤ a ∧ a < b) : place_may.f k M R [a, b] = some 0 := by
  obtain ⟨k, rfl⟩ : ∃ m, k = m + 2 := ⟨k - 2, by omega⟩
  unfold place_may.f
  rw [check_yes g]
  simp only [Option.bind_some, if_true]
  rw [may2_l, if_pos h]
theorem may2_no {k : Nat} {M R a b : Int} (hk : 5 < k) (h : ¬ (Geo M R ∧ 0 ≤ a ∧ a < b)) : place_may.f k M R [a, b] = some 2 := by
  obtain ⟨k, rfl⟩ : ∃ m, k = m + 2 := ⟨k - 2, by omega⟩
  unfold place_may.f
  by_cases g : Geo M R
  · rw [check_yes g]
    simp only [Option.bind_some, if_true]
    rw [may2_l, if_neg (fun h' => h ⟨g, h'⟩)]
  · rw [check_no g]
    rfl
theorem logical_yes {M R : Int} (g : Geo M R) : geom_Logical.f M R = some (R * (M - 2)) := by
  have := g.m0; have := g.m1; have := g.r1; have := g.r0
  unfold geom_Logical.f geom_is.f
  rw [check_yes g]
  have h1 := mul_rng (A := 64) (B := 64) (show 0 ≤ R by omega) g.r1 (show 0 ≤ M - 2 by omega) (by omega)
  have e : wrap64 (M - 2) = M - 2 := wr (by omega) (by omega)
  have e2 : wrap64 (R * (M - 2)) = R * (M - 2) := wr (by omega) (by omega)
  simp [e, e2]
theorem logical_no {M R : Int} (g : ¬ Geo M R) : geom_Logical.f M R = some 0 := by
  unfold geom_Logical.f geom_is.f
  rw [check_no g]
  rfl
theorem of_yes {k : Nat} {M R n : Int} (hk : 5 < k) (g : Geo M R) (h : 0 ≤ n ∧ n < R * (M - 2)) : place_Of.f k M R n = some (n / (M - 2), n % (M - 2), 0) := by
  have := g.m0; have := g.m1; have := g.r1; have := g.r0
  have h1 := mul_rng (A := 64) (B := 64) (show 0 ≤ R by omega) g.r1 (show 0 ≤ M - 2 by omega) (by omega)
  have e : wrap64 (M - 2) = M - 2 := wr (by omega) (by omega)
  have h2 := div_rng (show 0 < M - 2 by omega) h.1 h.2
  have e2 : wrap64 (n / (M - 2)) = n / (M - 2) := wr (by omega) (by omega)
  unfold place_Of.f
  rw [logical_yes g]
  simp only [Option.bind_some]
  rw [may2_yes hk g h]
  simp only [Option.bind_some, if_true]
  rw [e, if_neg (by omega), tmod_pos h.1, tdiv_pos h.1, e2]
theorem of_no {k : Nat} {M R n : Int} (hk : 5 < k) (h : ¬ (Geo M R ∧ 0 ≤ n ∧ n < R * (M - 2))) : place_Of.f k M R n = some (0, 0, 2) := by
  unfold place_Of.f
  by_cases g : Geo M R
  · rw [logical_yes g]
    simp only [Option.bind_some]
    rw [may2_no hk h]
    rfl
  · rw [logical_no g]
    simp only [Option.bind_some]
    rw [may2_no hk (fun h' => g h'.1)]
    rfl
theorem leaves_yes {M R : Int} (g : Geo M R) : geom_Leaves.f M R = some (M * R) := by
  have := g.m0; have := g.m1; have := g.r1; have := g.r0
  unfold geom_Leaves.f geom_is.f
  rw [check_yes g]
  have h1 := mul_rng (A := 64) (B := 64) (show 0 ≤ M by omega) g.m1 (show 0 ≤ R by omega) (by omega)
  have e2 : wrap64 (M * R) = M * R := wr (by omega) (by omega)
  simp [e2]
theorem leaves_no {M R : Int} (g : ¬ Geo M R) : geom_Leaves.f M R = some 0 := by
  unfold geom_Leaves.f geom_is.f
  rw [check_no g]
  rfl
theorem at_yes {k : Nat} {M R n : Int} (hk : 5 < k) (g : Geo M R) (h : 0 ≤ n ∧ n < M * R) : place_At.f k M R n = some (n / M, n % M, 0) := by
  have := g.m0; have := g.m1; have := g.r1; have := g.r0
  have h1 := mul_rng (A := 64) (B := 64) (show 0 ≤ M by omega) g.m1 (show 0 ≤ R by omega) (by omega)
  have h2 := div_rng (R := R) (show 0 < M by omega) h.1 (by rw [Int.mul_comm]; exact h.2)
  have e2 : wrap64 (n / M) = n / M := wr (by omega) (by omega)
  unfold place_At.f
  rw [leaves_yes g]
  simp only [Option.bind_some]
  rw [may2_yes hk g h]
  simp only [Option.bind_some, if_true]
  rw [if_neg (by omega), tmod_pos h.1, tdiv_pos h.1, e2]
theorem at_no {k : Nat} {M R n : Int} (hk : 5 < k) (h : ¬ (Geo M R ∧ 0 ≤ n ∧ n < M * R)) : place_At.f k M R n = some (0, 0, 2) := by
  unfold place_At.f
  by_cases g : Geo M R
  · rw [leaves_yes g]
    simp only [Option.bind_some]
    rw [may2_no hk h]
    rfl
  · rw [leaves_no g]
    simp only [Option.bind_some]
    rw [may2_no hk (fun h' => g h'.1)]
    rfl
theorem number_yes {k : Nat} {M R row n : Int} (hk : 5 < k) (g : Geo M R) (h : 0 ≤ row ∧ row < R ∧ 0 ≤ n ∧ n < M) : place_Number.f k M R row n = if n < M - 2 then some (row * (M - 2) + n, 0) else some (0, 5) := by
  have := g.m0; have := g.m1; have := g.r1
  unfold place_Number.f
  rw [may4_yes hk g h]
  simp only [Option.bind_some, if_true]
  have h1 := mul_rng (A := 64) (B := 64) h.1 (by omega) (show 0 ≤ M - 2 by omega) (by omega)
  rw [wr (x := M - 2) (by omega) (by omega), wr (x := row * (M - 2)) (by omega) (by omega)]
  by_cases hc : n < M - 2
  · rw [if_neg (by omega), if_pos hc, wr (by omega) (by omega)]
  · rw [if_pos (by omega), if_neg hc]
theorem number_no {k : Nat} {M R row n : Int} (hk : 5 < k) (h : ¬ (Geo M R ∧ 0 ≤ row ∧ row < R ∧ 0 ≤ n ∧ n < M)) : place_Number.f k M R row n = some (0, 2) := by
  unfold place_Number.f
  rw [may4_no hk h]
  rfl
theorem back_f {k : Nat} {M R x : Int} (hk : 20 < k) (g : Geo M R) (hx : 0 ≤ x ∧ x ≤ 65535) :
    ((geom_Leaves.f M R).bind fun t165 => (if t165 < 1 then (casematelaw15_PlaceBack.j0 k x true M R) else ((geom_Logical.f M R).bind fun t166 => (casematelaw15_PlaceBack.j0 k x (decide (t166 < 1)) M R)))) = some true := by
  have h1 := g.m0; have h2 := g.m1; have h3 := g.r1; have h4 := g.r0
  have hL := mul_rng (a := M) (b := R) (A := 64) (B := 64) (by omega) g.m1 (by omega) (by omega)
  have hL1 : 1 * 1 ≤ M * R := Int.mul_le_mul (by omega) (by omega) (by omega) (by omega)
  have hN := mul_rng (a := R) (b := M - 2) (A := 64) (B := 64) (by omega) g.r1 (by omega) (by omega)
  have hN1 : 1 * 1 ≤ R * (M - 2) := Int.mul_le_mul (by omega) (by omega) (by omega) (by omega)
  rw [leaves_yes g, logical_yes g]
  simp only [Option.bind_some]
  rw [if_neg (by omega), decide_eq_false (by omega)]
  obtain ⟨k, rfl⟩ : ∃ m, k = m + 1 := ⟨k - 1, by omega⟩
  simp only [casematelaw15_PlaceBack.j0]
  rw [if_neg (by decide), leaves_yes g, logical_yes g, wr (x := x) (by omega) (by omega)]
  simp only [Option.bind_some]
  rw [if_neg (by omega), if_neg (by omega), tmod_pos hx.1, tmod_pos hx.1]
  have b1 : 0 ≤ x % (M * R) ∧ x % (M * R) < M * R := ⟨Int.emod_nonneg _ (by omega), Int.emod_lt_of_pos _ (by omega)⟩
  have b2 : 0 ≤ x % (R * (M - 2)) ∧ x % (R * (M - 2)) < R * (M - 2) := ⟨Int.emod_nonneg _ (by omega), Int.emod_lt_of_pos _ (by omega)⟩
  generalize x % (M * R) = l at b1 ⊢
  generalize x % (R * (M - 2)) = n at b2 ⊢
  have d1 := div_rng (R := R) (show 0 < M by omega) b1.1 (by rw [Int.mul_comm]; exact b1.2)
  have d2 := div_rng (R := R) (show 0 < M - 2 by omega) b2.1 b2.2
  have c1 := colv_rng (M := M) (row := l / M) (n := l % M) (by omega)
  rw [at_yes (by omega) g b1]
  simp only [Option.bind_some]
  rw [leaf_yes (by omega) g ⟨d1.1, d1.2.1, d1.2.2.1, d1.2.2.2.1⟩, column_yes (by omega) g ⟨d1.1, d1.2.1, d1.2.2.1, d1.2.2.2.1⟩]
  simp only [Option.bind_some]
  rw [member_yes (by omega) g ⟨d1.1, d1.2.1, c1.1, c1.2⟩, memv_colv d1.2.2.1 d1.2.2.2.1]
  simp only [Option.bind_some, if_true]
  rw [if_pos d1.2.2.2.2.symm]
  obtain ⟨k, rfl⟩ : ∃ m, k = m + 1 := ⟨k - 1, by omega⟩
  have c2 := memv_rng (M := M) (row := n / (M - 2)) (n := n % (M - 2)) (by omega)
  simp only [casematelaw15_PlaceBack.j1]
  rw [if_neg (by simp), of_yes (by omega) g b2]
  simp only [Option.bind_some]
  rw [number_yes (by omega) g ⟨d2.1, d2.2.1, d2.2.2.1, by omega⟩, if_pos d2.2.2.2.1, member_yes (by omega) g ⟨d2.1, d2.2.1, d2.2.2.1, by omega⟩]
  simp only [Option.bind_some]
  rw [column_yes (by omega) g ⟨d2.1, d2.2.1, c2.1, c2.2⟩, colv_memv d2.2.2.1 (by omega), awake_f (by omega), wr (x := M - 2) (by omega) (by omega)]
  simp only [Option.bind_some, if_true]
  rw [if_pos d2.2.2.2.2.symm, if_pos d2.2.2.2.1]
end Go.Proofs.Ytpelcemffincoaa.BrPlaceBack
namespace Go.Proofs.Ytpelcemffincoaa.Pure
open Go.RowKit Go.Proofs.Ytpelcemffincoaa.PPlaceBack Go.Proofs.Ytpelcemffincoaa.BrPlaceBack Go.Proofs.Ytpelcemffincoaa.Pl
theorem PlaceBack : casematelaw15_PlaceBack.Pure := by
  intro a b c wa wb wc
  have ha := bounds_u8 wa
  have hb := bounds_u8 wb
  have hc := bounds_u16 wc
  refine ⟨100, ?_⟩
  have ea : Int.tmod a 61 = a % 61 := tmod_pos (by omega)
  have eb : Int.tmod b 64 = b % 64 := tmod_pos (by omega)
  have hs : casematelaw15_small.f a b = some (4 + a % 61, 1 + b % 64) := by
    unfold casematelaw15_small.f
    rw [wr (x := a) (by omega) (by omega), wr (x := b) (by omega) (by omega), ea, eb, wr (x := 4 + a % 61) (by omega) (by omega), wr (x := 1 + b % 64) (by omega) (by omega)]
  unfold casematelaw15_PlaceBack.f
  rw [hs]
  simp only [Option.bind_some]
  exact back_f (by decide) ⟨by omega, by omega, by omega, by omega⟩ hc
end Go.Proofs.Ytpelcemffincoaa.Pure
