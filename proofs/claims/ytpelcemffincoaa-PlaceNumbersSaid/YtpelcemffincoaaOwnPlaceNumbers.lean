/- The numbers of logical sectors and of leaves are the document's: of any geometry and numbers, no condition. -/
import Derived.Test.YtpelcemffincoaaPPlaceNumbersx2
import Derived.Test.YtpelcemffincoaaPl
import Derived.Test.YtpelcemffincoaaRows
import Derived.WalkKit
import Derived.ProofKit
import Derived.OpenShut
import Derived.ShutString
import Derived.ChangeOld
import Derived.Below
import Derived.Carry
import Derived.SizedLaws
import Derived.Lib.SmallJoins
namespace Go.Proofs.Ytpelcemffincoaa.BrPlaceNumbers
open Go.RowKit Go.Proofs.Ytpelcemffincoaa.PPlaceNumbers Go.Proofs.YtpelcemffincoaaW.PrintWords Go.Proofs.YtpelcemffincoaaW.PrintLast Go.Proofs.YtpelcemffincoaaW.PrintMore Go.Proofs.Ytpelcemffincoaa.Pl

theorem check_yes {M R : Int} (g : Geo M R) : geom_Check.f M R = some 0 := by
  obtain ⟨h1, h2, h3, h4⟩ := g
  unfold geom_Check.f
  rw [if_neg (by omega), if_neg (by omega), if_neg (by omega), if_neg (by omega)]
theorem check_no {M R : Int} (g : ¬ Geo M R) : geom_Check.f M R = some 2 := by
  unfold geom_Check.f
  by_cases h1 : M < 4
  · rw [if_pos h1]
  by_cases h2 : M > 64
  · rw [if_neg h1, if_pos h2]
  by_cases h3 : R < 1
  · rw [if_neg h1, if_neg h2, if_pos h3]
  by_cases h4 : R > 64
  · rw [if_neg h1, if_neg h2, if_neg h3, if_pos h4]
  exact absurd ⟨by omega, by omega, by omega, by omega⟩ g
theorem may4_l (k : Nat) (a b c d : Int) : place_may.l0 (k + 3) [a, b, c, d] 0 = if 0 ≤ a ∧ a < b ∧ 0 ≤ c ∧ c < d then some 0 else some 2 := by
  have e1 : wrap64 1 = 1 := wr (by omega) (by omega)
  have e2 : wrap64 2 = 2 := wr (by omega) (by omega)
  have e3 : wrap64 3 = 3 := wr (by omega) (by omega)
  have e4 : wrap64 4 = 4 := wr (by omega) (by omega)
  have e5 : wrap64 5 = 5 := wr (by omega) (by omega)
  simp [place_may.l0, rd, e1, e2, e3, e4, e5]
  by_cases h1 : a < 0
  · rw [if_pos h1, if_neg (by omega)]
  by_cases h2 : b ≤ a
  · rw [if_neg h1, if_pos h2, if_neg (by omega)]
  by_cases h3 : c < 0
  · rw [if_neg h1, if_neg h2, if_pos h3, if_neg (by omega)]
  by_cases h4 : d ≤ c
  · rw [if_neg h1, if_neg h2, if_neg h3, if_pos h4, if_neg (by omega)]
  rw [if_neg h1, if_neg h2, if_neg h3, if_neg h4, if_pos (by omega)]
theorem may4_yes {k : Nat} {M R a b c d : Int} (hk : 5 < k) (g : Geo M R) (h : 0 ≤ a ∧ a < b ∧ 0 ≤ c ∧ c < d) : place_may.f k M R [a, b, c, d] = some 0 := by
  obtain ⟨k, rfl⟩ : ∃ m, k = m + 3 := ⟨k - 3, by omega⟩
  unfold place_may.f
  rw [check_yes g]
  simp only [Option.bind_some, if_true]
  rw [may4_l, if_pos h]
theorem may4_no {k : Nat} {M R a b c d : Int} (hk : 5 < k) (h : ¬ (Geo M R ∧ 0 ≤ a ∧ a < b ∧ 0 ≤ c ∧ c < d)) : place_may.f k M R [a, b, c, d] = some 2 := by
  obtain ⟨k, rfl⟩ : ∃ m, k = m + 3 := ⟨k - 3, by omega⟩
  unfold place_may.f
  by_cases g : Geo M R
  · rw [check_yes g]
    simp only [Option.bind_some, if_true]
    rw [may4_l, if_neg (fun h' => h ⟨g, h'⟩)]
  · rw [check_no g]
    rfl

theorem column_yes {k : Nat} {M R row n : Int} (hk : 5 < k) (g : Geo M R) (h : 0 ≤ row ∧ row < R ∧ 0 ≤ n ∧ n < M) : place_Column.f k M R row n = some (colv M row n, 0) := by
  have := g.m0; have := g.m1; have := g.r1
  unfold place_Column.f colv
  rw [may4_yes hk g h]
  simp only [Option.bind_some, if_true]
  rw [if_neg (by omega), wr (by omega) (by omega), tmod_pos (by omega)]
theorem column_no {k : Nat} {M R row n : Int} (hk : 5 < k) (h : ¬ (Geo M R ∧ 0 ≤ row ∧ row < R ∧ 0 ≤ n ∧ n < M)) : place_Column.f k M R row n = some (0, 2) := by
  unfold place_Column.f
  rw [may4_no hk h]
  rfl
theorem member_yes {k : Nat} {M R row n : Int} (hk : 5 < k) (g : Geo M R) (h : 0 ≤ row ∧ row < R ∧ 0 ≤ n ∧ n < M) : place_Member.f k M R row n = some (memv M row n, 0) := by
  have := g.m0; have := g.m1; have := g.r1
  unfold place_Member.f memv
  rw [may4_yes hk g h]
  simp only [Option.bind_some, if_true]
  have h1 : 0 ≤ row % M := Int.emod_nonneg _ (by omega)
  have h2 : row % M < M := Int.emod_lt_of_pos _ (by omega)
  rw [if_neg (by omega), wr (x := n + M) (by omega) (by omega), tmod_pos h.1, wr (by omega) (by omega), tmod_pos (by omega)]
theorem member_no {k : Nat} {M R row n : Int} (hk : 5 < k) (h : ¬ (Geo M R ∧ 0 ≤ row ∧ row < R ∧ 0 ≤ n ∧ n < M)) : place_Member.f k M R row n = some (0, 2) := by
  unfold place_Member.f
  rw [may4_no hk h]
  rfl
theorem leaf_yes {k : Nat} {M R row n : Int} (hk : 5 < k) (g : Geo M R) (h : 0 ≤ row ∧ row < R ∧ 0 ≤ n ∧ n < M) : place_Leaf.f k M R row n = some (row * M + n, 0) := by
  have := g.m0; have := g.m1; have := g.r1
  unfold place_Leaf.f
  rw [may4_yes hk g h]
  simp only [Option.bind_some, if_true]
  have h1 := mul_rng (A := 64) (B := 64) h.1 (by omega) (show 0 ≤ M by omega) g.m1
  rw [wr (x := row * M) (by omega) (by omega), wr (by omega) (by omega)]
theorem leaf_no {k : Nat} {M R row n : Int} (hk : 5 < k) (h : ¬ (Geo M R ∧ 0 ≤ row ∧ row < R ∧ 0 ≤ n ∧ n < M)) : place_Leaf.f k M R row n = some (0, 2) := by
  unfold place_Leaf.f
  rw [may4_no hk h]
  rfl
theorem awake_f {k : Nat} (hk : 5 < k) : casematelaw15_awake.f k = some true := by
  have g : Geo 4 3 := ⟨by omega, by omega, by omega, by omega⟩
  have h1 := column_yes (k := k) (row := 1) (n := 2) hk g (by omega)
  have h2 := member_yes (k := k) (row := 1) (n := 0) hk g (by omega)
  have h3 := leaf_yes (k := k) (row := 2) (n := 1) hk g (by omega)
  unfold casematelaw15_awake.f casematelaw15_given.f casematelaw15_is.f
  simp only [Option.bind_some]
  rw [h1, h2, h3]
  rfl

theorem number_yes {k : Nat} {M R row n : Int} (hk : 5 < k) (g : Geo M R) (h : 0 ≤ row ∧ row < R ∧ 0 ≤ n ∧ n < M) : place_Number.f k M R row n = if n < M - 2 then some (row * (M - 2) + n, 0) else some (0, 5) := by
  have := g.m0; have := g.m1; have := g.r1
  unfold place_Number.f
  rw [may4_yes hk g h]
  simp only [Option.bind_some, if_true]
  have h1 := mul_rng (A := 64) (B := 64) h.1 (by omega) (show 0 ≤ M - 2 by omega) (by omega)
  rw [wr (x := M - 2) (by omega) (by omega), wr (x := row * (M - 2)) (by omega) (by omega)]
  by_cases hc : n < M - 2
  · rw [if_neg (by omega), if_pos hc, wr (by omega) (by omega)]
  · rw [if_pos (by omega), if_neg hc]
theorem number_no {k : Nat} {M R row n : Int} (hk : 5 < k) (h : ¬ (Geo M R ∧ 0 ≤ row ∧ row < R ∧ 0 ≤ n ∧ n < M)) : place_Number.f k M R row n = some (0, 2) := by
  unfold place_Number.f
  rw [may4_no hk h]
  rfl
theorem refmay_yes {M R : Int} (g : Geo M R) : casemateref15_May.f M R = some true := by
  obtain ⟨h1, h2, h3, h4⟩ := g
  unfold casemateref15_May.f
  rw [if_pos (by omega), if_pos (by omega), if_pos (by omega), decide_eq_true h4]
theorem refmay_no {M R : Int} (g : ¬ Geo M R) : casemateref15_May.f M R = some false := by
  unfold casemateref15_May.f
  by_cases h1 : M ≥ 4
  · by_cases h2 : M ≤ 64
    · by_cases h3 : R ≥ 1
      · by_cases h4 : R ≤ 64
        · exact absurd ⟨h1, h2, h3, h4⟩ g
        · rw [if_pos h1, if_pos h2, if_pos h3, decide_eq_false h4]
      · rw [if_pos h1, if_pos h2, if_neg h3]
    · rw [if_pos h1, if_neg h2]
  · rw [if_neg h1]

theorem refnum_l (d : Nat) : ∀ (k : Nat) (M R row n i : Int), row - i = d → 0 ≤ i → Geo M R → row < R → 0 ≤ n → n < M → d < k →
    casemateref15_Number.l0 k row n (i * (M - 2)) i M R = some (row * (M - 2) + n, 0) := by
  induction d with
  | zero =>
    intro k M R row n i hd hi g hr h0 h1 hk
    obtain ⟨k, rfl⟩ : ∃ m, k = m + 1 := ⟨k - 1, by omega⟩
    have := g.m0; have := g.m1; have := g.r1
    obtain rfl : i = row := by omega
    have hm := mul_rng (A := 64) (B := 64) hi (by omega) (show 0 ≤ M - 2 by omega) (by omega)
    simp only [casemateref15_Number.l0]; rw [if_neg (by omega), wr (by omega) (by omega)]
  | succ d ih =>
    intro k M R row n i hd hi g hr h0 h1 hk
    obtain ⟨k, rfl⟩ : ∃ m, k = m + 1 := ⟨k - 1, by omega⟩
    have := g.m0; have := g.m1; have := g.r1
    have hm := mul_rng (A := 64) (B := 64) hi (by omega) (show 0 ≤ M - 2 by omega) (by omega)
    have e : i * (M - 2) + M - 2 = (i + 1) * (M - 2) := by rw [Int.add_mul, Int.one_mul]; omega
    simp only [casemateref15_Number.l0]
    rw [if_pos (by omega), wr (x := i * (M - 2) + M) (by omega) (by omega), wr (x := i * (M - 2) + M - 2) (by omega) (by omega), wr (x := i + 1) (by omega) (by omega), e]
    exact ih k M R row n (i + 1) (by omega) (by omega) g hr h0 h1 (by omega)
theorem refnum_yes {k : Nat} {M R row n : Int} (hk : 100 < k) (g : Geo M R) (h : 0 ≤ row ∧ row < R ∧ 0 ≤ n ∧ n < M) : casemateref15_Number.f k M R row n = if n < M - 2 then some (row * (M - 2) + n, 0) else some (0, 5) := by
  have := g.m0; have := g.m1; have := g.r1
  obtain ⟨k, rfl⟩ : ∃ m, k = m + 1 := ⟨k - 1, by omega⟩
  have hl := refnum_l row.toNat k M R row n 0 (by omega) (by omega) g h.2.1 h.2.2.1 h.2.2.2 (by omega)
  rw [Int.zero_mul] at hl
  unfold casemateref15_Number.f
  rw [refmay_yes g]
  simp only [Option.bind_some, if_true]
  rw [if_neg (by omega), if_neg (by omega), if_neg (by omega), decide_eq_false (by omega)]
  simp only [casemateref15_Number.j0]
  rw [if_neg (by decide), wr (by omega) (by omega)]
  by_cases hc : n < M - 2
  · rw [if_neg (by omega), if_pos hc]; exact hl
  · rw [if_pos (by omega), if_neg hc]
theorem refnum_no {k : Nat} {M R row n : Int} (hk : 100 < k) (h : ¬ (Geo M R ∧ 0 ≤ row ∧ row < R ∧ 0 ≤ n ∧ n < M)) : casemateref15_Number.f k M R row n = some (0, 2) := by
  obtain ⟨k, rfl⟩ : ∃ m, k = m + 1 := ⟨k - 1, by omega⟩
  unfold casemateref15_Number.f
  by_cases g : Geo M R
  · rw [refmay_yes g]
    simp only [Option.bind_some, if_true, casemateref15_Number.j0]
    by_cases h1 : row < 0
    · rw [if_pos h1]
    by_cases h2 : row ≥ R
    · rw [if_neg h1, if_pos h2]
    by_cases h3 : n < 0
    · rw [if_neg h1, if_neg h2, if_pos h3]
    by_cases h4 : n ≥ M
    · rw [if_neg h1, if_neg h2, if_neg h3, decide_eq_true h4]; rfl
    exact absurd ⟨g, by omega, by omega, by omega, by omega⟩ h
  · rw [refmay_no g]
    simp [casemateref15_Number.j0]
theorem refleaf_yes {M R row n : Int} (g : Geo M R) (h : 0 ≤ row ∧ row < R ∧ 0 ≤ n ∧ n < M) : casemateref15_Leaf.f M R row n = some (row * M + n, 0) := by
  have := g.m0; have := g.m1; have := g.r1
  have h1 := mul_rng (A := 64) (B := 64) h.1 (by omega) (show 0 ≤ M by omega) g.m1
  unfold casemateref15_Leaf.f
  rw [refmay_yes g]
  simp only [Option.bind_some, if_true]
  rw [if_neg (by omega), if_neg (by omega), if_neg (by omega), if_neg (by omega), wr (x := row * M) (by omega) (by omega), wr (by omega) (by omega)]
theorem refleaf_no {M R row n : Int} (h : ¬ (Geo M R ∧ 0 ≤ row ∧ row < R ∧ 0 ≤ n ∧ n < M)) : casemateref15_Leaf.f M R row n = some (0, 2) := by
  unfold casemateref15_Leaf.f
  by_cases g : Geo M R
  · rw [refmay_yes g]
    simp only [Option.bind_some, if_true]
    by_cases h1 : row < 0
    · rw [if_pos h1]
    by_cases h2 : row ≥ R
    · rw [if_neg h1, if_pos h2]
    by_cases h3 : n < 0
    · rw [if_neg h1, if_neg h2, if_pos h3]
    by_cases h4 : n ≥ M
    · rw [if_neg h1, if_neg h2, if_neg h3, if_pos h4]
    exact absurd ⟨g, by omega, by omega, by omega, by omega⟩ h
  · rw [refmay_no g]
    rfl

theorem numbers_f {k : Nat} {M R row n : Int} (hk : 400 < k) : casematelaw15_PlaceNumbers.f k M R row n = some true := by
  unfold casematelaw15_PlaceNumbers.f
  rw [awake_f (by omega)]
  by_cases h : Geo M R ∧ 0 ≤ row ∧ row < R ∧ 0 ≤ n ∧ n < M
  · rw [number_yes (by omega) h.1 h.2, refnum_yes (by omega) h.1 h.2, leaf_yes (by omega) h.1 h.2, refleaf_yes h.1 h.2]
    by_cases hc : n < M - 2
    · rw [if_pos hc]; simp
    · rw [if_neg hc]; simp
  · rw [number_no (by omega) h, refnum_no (by omega) h, leaf_no (by omega) h, refleaf_no h]
    simp
end Go.Proofs.Ytpelcemffincoaa.BrPlaceNumbers
namespace Go.Proofs.Ytpelcemffincoaa.OwnPlaceNumbers
open Go.RowKit Go.Proofs.Ytpelcemffincoaa.PPlaceNumbers Go.Proofs.Ytpelcemffincoaa.BrPlaceNumbers
theorem walk (m r a b : Int) (w : World) (_ : (Lit.int .i64 m).wf = true) (_ : (Lit.int .i64 r).wf = true) (_ : (Lit.int .i64 a).wf = true) (_ : (Lit.int .i64 b).wf = true) :
    Calls Try.prog 5 #[.agg #[.int .i64 m, .int .i64 r], .int .i64 a, .int .i64 b] w fun e w' => e = .returned (.bool true) ∧ Below w.heap.size w w' :=
  casematelaw15_PlaceNumbers.calls 1000 m r a b true w (numbers_f (k := 1000) (by decide))
end Go.Proofs.Ytpelcemffincoaa.OwnPlaceNumbers
namespace Go.Proofs.Ytpelcemffincoaa.placeNumbers
open Go.ChangeShapes Go.WideShapes Go.ChangeAt Go.RowKit
open Go.ChangeMaps (open_string shut_string)
set_option linter.unusedVariables false
theorem own : ownKnob Try.prog.godebug = none := by kernel_rfl
theorem Try.laidOut : laidOutB Try.prog = true := by kernel_rfl
theorem cells23 : Try.prog.cellsOf 23 = 2 := by kernel_rfl
set_option maxRecDepth 100000 in
theorem lifted (os : Os) (started : os.Started) (H : Type) (enc : TypeId × Value → H) :
    ReturnsInHanded {} Try.checked os 5 .any (Rows.placeNumbersSpec.pre6 enc Try.prog Try.f5 Rows.placeNumbersRow.domain false) (Rows.placeNumbersSpec.post enc Try.prog Try.f5 false true false false) := by
  refine returnsInHanded_of_change_sized (C := Try.checked) own started (by kernel_rfl) Try.func5
    (ChangeSpec.witness6 (enc := enc) (C := Try.checked) false ⟨#[], #[.agg #[.int .i64 0, .int .i64 0], .int .i64 0, .int .i64 0], []⟩ 8 (by kernel_rfl) (by kernel_rfl) (by kernel_rfl) (by kernel_rfl)) ?_
  intro W base args ds gs before hval0 hW hcnd hsz0 _
  have hval : ∀ (j : Nat) t v, Try.f5.params[j]? = some t → args[j]? = some v → Value.okWide Try.prog W .any base t v := hval0
  have hW' := hW
  have hWlt := hW.lt
  obtain ⟨p, q, hA0, hV, rfl, hfz, hnd⟩ := hW
  have hA : DataW.TrodAll enc Try.prog W 0 (fun _ => true) true Try.f5.params.toList args.toList ds p := hA0
  rw [Try.params5] at hA hval
  obtain ⟨v0, vs0, d0, ds0, p0, q0, hargs, rfl, rfl, h0, r0⟩ := trodAll_cons hA
  obtain ⟨v1, vs1, d1, ds1, p1, q1, rfl, rfl, rfl, h1, r1⟩ := trodAll_cons r0
  obtain ⟨v2, vs2, d2, ds2, p2, q2, rfl, rfl, rfl, h2, r2⟩ := trodAll_cons r1
  obtain ⟨rfl, rfl, rfl⟩ := trodAll_nil r2
  obtain rfl : args = #[v0, v1, v2] := by cases args; simp_all
  obtain ⟨rfl, rfl⟩ := trodVars_none hV
  have k0 := h0
  have l0 : ∀ x ∈ p0, x.block < W.heap.size := fun x hx => hWlt x (by simp [hx])
  have k1 := h1
  have l1 : ∀ x ∈ p1, x.block < W.heap.size := fun x hx => hWlt x (by simp [hx])
  have k2 := h2
  have l2 : ∀ x ∈ p2, x.block < W.heap.size := fun x hx => hWlt x (by simp [hx])
  obtain ⟨c0_0, c0_1, y0_0, y0_1, m0, rfl, rfl, rfl, hy0_0, hy0_1⟩ := Joins.open_agg2 Try.underlying23 (by kernel_rfl) cells23 (hval 0 23 v0 rfl rfl) h0
  obtain ⟨a0_0, e0_0, rfl, w0_0⟩ := DataW.trod_int Try.underlying3 hy0_0
  obtain ⟨a0_1, e0_1, rfl, w0_1⟩ := DataW.trod_int Try.underlying3 hy0_1
  simp at e0_0 e0_1
  subst e0_0 e0_1
  obtain ⟨a1, rfl, rfl, rfl, w1⟩ := open_int Try.underlying3 (hval 1 3 v1 rfl rfl) h1
  obtain ⟨a2, rfl, rfl, rfl, w2⟩ := open_int Try.underlying3 (hval 2 3 v2 rfl rfl) h2
  refine (OwnPlaceNumbers.walk a0_0 a0_1 a1 a2 W w0_0 w0_1 w1 w2).mono fun e W' ⟨he, bel⟩ => ?_
  subst he
  exact ⟨_, rfl, _, _, _, [], _, [], hW', trodAll_mk1 (shut_bool Try.underlying4 _), (trodAll_cons_mk (Below.trod Try.laidOut (by kernel_rfl) (of_decide_eq_true (by kernel_rfl)) k0 bel l0) (trodAll_cons_mk (Below.trod Try.laidOut (by kernel_rfl) (of_decide_eq_true (by kernel_rfl)) k1 bel l1) (trodAll_cons_mk (Below.trod Try.laidOut (by kernel_rfl) (of_decide_eq_true (by kernel_rfl)) k2 bel l2) trodAll_mk0))), rfl, bel.frame _, fun h => by cases h⟩
theorem over : Rows.placeNumbersRow.holds Try.pinned (OpenSpec.ofChange Rows.placeNumbersSpec) :=
  OpenClaim.holds_of_wide 5 Try.f5 rfl rfl rfl rfl rfl rfl rfl ⟨rfl, rfl, rfl, rfl, rfl⟩ rfl rfl rfl rfl rfl (by kernel_rfl) Try.func5 (by kernel_rfl)
    (of_decide_eq_true (by kernel_rfl)) (by unfold Func.isWrapper; first | (rw [if_pos (by decide +kernel)]; kernel_rfl) | (rw [if_neg (by decide +kernel)]; exact ⟨rfl, rfl⟩))
    (fun os started H enc _ => lifted os started H enc)
theorem proved : Rows.PlaceNumbersSaid := over
#print axioms proved
end Go.Proofs.Ytpelcemffincoaa.placeNumbers
namespace Go.Proofs.Ytpelcemffincoaa
/-- The row, under a short name, for the claim. -/
theorem placeNumbers_holds : Rows.PlaceNumbersSaid := placeNumbers.proved
end Go.Proofs.Ytpelcemffincoaa
