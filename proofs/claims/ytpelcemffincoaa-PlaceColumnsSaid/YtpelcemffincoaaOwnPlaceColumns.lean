/- Which member has which column of a row is the document's answer: of any geometry and numbers, no condition. -/
import Derived.Test.YtpelcemffincoaaPPlaceColumnsx2
import Derived.Test.YtpelcemffincoaaPl
import Derived.Test.YtpelcemffincoaaRows
import Derived.WalkKit
import Derived.ProofKit
import Derived.OpenShut
import Derived.ShutString
import Derived.ChangeOld
import Derived.Below
import Derived.Carry
import Derived.SizedLaws
import Derived.Lib.SmallJoins
namespace Go.Proofs.Ytpelcemffincoaa.BrPlaceColumns
open Go.RowKit Go.Proofs.Ytpelcemffincoaa.PPlaceColumns Go.Proofs.YtpelcemffincoaaW.PrintWords Go.Proofs.YtpelcemffincoaaW.PrintLast Go.Proofs.YtpelcemffincoaaW.PrintMore Go.Proofs.Ytpelcemffincoaa.Pl

theorem check_yes {M R : Int} (g : Geo M R) : geom_Check.f M R = some 0 := by
  obtain ⟨h1, h2, h3, h4⟩ := g
  unfold geom_Check.f
  rw [if_neg (by omega), if_neg (by omega), if_neg (by omega), if_neg (by omega)]
theorem check_no {M R : Int} (g : ¬ Geo M R) : geom_Check.f M R = some 2 := by
  unfold geom_Check.f
  by_cases h1 : M < 4
  · rw [if_pos h1]
  by_cases h2 : M > 64
  · rw [if_neg h1, if_pos h2]
  by_cases h3 : R < 1
  · rw [if_neg h1, if_neg h2, if_pos h3]
  by_cases h4 : R > 64
  · rw [if_neg h1, if_neg h2, if_neg h3, if_pos h4]
  exact absurd ⟨by omega, by omega, by omega, by omega⟩ g
theorem may4_l (k : Nat) (a b c d : Int) : place_may.l0 (k + 3) [a, b, c, d] 0 = if 0 ≤ a ∧ a < b ∧ 0 ≤ c ∧ c < d then some 0 else some 2 := by
  have e1 : wrap64 1 = 1 := wr (by omega) (by omega)
  have e2 : wrap64 2 = 2 := wr (by omega) (by omega)
  have e3 : wrap64 3 = 3 := wr (by omega) (by omega)
  have e4 : wrap64 4 = 4 := wr (by omega) (by omega)
  have e5 : wrap64 5 = 5 := wr (by omega) (by omega)
  simp [place_may.l0, rd, e1, e2, e3, e4, e5]
  by_cases h1 : a < 0
  · rw [if_pos h1, if_neg (by omega)]
  by_cases h2 : b ≤ a
  · rw [if_neg h1, if_pos h2, if_neg (by omega)]
  by_cases h3 : c < 0
  · rw [if_neg h1, if_neg h2, if_pos h3, if_neg (by omega)]
  by_cases h4 : d ≤ c
  · rw [if_neg h1, if_neg h2, if_neg h3, if_pos h4, if_neg (by omega)]
  rw [if_neg h1, if_neg h2, if_neg h3, if_neg h4, if_pos (by omega)]
theorem may4_yes {k : Nat} {M R a b c d : Int} (hk : 5 < k) (g : Geo M R) (h : 0 ≤ a ∧ a < b ∧ 0 ≤ c ∧ c < d) : place_may.f k M R [a, b, c, d] = some 0 := by
  obtain ⟨k, rfl⟩ : ∃ m, k = m + 3 := ⟨k - 3, by omega⟩
  unfold place_may.f
  rw [check_yes g]
  simp only [Option.bind_some, if_true]
  rw [may4_l, if_pos h]
theorem may4_no {k : Nat} {M R a b c d : Int} (hk : 5 < k) (h : ¬ (Geo M R ∧ 0 ≤ a ∧ a < b ∧ 0 ≤ c ∧ c < d)) : place_may.f k M R [a, b, c, d] = some 2 := by
  obtain ⟨k, rfl⟩ : ∃ m, k = m + 3 := ⟨k - 3, by omega⟩
  unfold place_may.f
  by_cases g : Geo M R
  · rw [check_yes g]
    simp only [Option.bind_some, if_true]
    rw [may4_l, if_neg (fun h' => h ⟨g, h'⟩)]
  · rw [check_no g]
    rfl

theorem column_yes {k : Nat} {M R row n : Int} (hk : 5 < k) (g : Geo M R) (h : 0 ≤ row ∧ row < R ∧ 0 ≤ n ∧ n < M) : place_Column.f k M R row n = some (colv M row n, 0) := by
  have := g.m0; have := g.m1; have := g.r1
  unfold place_Column.f colv
  rw [may4_yes hk g h]
  simp only [Option.bind_some, if_true]
  rw [if_neg (by omega), wr (by omega) (by omega), tmod_pos (by omega)]
theorem column_no {k : Nat} {M R row n : Int} (hk : 5 < k) (h : ¬ (Geo M R ∧ 0 ≤ row ∧ row < R ∧ 0 ≤ n ∧ n < M)) : place_Column.f k M R row n = some (0, 2) := by
  unfold place_Column.f
  rw [may4_no hk h]
  rfl
theorem member_yes {k : Nat} {M R row n : Int} (hk : 5 < k) (g : Geo M R) (h : 0 ≤ row ∧ row < R ∧ 0 ≤ n ∧ n < M) : place_Member.f k M R row n = some (memv M row n, 0) := by
  have := g.m0; have := g.m1; have := g.r1
  unfold place_Member.f memv
  rw [may4_yes hk g h]
  simp only [Option.bind_some, if_true]
  have h1 : 0 ≤ row % M := Int.emod_nonneg _ (by omega)
  have h2 : row % M < M := Int.emod_lt_of_pos _ (by omega)
  rw [if_neg (by omega), wr (x := n + M) (by omega) (by omega), tmod_pos h.1, wr (by omega) (by omega), tmod_pos (by omega)]
theorem member_no {k : Nat} {M R row n : Int} (hk : 5 < k) (h : ¬ (Geo M R ∧ 0 ≤ row ∧ row < R ∧ 0 ≤ n ∧ n < M)) : place_Member.f k M R row n = some (0, 2) := by
  unfold place_Member.f
  rw [may4_no hk h]
  rfl
theorem leaf_yes {k : Nat} {M R row n : Int} (hk : 5 < k) (g : Geo M R) (h : 0 ≤ row ∧ row < R ∧ 0 ≤ n ∧ n < M) : place_Leaf.f k M R row n = some (row * M + n, 0) := by
  have := g.m0; have := g.m1; have := g.r1
  unfold place_Leaf.f
  rw [may4_yes hk g h]
  simp only [Option.bind_some, if_true]
  have h1 := mul_rng (A := 64) (B := 64) h.1 (by omega) (show 0 ≤ M by omega) g.m1
  rw [wr (x := row * M) (by omega) (by omega), wr (by omega) (by omega)]
theorem leaf_no {k : Nat} {M R row n : Int} (hk : 5 < k) (h : ¬ (Geo M R ∧ 0 ≤ row ∧ row < R ∧ 0 ≤ n ∧ n < M)) : place_Leaf.f k M R row n = some (0, 2) := by
  unfold place_Leaf.f
  rw [may4_no hk h]
  rfl
theorem awake_f {k : Nat} (hk : 5 < k) : casematelaw15_awake.f k = some true := by
  have g : Geo 4 3 := ⟨by omega, by omega, by omega, by omega⟩
  have h1 := column_yes (k := k) (row := 1) (n := 2) hk g (by omega)
  have h2 := member_yes (k := k) (row := 1) (n := 0) hk g (by omega)
  have h3 := leaf_yes (k := k) (row := 2) (n := 1) hk g (by omega)
  unfold casematelaw15_awake.f casematelaw15_given.f casematelaw15_is.f
  simp only [Option.bind_some]
  rw [h1, h2, h3]
  rfl

theorem refmay_yes {M R : Int} (g : Geo M R) : casemateref15_May.f M R = some true := by
  obtain ⟨h1, h2, h3, h4⟩ := g
  unfold casemateref15_May.f
  rw [if_pos (by omega), if_pos (by omega), if_pos (by omega), decide_eq_true h4]
theorem refmay_no {M R : Int} (g : ¬ Geo M R) : casemateref15_May.f M R = some false := by
  unfold casemateref15_May.f
  by_cases h1 : M ≥ 4
  · by_cases h2 : M ≤ 64
    · by_cases h3 : R ≥ 1
      · by_cases h4 : R ≤ 64
        · exact absurd ⟨h1, h2, h3, h4⟩ g
        · rw [if_pos h1, if_pos h2, if_pos h3, decide_eq_false h4]
      · rw [if_pos h1, if_pos h2, if_neg h3]
    · rw [if_pos h1, if_neg h2]
  · rw [if_neg h1]

theorem colv_succ {M i n : Int} (hM : 0 < M) : colv M (i + 1) n = if colv M i n + 1 = M then 0 else colv M i n + 1 := by
  have hr := colv_rng (row := i) (n := n) hM
  have e := Int.emod_def (n + i) M
  by_cases h : colv M i n + 1 = M
  · rw [if_pos h]
    unfold colv at *
    refine emod_is (q := (n + i) / M + 1) ?_ (by omega) (by omega)
    rw [Int.mul_add, Int.mul_one]; omega
  · rw [if_neg h]
    unfold colv at *
    refine emod_is (q := (n + i) / M) ?_ (by omega) (by omega)
    omega
theorem colv_zero {M n : Int} (h0 : 0 ≤ n) (h1 : n < M) : colv M 0 n = n := by
  unfold colv
  rw [Int.add_zero, Int.emod_eq_of_lt h0 h1]
theorem refcol_l (d : Nat) : ∀ (k : Nat) (M R row n i : Int), row - i = d → 0 ≤ i → row < 64 → 4 ≤ M → M ≤ 64 → d < k →
    casemateref15_Column.l0 k row (colv M i n) i M R = some (colv M row n, 0) := by
  induction d with
  | zero =>
    intro k M R row n i hd _ _ _ _ hk
    obtain ⟨k, rfl⟩ : ∃ m, k = m + 1 := ⟨k - 1, by omega⟩
    obtain rfl : i = row := by omega
    simp only [casemateref15_Column.l0]; rw [if_neg (by omega)]
  | succ d ih =>
    intro k M R row n i hd hi hr hM hM' hk
    obtain ⟨k, rfl⟩ : ∃ m, k = m + 1 := ⟨k - 1, by omega⟩
    have hc := colv_rng (M := M) (row := i) (n := n) (by omega)
    have hs := colv_succ (M := M) (i := i) (n := n) (by omega)
    simp only [casemateref15_Column.l0]
    rw [if_pos (by omega), wr (x := colv M i n + 1) (by omega) (by omega), wr (x := i + 1) (by omega) (by omega)]
    have h := ih k M R row n (i + 1) (by omega) (by omega) hr hM hM' (by omega)
    by_cases hx : colv M i n + 1 = M
    · rw [if_pos hx]; rw [if_pos hx] at hs; rw [hs] at h; exact h
    · rw [if_neg hx]; rw [if_neg hx] at hs; rw [hs] at h; exact h
theorem refcol_yes {k : Nat} {M R row n : Int} (hk : 100 < k) (g : Geo M R) (h : 0 ≤ row ∧ row < R ∧ 0 ≤ n ∧ n < M) : casemateref15_Column.f k M R row n = some (colv M row n, 0) := by
  have := g.m0; have := g.m1; have := g.r1
  obtain ⟨k, rfl⟩ : ∃ m, k = m + 1 := ⟨k - 1, by omega⟩
  have hl := refcol_l row.toNat k M R row n 0 (by omega) (by omega) (by omega) g.m0 g.m1 (by omega)
  rw [colv_zero h.2.2.1 h.2.2.2] at hl
  unfold casemateref15_Column.f
  rw [refmay_yes g]
  simp only [Option.bind_some, if_true]
  rw [if_neg (by omega), if_neg (by omega), if_neg (by omega), decide_eq_false (by omega)]
  simp only [casemateref15_Column.j0]
  rw [if_neg (by decide)]
  exact hl
theorem refcol_no {k : Nat} {M R row n : Int} (hk : 100 < k) (h : ¬ (Geo M R ∧ 0 ≤ row ∧ row < R ∧ 0 ≤ n ∧ n < M)) : casemateref15_Column.f k M R row n = some (0, 2) := by
  obtain ⟨k, rfl⟩ : ∃ m, k = m + 1 := ⟨k - 1, by omega⟩
  unfold casemateref15_Column.f
  by_cases g : Geo M R
  · rw [refmay_yes g]
    simp only [Option.bind_some, if_true, casemateref15_Column.j0]
    by_cases h1 : row < 0
    · rw [if_pos h1]
    by_cases h2 : row ≥ R
    · rw [if_neg h1, if_pos h2]
    by_cases h3 : n < 0
    · rw [if_neg h1, if_neg h2, if_pos h3]
    by_cases h4 : n ≥ M
    · rw [if_neg h1, if_neg h2, if_neg h3, decide_eq_true h4]; rfl
    exact absurd ⟨g, by omega, by omega, by omega, by omega⟩ h
  · rw [refmay_no g]
    simp [casemateref15_Column.j0]
theorem refmem_l (d : Nat) : ∀ (k : Nat) (M R row c x : Int), M - x = d → Geo M R → 0 ≤ x → x ≤ memv M row c → 0 ≤ row → row < R → 0 ≤ c → c < M → d + 110 < k →
    casemateref15_Member.l0 k row c x M R = some (memv M row c, 0) := by
  induction d with
  | zero =>
    intro k M R row c x hd g hx hm _ _ _ _ hk
    have := memv_rng (M := M) (row := row) (n := c) (by have := g.m0; omega)
    omega
  | succ d ih =>
    intro k M R row c x hd g hx hm h0 h1 h2 h3 hk
    obtain ⟨k, rfl⟩ : ∃ m, k = m + 1 := ⟨k - 1, by omega⟩
    have := g.m0; have := g.m1
    have hr := memv_rng (M := M) (row := row) (n := c) (by omega)
    simp only [casemateref15_Member.l0]
    rw [if_pos (by omega), refcol_yes (by omega) g ⟨h0, h1, hx, by omega⟩]
    simp only [Option.bind_some]
    by_cases e : colv M row x = c
    · have e2 : x = memv M row c := by rw [← e, memv_colv hx (by omega)]
      rw [if_pos e, ← e2]
    · have e2 : x ≠ memv M row c := by
        intro h; apply e; rw [h, colv_memv h2 h3]
      rw [if_neg e, wr (by omega) (by omega)]
      exact ih k M R row c (x + 1) (by omega) g (by omega) (by omega) h0 h1 h2 h3 (by omega)
theorem refmem_yes {k : Nat} {M R row n : Int} (hk : 300 < k) (g : Geo M R) (h : 0 ≤ row ∧ row < R ∧ 0 ≤ n ∧ n < M) : casemateref15_Member.f k M R row n = some (memv M row n, 0) := by
  have := g.m0; have := g.m1; have := g.r1
  obtain ⟨k, rfl⟩ : ∃ m, k = m + 1 := ⟨k - 1, by omega⟩
  have hr := memv_rng (M := M) (row := row) (n := n) (by omega)
  have hl := refmem_l M.toNat k M R row n 0 (by omega) g (by omega) hr.1 h.1 h.2.1 h.2.2.1 h.2.2.2 (by omega)
  unfold casemateref15_Member.f
  rw [refmay_yes g]
  simp only [Option.bind_some, if_true]
  rw [if_neg (by omega), if_neg (by omega), if_neg (by omega), decide_eq_false (by omega)]
  simp only [casemateref15_Member.j0]
  rw [if_neg (by decide)]
  exact hl
theorem refmem_no {k : Nat} {M R row n : Int} (hk : 100 < k) (h : ¬ (Geo M R ∧ 0 ≤ row ∧ row < R ∧ 0 ≤ n ∧ n < M)) : casemateref15_Member.f k M R row n = some (0, 2) := by
  obtain ⟨k, rfl⟩ : ∃ m, k = m + 1 := ⟨k - 1, by omega⟩
  unfold casemateref15_Member.f
  by_cases g : Geo M R
  · rw [refmay_yes g]
    simp only [Option.bind_some, if_true, casemateref15_Member.j0]
    by_cases h1 : row < 0
    · rw [if_pos h1]
    by_cases h2 : row ≥ R
    · rw [if_neg h1, if_pos h2]
    by_cases h3 : n < 0
    · rw [if_neg h1, if_neg h2, if_pos h3]
    by_cases h4 : n ≥ M
    · rw [if_neg h1, if_neg h2, if_neg h3, decide_eq_true h4]; rfl
    exact absurd ⟨g, by omega, by omega, by omega, by omega⟩ h
  · rw [refmay_no g]
    simp [casemateref15_Member.j0]

theorem columns_f {k : Nat} {M R row n : Int} (hk : 400 < k) : casematelaw15_PlaceColumns.f k M R row n = some true := by
  unfold casematelaw15_PlaceColumns.f
  rw [awake_f (by omega)]
  by_cases h : Geo M R ∧ 0 ≤ row ∧ row < R ∧ 0 ≤ n ∧ n < M
  · rw [column_yes (by omega) h.1 h.2, refcol_yes (by omega) h.1 h.2, member_yes (by omega) h.1 h.2, refmem_yes (by omega) h.1 h.2]
    simp
  · rw [column_no (by omega) h, refcol_no (by omega) h, member_no (by omega) h, refmem_no (by omega) h]
    simp
end Go.Proofs.Ytpelcemffincoaa.BrPlaceColumns
namespace Go.Proofs.Ytpelcemffincoaa.OwnPlaceColumns
open Go.RowKit Go.Proofs.Ytpelcemffincoaa.PPlaceColumns Go.Proofs.Ytpelcemffincoaa.BrPlaceColumns
theorem walk (m r a b : Int) (w : World) (_ : (Lit.int .i64 m).wf = true) (_ : (Lit.int .i64 r).wf = true) (_ : (Lit.int .i64 a).wf = true) (_ : (Lit.int .i64 b).wf = true) :
    Calls Try.prog 3 #[.agg #[.int .i64 m, .int .i64 r], .int .i64 a, .int .i64 b] w fun e w' => e = .returned (.bool true) ∧ Below w.heap.size w w' :=
  casematelaw15_PlaceColumns.calls 1000 m r a b true w (columns_f (k := 1000) (by decide))
end Go.Proofs.Ytpelcemffincoaa.OwnPlaceColumns
namespace Go.Proofs.Ytpelcemffincoaa.placeColumns
open Go.ChangeShapes Go.WideShapes Go.ChangeAt Go.RowKit
open Go.ChangeMaps (open_string shut_string)
set_option linter.unusedVariables false
theorem own : ownKnob Try.prog.godebug = none := by kernel_rfl
theorem Try.laidOut : laidOutB Try.prog = true := by kernel_rfl
theorem cells23 : Try.prog.cellsOf 23 = 2 := by kernel_rfl
set_option maxRecDepth 100000 in
theorem lifted (os : Os) (started : os.Started) (H : Type) (enc : TypeId × Value → H) :
    ReturnsInHanded {} Try.checked os 3 .any (Rows.placeColumnsSpec.pre6 enc Try.prog Try.f3 Rows.placeColumnsRow.domain false) (Rows.placeColumnsSpec.post enc Try.prog Try.f3 false true false false) := by
  refine returnsInHanded_of_change_sized (C := Try.checked) own started (by kernel_rfl) Try.func3
    (ChangeSpec.witness6 (enc := enc) (C := Try.checked) false ⟨#[], #[.agg #[.int .i64 0, .int .i64 0], .int .i64 0, .int .i64 0], []⟩ 8 (by kernel_rfl) (by kernel_rfl) (by kernel_rfl) (by kernel_rfl)) ?_
  intro W base args ds gs before hval0 hW hcnd hsz0 _
  have hval : ∀ (j : Nat) t v, Try.f3.params[j]? = some t → args[j]? = some v → Value.okWide Try.prog W .any base t v := hval0
  have hW' := hW
  have hWlt := hW.lt
  obtain ⟨p, q, hA0, hV, rfl, hfz, hnd⟩ := hW
  have hA : DataW.TrodAll enc Try.prog W 0 (fun _ => true) true Try.f3.params.toList args.toList ds p := hA0
  rw [Try.params3] at hA hval
  obtain ⟨v0, vs0, d0, ds0, p0, q0, hargs, rfl, rfl, h0, r0⟩ := trodAll_cons hA
  obtain ⟨v1, vs1, d1, ds1, p1, q1, rfl, rfl, rfl, h1, r1⟩ := trodAll_cons r0
  obtain ⟨v2, vs2, d2, ds2, p2, q2, rfl, rfl, rfl, h2, r2⟩ := trodAll_cons r1
  obtain ⟨rfl, rfl, rfl⟩ := trodAll_nil r2
  obtain rfl : args = #[v0, v1, v2] := by cases args; simp_all
  obtain ⟨rfl, rfl⟩ := trodVars_none hV
  have k0 := h0
  have l0 : ∀ x ∈ p0, x.block < W.heap.size := fun x hx => hWlt x (by simp [hx])
  have k1 := h1
  have l1 : ∀ x ∈ p1, x.block < W.heap.size := fun x hx => hWlt x (by simp [hx])
  have k2 := h2
  have l2 : ∀ x ∈ p2, x.block < W.heap.size := fun x hx => hWlt x (by simp [hx])
  obtain ⟨c0_0, c0_1, y0_0, y0_1, m0, rfl, rfl, rfl, hy0_0, hy0_1⟩ := Joins.open_agg2 Try.underlying23 (by kernel_rfl) cells23 (hval 0 23 v0 rfl rfl) h0
  obtain ⟨a0_0, e0_0, rfl, w0_0⟩ := DataW.trod_int Try.underlying3 hy0_0
  obtain ⟨a0_1, e0_1, rfl, w0_1⟩ := DataW.trod_int Try.underlying3 hy0_1
  simp at e0_0 e0_1
  subst e0_0 e0_1
  obtain ⟨a1, rfl, rfl, rfl, w1⟩ := open_int Try.underlying3 (hval 1 3 v1 rfl rfl) h1
  obtain ⟨a2, rfl, rfl, rfl, w2⟩ := open_int Try.underlying3 (hval 2 3 v2 rfl rfl) h2
  refine (OwnPlaceColumns.walk a0_0 a0_1 a1 a2 W w0_0 w0_1 w1 w2).mono fun e W' ⟨he, bel⟩ => ?_
  subst he
  exact ⟨_, rfl, _, _, _, [], _, [], hW', trodAll_mk1 (shut_bool Try.underlying4 _), (trodAll_cons_mk (Below.trod Try.laidOut (by kernel_rfl) (of_decide_eq_true (by kernel_rfl)) k0 bel l0) (trodAll_cons_mk (Below.trod Try.laidOut (by kernel_rfl) (of_decide_eq_true (by kernel_rfl)) k1 bel l1) (trodAll_cons_mk (Below.trod Try.laidOut (by kernel_rfl) (of_decide_eq_true (by kernel_rfl)) k2 bel l2) trodAll_mk0))), rfl, bel.frame _, fun h => by cases h⟩
theorem over : Rows.placeColumnsRow.holds Try.pinned (OpenSpec.ofChange Rows.placeColumnsSpec) :=
  OpenClaim.holds_of_wide 3 Try.f3 rfl rfl rfl rfl rfl rfl rfl ⟨rfl, rfl, rfl, rfl, rfl⟩ rfl rfl rfl rfl rfl (by kernel_rfl) Try.func3 (by kernel_rfl)
    (of_decide_eq_true (by kernel_rfl)) (by unfold Func.isWrapper; first | (rw [if_pos (by decide +kernel)]; kernel_rfl) | (rw [if_neg (by decide +kernel)]; exact ⟨rfl, rfl⟩))
    (fun os started H enc _ => lifted os started H enc)
theorem proved : Rows.PlaceColumnsSaid := over
#print axioms proved
end Go.Proofs.Ytpelcemffincoaa.placeColumns
namespace Go.Proofs.Ytpelcemffincoaa
/-- The row, under a short name, for the claim. -/
theorem placeColumns_holds : Rows.PlaceColumnsSaid := placeColumns.proved
end Go.Proofs.Ytpelcemffincoaa
