/- With a row or a member more there is more of all: of any geometry, no condition. -/
import Derived.Test.YthmdpcdcbfndiaaPGeomGrowsx3
import Derived.Test.YthmdpcdcbfndiaaPg
import Derived.OpenShut
import Derived.Test.YthmdpcdcbfndiaaRows
import Derived.Test.YthmdpcdcbfndiaaOp
import Derived.WalkKit
import Derived.ProofKit
import Derived.OpenShut
import Derived.ShutString
import Derived.ChangeOld
import Derived.Below
import Derived.Carry
import Derived.SizedLaws
import Derived.Lib.SmallJoins
namespace Go.Proofs.Ythmdpcdcbfndiaa.BrGeomGrows
open Go.RowKit Go.Proofs.Ythmdpcdcbfndiaa.PGeomGrows Go.Proofs.YthmdpcdcbfndiaaW.PrintWords Go.Proofs.YthmdpcdcbfndiaaW.PrintLast Go.Proofs.YthmdpcdcbfndiaaW.PrintMore Go.Proofs.Ythmdpcdcbfndiaa.Pg

theorem check_yes {M R : Int} (g : Geo M R) : geom_Check.f M R = some 0 := by
  obtain ⟨h1, h2, h3, h4⟩ := g
  unfold geom_Check.f
  rw [if_neg (by omega), if_neg (by omega), if_neg (by omega), if_neg (by omega)]
theorem check_no {M R : Int} (g : ¬ Geo M R) : geom_Check.f M R = some 2 := by
  unfold geom_Check.f
  by_cases h1 : M < 4
  · rw [if_pos h1]
  by_cases h2 : M > 64
  · rw [if_neg h1, if_pos h2]
  by_cases h3 : R < 1
  · rw [if_neg h1, if_neg h2, if_pos h3]
  by_cases h4 : R > 64
  · rw [if_neg h1, if_neg h2, if_neg h3, if_pos h4]
  exact absurd ⟨by omega, by omega, by omega, by omega⟩ g
theorem is_yes {M R : Int} (g : Geo M R) : geom_is.f M R = some true := by
  unfold geom_is.f; rw [check_yes g]; rfl
theorem is_no {M R : Int} (g : ¬ Geo M R) : geom_is.f M R = some false := by
  unfold geom_is.f; rw [check_no g]; rfl
theorem leaves_yes {M R : Int} (g : Geo M R) : geom_Leaves.f M R = some (M * R) := by
  have b := bnd g
  unfold geom_Leaves.f
  rw [is_yes g]
  simp only [Option.bind_some, if_true]
  rw [wr (by have := b.l0; omega) (by have := b.l1; omega)]
theorem leaves_no {M R : Int} (g : ¬ Geo M R) : geom_Leaves.f M R = some 0 := by
  unfold geom_Leaves.f; rw [is_no g]; rfl
theorem shl1 (h : Nat) (hh : h ≤ 12) : shl .i64 1 (h : Int) = ((2 ^ h : Nat) : Int) := by
  unfold shl
  rw [show min (h : Int).toNat IntKind.i64.bits = h by simp [IntKind.bits]; omega, Int.one_mul]
  have h1 : 2 ^ h ≤ 2 ^ 12 := Nat.pow_le_pow_right (by decide) hh
  have h3 : ((2 : Int) ^ h) = ((2 ^ h : Nat) : Int) := by simp
  rw [h3, IntKind.wrap_i64]
  have h4 : (2 : Nat) ^ 12 = 4096 := by decide
  rw [h4] at h1
  generalize 2 ^ h = p at h1
  omega
theorem height_l0 (d : Nat) : ∀ (k : Nat) (M R L : Int) (h : Nat), geom_Leaves.f M R = some L → h + d = 12 → L ≤ 4096 → d + 1 < k → geom_Height.l0 k (h : Int) M R = some ((hs d L.toNat h : Nat) : Int) := by
  induction d with
  | zero =>
    intro k M R L h hl hd hL hk
    obtain ⟨k, rfl⟩ : ∃ m, k = m + 1 := ⟨k - 1, by omega⟩
    obtain rfl : h = 12 := by omega
    simp only [geom_Height.l0]
    rw [if_pos (by omega), hl, shl1 12 (by decide)]
    simp only [Option.bind_some]
    rw [if_neg (by simp; omega)]
    rfl
  | succ d ih =>
    intro k M R L h hl hd hL hk
    obtain ⟨k, rfl⟩ : ∃ m, k = m + 1 := ⟨k - 1, by omega⟩
    simp only [geom_Height.l0]
    rw [if_pos (by omega), hl, shl1 h (by omega)]
    simp only [Option.bind_some]
    unfold hs
    obtain ⟨p, hp⟩ : ∃ p, p = 2 ^ h := ⟨_, rfl⟩
    rw [← hp]
    by_cases c : (p : Int) < L
    · rw [if_pos c, if_pos (show p < L.toNat by omega), wr (by omega) (by omega)]
      exact ih k M R L (h + 1) hl (by omega) hL (by omega)
    · rw [if_neg c, if_neg (show ¬ p < L.toNat by omega)]
theorem height_yes {k : Nat} {M R : Int} (hk : 20 < k) (g : Geo M R) : geom_Height.f k M R = some ((Hv M R : Nat) : Int) := by
  unfold geom_Height.f
  exact height_l0 12 k M R (M * R) 0 (leaves_yes g) rfl (bnd g).l1 (by omega)
theorem height_no {k : Nat} {M R : Int} (hk : 20 < k) (g : ¬ Geo M R) : geom_Height.f k M R = some 0 := by
  unfold geom_Height.f
  exact height_l0 12 k M R 0 0 (leaves_no g) rfl (by omega) (by omega)
theorem nodes_yes {k : Nat} {M R : Int} (hk : 20 < k) (g : Geo M R) : geom_Nodes.f k M R = some (NDv M R) := by
  have b := bnd g
  unfold geom_Nodes.f NDv
  rw [height_yes hk g]
  simp only [Option.bind_some]
  have hp := b.p2
  rw [if_pos (by omega), shl1 _ b.h1]
  generalize 2 ^ Hv M R = p at hp
  rw [wr (by omega) (by omega)]
theorem nodes_no {k : Nat} {M R : Int} (hk : 20 < k) (g : ¬ Geo M R) : geom_Nodes.f k M R = some 0 := by
  unfold geom_Nodes.f
  rw [height_no hk g]
  simp only [Option.bind_some]
  rw [if_pos (by omega)]
  have := shl1 0 (by decide)
  rw [show ((0 : Nat) : Int) = 0 from rfl] at this
  rw [this, wr (by omega) (by omega)]
  rfl
theorem cap_yes {k : Nat} {M R : Int} (hk : 20 < k) (g : Geo M R) : geom_Capacity.f k M R = some (CPv M R) := by
  have b := bnd g
  have e1 : mx 6 M = MXv M := rfl
  have e2 : mn (MXv M * (Hv M R : Int)) (NDv M R) = MNv (MXv M * (Hv M R : Int)) (NDv M R) := rfl
  have hc : CPv M R = MXv M + MNv (MXv M * (Hv M R : Int)) (NDv M R) + 8 := rfl
  have := b.mh0; have := b.mh1; have := b.c0; have := b.c1; have := b.x0
  unfold geom_Capacity.f
  rw [is_yes g, height_yes hk g, nodes_yes hk g]
  simp only [Option.bind_some, if_true]
  rw [e1, wr (x := MXv M * (Hv M R : Int)) (by omega) (by omega), e2, wr (x := MXv M + MNv (MXv M * (Hv M R : Int)) (NDv M R)) (by omega) (by omega), wr (by omega) (by omega)]
  rfl
theorem cap_no {k : Nat} {M R : Int} (g : ¬ Geo M R) : geom_Capacity.f k M R = some 0 := by
  unfold geom_Capacity.f; rw [is_no g]; rfl
theorem half_yes {k : Nat} {M R : Int} (hk : 20 < k) (g : Geo M R) : geom_Half.f k M R = some (HFv M R) := by
  have b := bnd g
  have := b.c0; have := b.c1
  unfold geom_Half.f HFv
  rw [is_yes g, cap_yes hk g]
  simp only [Option.bind_some, if_true]
  rw [wr (x := 69 * CPv M R) (by omega) (by omega), wr (x := 69 * CPv M R + 64) (by omega) (by omega), wr (x := 69 * CPv M R + 64 - 1) (by omega) (by omega), Int.tdiv_eq_ediv_of_nonneg (by omega), wr (x := (69 * CPv M R + 64 - 1) / 64) (by omega) (by omega), wr (by omega) (by omega)]
  rw [show 69 * CPv M R + 64 - 1 = 69 * CPv M R + 63 by omega]
theorem half_no {k : Nat} {M R : Int} (g : ¬ Geo M R) : geom_Half.f k M R = some 0 := by
  unfold geom_Half.f; rw [is_no g]; rfl
theorem f3_w {M R : Int} (g : Geo M R) : wrap64 (8 + wrap64 (2 * HFv M R)) = F3 M R := by
  have b := bnd g
  have := b.f0; have := b.f1
  rw [wr (x := 2 * HFv M R) (by omega) (by omega), wr (by omega) (by omega)]; rfl
theorem f4_w {M R : Int} (g : Geo M R) : wrap64 (F3 M R + NDv M R) = F4 M R := by
  have b := bnd g
  have := b.f0; have := b.f1; have := b.n0; have := b.n1
  have e : F3 M R = 8 + 2 * HFv M R := rfl
  rw [wr (by omega) (by omega)]; rfl
theorem f5_w {M R : Int} (g : Geo M R) : wrap64 (F4 M R + R) = F5 M R := by
  have b := bnd g
  have := b.f0; have := b.f1; have := b.n0; have := b.n1; have := g.r0; have := g.r1
  have e : F4 M R = 8 + 2 * HFv M R + NDv M R := rfl
  rw [wr (by omega) (by omega)]; rfl
theorem sectors_yes {k : Nat} {M R : Int} (hk : 20 < k) (g : Geo M R) : geom_Sectors.f k M R = some (F5 M R) := by
  unfold geom_Sectors.f
  rw [is_yes g, half_yes hk g, nodes_yes hk g]
  simp only [Option.bind_some, if_true]
  rw [f3_w g, f4_w g, f5_w g]
theorem sectors_no {k : Nat} {M R : Int} (g : ¬ Geo M R) : geom_Sectors.f k M R = some 0 := by
  unfold geom_Sectors.f; rw [is_no g]; rfl
theorem least_1 : geom_least.f 1 = some 0 := rfl
theorem least_2 : geom_least.f 2 = some 0 := rfl
theorem least_3 : geom_least.f 3 = some 1 := rfl
theorem least_4 : geom_least.f 4 = some 0 := rfl
structure FB (f3 f4 f5 : Int) : Prop where
  a : 8 ≤ f3
  b : f3 ≤ f4
  c : f4 ≤ f5
  d : f5 ≤ 10000
theorem fb {M R : Int} (g : Geo M R) : FB (F3 M R) (F4 M R) (F5 M R) := by
  have b := bnd g
  have := b.f0; have := b.f1; have := b.n0; have := b.n1; have := g.r0; have := g.r1
  have e3 : F3 M R = 8 + 2 * HFv M R := rfl
  have e4 : F4 M R = F3 M R + NDv M R := rfl
  have e5 : F5 M R = F4 M R + R := rfl
  exact ⟨by omega, by omega, by omega, by omega⟩
theorem place_yes {k : Nat} {M R rg ix : Int} (hk : 20 < k) (g : Geo M R) (hix : ix < 9223372036854775808) : geom_Place.f k M R rg ix = some (placeV (F3 M R) (F4 M R) (F5 M R) rg ix) := by
  obtain ⟨q1, q2, q3, q4⟩ := fb g
  unfold geom_Place.f
  rw [is_yes g, half_yes hk g, nodes_yes hk g]
  simp only [Option.bind_some, if_true]
  rw [f3_w g, f4_w g, f5_w g]
  generalize F3 M R = f3 at *
  generalize F4 M R = f4 at *
  generalize F5 M R = f5 at *
  unfold placeV
  by_cases c1 : rg < 1
  · rw [if_pos c1, if_neg (by omega), if_neg (by omega), if_neg (by omega), if_neg (by omega)]
  by_cases c2 : rg > 4
  · rw [if_neg c1, if_pos c2, if_neg (by omega), if_neg (by omega), if_neg (by omega), if_neg (by omega)]
  rw [if_neg c1, if_neg c2]
  have hrg : rg = 1 ∨ rg = 2 ∨ rg = 3 ∨ rg = 4 := by omega
  rcases hrg with rfl | rfl | rfl | rfl
  · rw [least_1, show wrap64 (1 + 1) = 2 from wr (by omega) (by omega), show rd [0, 0, 8, f3, f4, f5] 2 = 8 from rfl, show rd [0, 0, 8, f3, f4, f5] 1 = 0 from rfl]
    simp only [Option.bind_some]
    by_cases c3 : ix < 0
    · rw [if_pos c3, if_neg (by omega), if_neg (by omega), if_neg (by omega), if_neg (by omega)]
    rw [if_neg c3, wr (x := ix - 0) (by omega) (by omega), wr (x := 8 - 0) (by omega) (by omega)]
    by_cases c4 : ix - 0 ≥ 8 - 0
    · rw [if_pos c4, if_neg (by omega), if_neg (by omega), if_neg (by omega), if_neg (by omega)]
    · rw [if_neg c4, if_pos (c := True ∧ 0 ≤ ix ∧ ix < 8) ⟨trivial, by omega, by omega⟩, wr (x := 0 + ix) (by omega) (by omega), wr (by omega) (by omega), show 0 + ix - 0 = ix by omega]
  · rw [least_2, show wrap64 (2 + 1) = 3 from wr (by omega) (by omega), show rd [0, 0, 8, f3, f4, f5] 3 = f3 from rfl, show rd [0, 0, 8, f3, f4, f5] 2 = 8 from rfl]
    simp only [Option.bind_some]
    by_cases c3 : ix < 0
    · rw [if_pos c3, if_neg (by omega), if_neg (by omega), if_neg (by omega), if_neg (by omega)]
    rw [if_neg c3, wr (x := ix - 0) (by omega) (by omega), wr (x := f3 - 8) (by omega) (by omega)]
    by_cases c4 : ix - 0 ≥ f3 - 8
    · rw [if_pos c4, if_neg (by omega), if_neg (by omega), if_neg (by omega), if_neg (by omega)]
    · rw [if_neg c4, if_neg (c := (2 : Int) = 1 ∧ _) (by omega), if_pos (c := True ∧ 0 ≤ ix ∧ ix < f3 - 8) ⟨trivial, by omega, by omega⟩, wr (x := 8 + ix) (by omega) (by omega), wr (by omega) (by omega), show 8 + ix - 0 = 8 + ix by omega]
  · rw [least_3, show wrap64 (3 + 1) = 4 from wr (by omega) (by omega), show rd [0, 0, 8, f3, f4, f5] 4 = f4 from rfl, show rd [0, 0, 8, f3, f4, f5] 3 = f3 from rfl]
    simp only [Option.bind_some]
    by_cases c3 : ix < 1
    · rw [if_pos c3, if_neg (by omega), if_neg (by omega), if_neg (by omega), if_neg (by omega)]
    rw [if_neg c3, wr (x := ix - 1) (by omega) (by omega), wr (x := f4 - f3) (by omega) (by omega)]
    by_cases c4 : ix - 1 ≥ f4 - f3
    · rw [if_pos c4, if_neg (by omega), if_neg (by omega), if_neg (by omega), if_neg (by omega)]
    · rw [if_neg c4, if_neg (c := (3 : Int) = 1 ∧ _) (by omega), if_neg (c := (3 : Int) = 2 ∧ _) (by omega), if_pos (c := True ∧ 1 ≤ ix ∧ ix ≤ f4 - f3) ⟨trivial, by omega, by omega⟩, wr (x := f3 + ix) (by omega) (by omega), wr (by omega) (by omega)]
  · rw [least_4, show wrap64 (4 + 1) = 5 from wr (by omega) (by omega), show rd [0, 0, 8, f3, f4, f5] 5 = f5 from rfl, show rd [0, 0, 8, f3, f4, f5] 4 = f4 from rfl]
    simp only [Option.bind_some]
    by_cases c3 : ix < 0
    · rw [if_pos c3, if_neg (by omega), if_neg (by omega), if_neg (by omega), if_neg (by omega)]
    rw [if_neg c3, wr (x := ix - 0) (by omega) (by omega), wr (x := f5 - f4) (by omega) (by omega)]
    by_cases c4 : ix - 0 ≥ f5 - f4
    · rw [if_pos c4, if_neg (by omega), if_neg (by omega), if_neg (by omega), if_neg (by omega)]
    · rw [if_neg c4, if_neg (c := (4 : Int) = 1 ∧ _) (by omega), if_neg (c := (4 : Int) = 2 ∧ _) (by omega), if_neg (c := (4 : Int) = 3 ∧ _) (by omega), if_pos (c := True ∧ 0 ≤ ix ∧ ix < f5 - f4) ⟨trivial, by omega, by omega⟩, wr (x := f4 + ix) (by omega) (by omega), wr (by omega) (by omega), show f4 + ix - 0 = f4 + ix by omega]
theorem place_no {k : Nat} {M R rg ix : Int} (g : ¬ Geo M R) : geom_Place.f k M R rg ix = some (0, 2) := by
  unfold geom_Place.f; rw [is_no g]; rfl
theorem works_f {k : Nat} (hk : 20 < k) : casematelaw14_works.f k = some true := by
  have g : Geo 4 1 := ⟨by omega, by omega, by omega, by omega⟩
  have e1 : placeV (F3 4 1) (F4 4 1) (F5 4 1) 3 1 = (50, 0) := by decide +kernel
  have e2 : ((Hv 4 1 : Nat) : Int) = 2 := by decide +kernel
  have e3 : HFv 4 1 = 21 := by decide +kernel
  have e4 : F5 4 1 = 54 := by decide +kernel
  have p1 := place_yes (k := k) (rg := 3) (ix := 1) hk g (by omega)
  have p2 := height_yes (k := k) hk g
  have p3 := half_yes (k := k) hk g
  have p4 := sectors_yes (k := k) hk g
  have p5 := leaves_yes g
  rw [e1] at p1; rw [e2] at p2; rw [e3] at p3; rw [e4] at p4
  unfold casematelaw14_works.f
  rw [p1, p2, p3, p4, p5]
  rfl
theorem logical_yes {M R : Int} (g : Geo M R) : geom_Logical.f M R = some (R * (M - 2)) := by
  have h1 := g.m0; have h2 := g.m1; have h3 := g.r0; have h4 := g.r1
  have hm := mul_rng (a := R) (b := M - 2) (A := 64) (B := 64) (by omega) h4 (by omega) (by omega)
  unfold geom_Logical.f
  rw [is_yes g]
  simp only [Option.bind_some, if_true]
  rw [wr (x := M - 2) (by omega) (by omega), wr (by omega) (by omega)]
theorem logical_no {M R : Int} (g : ¬ Geo M R) : geom_Logical.f M R = some 0 := by
  unfold geom_Logical.f; rw [is_no g]; rfl
theorem mul_succ_r (M R : Int) : M * (R + 1) = M * R + M := by rw [Int.mul_add, Int.mul_one]
theorem mul_succ_l (M R : Int) : (M + 1) * R = M * R + R := by rw [Int.add_mul, Int.one_mul]
/-- With more leaves there is no less of anything. -/
structure Le (M R M' R' : Int) : Prop where
  l : M * R < M' * R'
  n : NDv M R ≤ NDv M' R'
  h : Hv M R ≤ Hv M' R'
  c : CPv M R ≤ CPv M' R'
  f : HFv M R ≤ HFv M' R'
  s : F5 M R ≤ F5 M' R'
theorem grows {M R M' R' : Int} (g : Geo M R) (g' : Geo M' R') (hm : M ≤ M') (hr : R ≤ R') (hl : M * R < M' * R') : Le M R M' R' := by
  have b := bnd g
  have b' := bnd g'
  have h1 : Hv M R ≤ Hv M' R' := hgt_mono (by omega) (by have := b'.l1; omega)
  have h2 : 2 ^ Hv M R ≤ 2 ^ Hv M' R' := Nat.pow_le_pow_right (by decide) h1
  have n1 : NDv M R = ((2 ^ Hv M R : Nat) : Int) - 1 := rfl
  have n2 : NDv M' R' = ((2 ^ Hv M' R' : Nat) : Int) - 1 := rfl
  have x1 : MXv M ≤ MXv M' := by unfold MXv; split <;> split <;> omega
  have m1 : MXv M * (Hv M R : Int) ≤ MXv M' * (Hv M' R' : Int) := Int.mul_le_mul x1 (by omega) (by omega) (by have := b'.x0; omega)
  have hn : NDv M R ≤ NDv M' R' := by
    generalize 2 ^ Hv M R = p at *
    generalize 2 ^ Hv M' R' = q at *
    omega
  have c1 : MNv (MXv M * (Hv M R : Int)) (NDv M R) ≤ MNv (MXv M' * (Hv M' R' : Int)) (NDv M' R') := by unfold MNv; split <;> split <;> omega
  have e1 : CPv M R = MXv M + MNv (MXv M * (Hv M R : Int)) (NDv M R) + 8 := rfl
  have e2 : CPv M' R' = MXv M' + MNv (MXv M' * (Hv M' R' : Int)) (NDv M' R') + 8 := rfl
  have hc : CPv M R ≤ CPv M' R' := by omega
  have f1 : HFv M R = 2 + (69 * CPv M R + 63) / 64 := rfl
  have f2 : HFv M' R' = 2 + (69 * CPv M' R' + 63) / 64 := rfl
  have hf : HFv M R ≤ HFv M' R' := by omega
  have s1 : F5 M R = 8 + 2 * HFv M R + NDv M R + R := rfl
  have s2 : F5 M' R' = 8 + 2 * HFv M' R' + NDv M' R' + R' := rfl
  exact ⟨hl, hn, h1, hc, hf, by omega⟩
theorem grows_l0_2 {k : Nat} {M R : Int} (hk : 30 < k) : casematelaw14_GeomGrows.l0 k 2 M R = some true := by
  obtain ⟨k, rfl⟩ : ∃ m, k = m + 1 := ⟨k - 1, by omega⟩
  simp only [casematelaw14_GeomGrows.l0]
  rw [if_neg (by omega), works_f (by omega)]
  rfl
theorem grows_l0_1 {k : Nat} {M R : Int} (hk : 60 < k) (g : Geo M R) : casematelaw14_GeomGrows.l0 k 1 M R = some true := by
  obtain ⟨k, rfl⟩ : ∃ m, k = m + 3 := ⟨k - 3, by omega⟩
  have h1 := g.m0; have h2 := g.m1; have h3 := g.r0; have h4 := g.r1
  have e2 : wrap64 (1 + 1) = 2 := wr (by omega) (by omega)
  simp only [casematelaw14_GeomGrows.l0]
  rw [if_pos (by omega), if_neg (by omega), wr (x := M + 1) (by omega) (by omega)]
  simp only [casematelaw14_GeomGrows.j1]
  by_cases g' : Geo (M + 1) R
  · have le := grows g g' (by omega) (by omega) (by rw [mul_succ_l]; omega)
    have hm := mul_rng (a := R) (b := M - 2) (A := 64) (B := 64) (by omega) h4 (by omega) (by omega)
    have := le.h
    rw [check_yes g', leaves_yes g', leaves_yes g, nodes_yes (by omega) g', nodes_yes (by omega) g, height_yes (by omega) g', height_yes (by omega) g, cap_yes (by omega) g', cap_yes (by omega) g, half_yes (by omega) g', half_yes (by omega) g, sectors_yes (by omega) g', sectors_yes (by omega) g]
    simp only [Option.bind_some, if_true]
    rw [if_neg (by have := le.l; omega), if_neg (by have := le.n; omega), if_neg (by omega), if_neg (by have := le.c; omega), if_neg (by have := le.f; omega), decide_eq_false (by have := le.s; omega)]
    simp only [casematelaw14_GeomGrows.j2]
    rw [if_neg (by decide), if_neg (by omega), if_pos (by first | omega | trivial), logical_yes g', logical_yes g]
    simp only [Option.bind_some]
    have e : R * (M + 1 - 2) = R * (M - 2) + R := by rw [show M + 1 - 2 = (M - 2) + 1 by omega, Int.mul_add, Int.mul_one]
    rw [wr (x := R * (M - 2) + R) (by omega) (by omega), if_pos e, e2]
    exact grows_l0_2 (by omega)
  · rw [check_no g']
    simp only [Option.bind_some]
    rw [if_neg (by omega), e2]
    exact grows_l0_2 (by omega)
theorem grows_l0_0 {k : Nat} {M R : Int} (hk : 90 < k) (g : Geo M R) : casematelaw14_GeomGrows.l0 k 0 M R = some true := by
  obtain ⟨k, rfl⟩ : ∃ m, k = m + 3 := ⟨k - 3, by omega⟩
  have h1 := g.m0; have h2 := g.m1; have h3 := g.r0; have h4 := g.r1
  have e1 : wrap64 (0 + 1) = 1 := wr (by omega) (by omega)
  simp only [casematelaw14_GeomGrows.l0]
  rw [if_pos (by omega), if_pos (by first | omega | trivial), wr (x := R + 1) (by omega) (by omega)]
  simp only [casematelaw14_GeomGrows.j1]
  by_cases g' : Geo M (R + 1)
  · have le := grows g g' (by omega) (by omega) (by rw [mul_succ_r]; omega)
    have hm := mul_rng (a := R) (b := M - 2) (A := 64) (B := 64) (by omega) h4 (by omega) (by omega)
    have hs1 : F5 M R = 8 + 2 * HFv M R + NDv M R + R := rfl
    have hs2 : F5 M (R + 1) = 8 + 2 * HFv M (R + 1) + NDv M (R + 1) + (R + 1) := rfl
    have := le.h; have := le.n; have := le.f
    rw [check_yes g', leaves_yes g', leaves_yes g, nodes_yes (by omega) g', nodes_yes (by omega) g, height_yes (by omega) g', height_yes (by omega) g, cap_yes (by omega) g', cap_yes (by omega) g, half_yes (by omega) g', half_yes (by omega) g, sectors_yes (by omega) g', sectors_yes (by omega) g]
    simp only [Option.bind_some, if_true]
    rw [if_neg (by have := le.l; omega), if_neg (by omega), if_neg (by omega), if_neg (by have := le.c; omega), if_neg (by omega), decide_eq_false (by omega)]
    simp only [casematelaw14_GeomGrows.j2]
    rw [if_neg (by decide), if_pos (by first | omega | trivial), logical_yes g', logical_yes g, sectors_yes (by omega) g', sectors_yes (by omega) g]
    simp only [Option.bind_some]
    have e : (R + 1) * (M - 2) = R * (M - 2) + M - 2 := by rw [Int.add_mul, Int.one_mul]; omega
    rw [wr (x := R * (M - 2) + M) (by omega) (by omega), wr (x := R * (M - 2) + M - 2) (by omega) (by omega), if_pos e, if_neg (by omega), if_neg (by omega), e1]
    exact grows_l0_1 (by omega) g
  · rw [check_no g']
    simp only [Option.bind_some]
    rw [if_neg (by omega), e1]
    exact grows_l0_1 (by omega) g
theorem grows_f {k : Nat} {M R : Int} (hk : 100 < k) : casematelaw14_GeomGrows.f k M R = some true := by
  unfold casematelaw14_GeomGrows.f
  by_cases g : Geo M R
  · rw [check_yes g]
    simp only [Option.bind_some, if_true]
    exact grows_l0_0 (by omega) g
  · rw [check_no g]
    simp only [Option.bind_some]
    rw [if_neg (by omega), works_f (by omega)]
    rfl
end Go.Proofs.Ythmdpcdcbfndiaa.BrGeomGrows
namespace Go.Proofs.Ythmdpcdcbfndiaa.OwnGeomGrows
open Go.RowKit Go.Proofs.Ythmdpcdcbfndiaa.PGeomGrows Go.Proofs.Ythmdpcdcbfndiaa.BrGeomGrows
theorem walk (m r : Int) (w : World) (_ : (Lit.int .i64 m).wf = true) (_ : (Lit.int .i64 r).wf = true) :
    Calls Try.prog 5 #[.agg #[.int .i64 m, .int .i64 r]] w fun e w' => e = .returned (.bool true) ∧ Below w.heap.size w w' :=
  casematelaw14_GeomGrows.calls 200 m r w (grows_f (by decide))
end Go.Proofs.Ythmdpcdcbfndiaa.OwnGeomGrows
namespace Go.Proofs.Ythmdpcdcbfndiaa.geomGrows
open Go.ChangeShapes Go.WideShapes Go.ChangeAt Go.RowKit
open Go.ChangeMaps (open_string shut_string)
set_option linter.unusedVariables false
theorem own : ownKnob Try.prog.godebug = none := by kernel_rfl
theorem Try.laidOut : laidOutB Try.prog = true := by kernel_rfl
theorem cells23 : Try.prog.cellsOf 23 = 2 := by kernel_rfl
set_option maxRecDepth 100000 in
theorem lifted (os : Os) (started : os.Started) (H : Type) (enc : TypeId × Value → H) :
    ReturnsInHanded {} Try.checked os 5 .any (Rows.geomGrowsSpec.pre6 enc Try.prog Try.f5 Rows.geomGrowsRow.domain false) (Rows.geomGrowsSpec.post enc Try.prog Try.f5 false true false false) := by
  refine returnsInHanded_of_change_sized (C := Try.checked) own started (by kernel_rfl) Try.func5
    (ChangeSpec.witness6 (enc := enc) (C := Try.checked) false ⟨#[], #[.agg #[.int .i64 0, .int .i64 0]], []⟩ 8 (by kernel_rfl) (by kernel_rfl) (by kernel_rfl) (by kernel_rfl)) ?_
  intro W base args ds gs before hval0 hW hcnd hsz0 _
  have hval : ∀ (j : Nat) t v, Try.f5.params[j]? = some t → args[j]? = some v → Value.okWide Try.prog W .any base t v := hval0
  have hW' := hW
  have hWlt := hW.lt
  obtain ⟨p, q, hA0, hV, rfl, hfz, hnd⟩ := hW
  have hA : DataW.TrodAll enc Try.prog W 0 (fun _ => true) true Try.f5.params.toList args.toList ds p := hA0
  rw [Try.params5] at hA hval
  obtain ⟨v0, vs0, d0, ds0, p0, q0, hargs, rfl, rfl, h0, r0⟩ := trodAll_cons hA
  obtain ⟨rfl, rfl, rfl⟩ := trodAll_nil r0
  obtain rfl : args = #[v0] := by cases args; simp_all
  obtain ⟨rfl, rfl⟩ := trodVars_none hV
  have k0 := h0
  have l0 : ∀ x ∈ p0, x.block < W.heap.size := fun x hx => hWlt x (by simp [hx])
  obtain ⟨c0_0, c0_1, y0_0, y0_1, m0, rfl, rfl, rfl, hy0_0, hy0_1⟩ := Joins.open_agg2 Try.underlying23 (by kernel_rfl) cells23 (hval 0 23 v0 rfl rfl) h0
  obtain ⟨a0_0, e0_0, rfl, w0_0⟩ := DataW.trod_int Try.underlying3 hy0_0
  obtain ⟨a0_1, e0_1, rfl, w0_1⟩ := DataW.trod_int Try.underlying3 hy0_1
  simp at e0_0 e0_1
  subst e0_0 e0_1
  refine (OwnGeomGrows.walk a0_0 a0_1 W w0_0 w0_1).mono fun e W' ⟨he, bel⟩ => ?_
  subst he
  exact ⟨_, rfl, _, _, _, [], _, [], hW', trodAll_mk1 (shut_bool Try.underlying4 _), (trodAll_cons_mk (Below.trod Try.laidOut (by kernel_rfl) (of_decide_eq_true (by kernel_rfl)) k0 bel l0) trodAll_mk0), rfl, bel.frame _, fun h => by cases h⟩
theorem over : Rows.geomGrowsRow.holds Try.pinned (OpenSpec.ofChange Rows.geomGrowsSpec) :=
  OpenClaim.holds_of_wide 5 Try.f5 rfl rfl rfl rfl rfl rfl rfl ⟨rfl, rfl, rfl, rfl, rfl⟩ rfl rfl rfl rfl rfl (by kernel_rfl) Try.func5 (by kernel_rfl)
    (of_decide_eq_true (by kernel_rfl)) (by unfold Func.isWrapper; first | (rw [if_pos (by decide +kernel)]; kernel_rfl) | (rw [if_neg (by decide +kernel)]; exact ⟨rfl, rfl⟩))
    (fun os started H enc _ => lifted os started H enc)
theorem proved : Rows.GeomGrowsSaid := over
#print axioms proved
end Go.Proofs.Ythmdpcdcbfndiaa.geomGrows
namespace Go.Proofs.Ythmdpcdcbfndiaa
/-- The row, under a short name, for the claim. -/
theorem geomGrows_holds : Rows.GeomGrowsSaid := geomGrows.proved
end Go.Proofs.Ythmdpcdcbfndiaa
