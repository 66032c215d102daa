/- Each sector's place, and which sector is at each place, is as the document says: of any geometry, region, index and place, no condition. -/
import Derived.Test.YthmdpcdcbfndiaaPGeomPlacesx3
import Derived.Test.YthmdpcdcbfndiaaPg
import Derived.OpenShut
import Derived.Test.YthmdpcdcbfndiaaRows
import Derived.Test.YthmdpcdcbfndiaaOp
import Derived.WalkKit
import Derived.ProofKit
import Derived.OpenShut
import Derived.ShutString
import Derived.ChangeOld
import Derived.Below
import Derived.Carry
import Derived.SizedLaws
import Derived.Lib.SmallJoins
namespace Go.Proofs.Ythmdpcdcbfndiaa.BrGeomPlaces
open Go.RowKit Go.Proofs.Ythmdpcdcbfndiaa.PGeomPlaces Go.Proofs.YthmdpcdcbfndiaaW.PrintWords Go.Proofs.YthmdpcdcbfndiaaW.PrintLast Go.Proofs.YthmdpcdcbfndiaaW.PrintMore Go.Proofs.Ythmdpcdcbfndiaa.Pg

theorem check_yes {M R : Int} (g : Geo M R) : geom_Check.f M R = some 0 := by
  obtain ⟨h1, h2, h3, h4⟩ := g
  unfold geom_Check.f
  rw [if_neg (by omega), if_neg (by omega), if_neg (by omega), if_neg (by omega)]
theorem check_no {M R : Int} (g : ¬ Geo M R) : geom_Check.f M R = some 2 := by
  unfold geom_Check.f
  by_cases h1 : M < 4
  · rw [if_pos h1]
  by_cases h2 : M > 64
  · rw [if_neg h1, if_pos h2]
  by_cases h3 : R < 1
  · rw [if_neg h1, if_neg h2, if_pos h3]
  by_cases h4 : R > 64
  · rw [if_neg h1, if_neg h2, if_neg h3, if_pos h4]
  exact absurd ⟨by omega, by omega, by omega, by omega⟩ g
theorem is_yes {M R : Int} (g : Geo M R) : geom_is.f M R = some true := by
  unfold geom_is.f; rw [check_yes g]; rfl
theorem is_no {M R : Int} (g : ¬ Geo M R) : geom_is.f M R = some false := by
  unfold geom_is.f; rw [check_no g]; rfl
theorem leaves_yes {M R : Int} (g : Geo M R) : geom_Leaves.f M R = some (M * R) := by
  have b := bnd g
  unfold geom_Leaves.f
  rw [is_yes g]
  simp only [Option.bind_some, if_true]
  rw [wr (by have := b.l0; omega) (by have := b.l1; omega)]
theorem leaves_no {M R : Int} (g : ¬ Geo M R) : geom_Leaves.f M R = some 0 := by
  unfold geom_Leaves.f; rw [is_no g]; rfl
theorem shl1 (h : Nat) (hh : h ≤ 12) : shl .i64 1 (h : Int) = ((2 ^ h : Nat) : Int) := by
  unfold shl
  rw [show min (h : Int).toNat IntKind.i64.bits = h by simp [IntKind.bits]; omega, Int.one_mul]
  have h1 : 2 ^ h ≤ 2 ^ 12 := Nat.pow_le_pow_right (by decide) hh
  have h3 : ((2 : Int) ^ h) = ((2 ^ h : Nat) : Int) := by simp
  rw [h3, IntKind.wrap_i64]
  have h4 : (2 : Nat) ^ 12 = 4096 := by decide
  rw [h4] at h1
  generalize 2 ^ h = p at h1
  omega
theorem height_l0 (d : Nat) : ∀ (k : Nat) (M R L : Int) (h : Nat), geom_Leaves.f M R = some L → h + d = 12 → L ≤ 4096 → d + 1 < k → geom_Height.l0 k (h : Int) M R = some ((hs d L.toNat h : Nat) : Int) := by
  induction d with
  | zero =>
    intro k M R L h hl hd hL hk
    obtain ⟨k, rfl⟩ : ∃ m, k = m + 1 := ⟨k - 1, by omega⟩
    obtain rfl : h = 12 := by omega
    simp only [geom_Height.l0]
    rw [if_pos (by omega), hl, shl1 12 (by decide)]
    simp only [Option.bind_some]
    rw [if_neg (by simp; omega)]
    rfl
  | succ d ih =>
    intro k M R L h hl hd hL hk
    obtain ⟨k, rfl⟩ : ∃ m, k = m + 1 := ⟨k - 1, by omega⟩
    simp only [geom_Height.l0]
    rw [if_pos (by omega), hl, shl1 h (by omega)]
    simp only [Option.bind_some]
    unfold hs
    obtain ⟨p, hp⟩ : ∃ p, p = 2 ^ h := ⟨_, rfl⟩
    rw [← hp]
    by_cases c : (p : Int) < L
    · rw [if_pos c, if_pos (show p < L.toNat by omega), wr (by omega) (by omega)]
      exact ih k M R L (h + 1) hl (by omega) hL (by omega)
    · rw [if_neg c, if_neg (show ¬ p < L.toNat by omega)]
theorem height_yes {k : Nat} {M R : Int} (hk : 20 < k) (g : Geo M R) : geom_Height.f k M R = some ((Hv M R : Nat) : Int) := by
  unfold geom_Height.f
  exact height_l0 12 k M R (M * R) 0 (leaves_yes g) rfl (bnd g).l1 (by omega)
theorem height_no {k : Nat} {M R : Int} (hk : 20 < k) (g : ¬ Geo M R) : geom_Height.f k M R = some 0 := by
  unfold geom_Height.f
  exact height_l0 12 k M R 0 0 (leaves_no g) rfl (by omega) (by omega)
theorem nodes_yes {k : Nat} {M R : Int} (hk : 20 < k) (g : Geo M R) : geom_Nodes.f k M R = some (NDv M R) := by
  have b := bnd g
  unfold geom_Nodes.f NDv
  rw [height_yes hk g]
  simp only [Option.bind_some]
  have hp := b.p2
  rw [if_pos (by omega), shl1 _ b.h1]
  generalize 2 ^ Hv M R = p at hp
  rw [wr (by omega) (by omega)]
theorem nodes_no {k : Nat} {M R : Int} (hk : 20 < k) (g : ¬ Geo M R) : geom_Nodes.f k M R = some 0 := by
  unfold geom_Nodes.f
  rw [height_no hk g]
  simp only [Option.bind_some]
  rw [if_pos (by omega)]
  have := shl1 0 (by decide)
  rw [show ((0 : Nat) : Int) = 0 from rfl] at this
  rw [this, wr (by omega) (by omega)]
  rfl
theorem cap_yes {k : Nat} {M R : Int} (hk : 20 < k) (g : Geo M R) : geom_Capacity.f k M R = some (CPv M R) := by
  have b := bnd g
  have e1 : mx 6 M = MXv M := rfl
  have e2 : mn (MXv M * (Hv M R : Int)) (NDv M R) = MNv (MXv M * (Hv M R : Int)) (NDv M R) := rfl
  have hc : CPv M R = MXv M + MNv (MXv M * (Hv M R : Int)) (NDv M R) + 8 := rfl
  have := b.mh0; have := b.mh1; have := b.c0; have := b.c1; have := b.x0
  unfold geom_Capacity.f
  rw [is_yes g, height_yes hk g, nodes_yes hk g]
  simp only [Option.bind_some, if_true]
  rw [e1, wr (x := MXv M * (Hv M R : Int)) (by omega) (by omega), e2, wr (x := MXv M + MNv (MXv M * (Hv M R : Int)) (NDv M R)) (by omega) (by omega), wr (by omega) (by omega)]
  rfl
theorem cap_no {k : Nat} {M R : Int} (g : ¬ Geo M R) : geom_Capacity.f k M R = some 0 := by
  unfold geom_Capacity.f; rw [is_no g]; rfl
theorem half_yes {k : Nat} {M R : Int} (hk : 20 < k) (g : Geo M R) : geom_Half.f k M R = some (HFv M R) := by
  have b := bnd g
  have := b.c0; have := b.c1
  unfold geom_Half.f HFv
  rw [is_yes g, cap_yes hk g]
  simp only [Option.bind_some, if_true]
  rw [wr (x := 69 * CPv M R) (by omega) (by omega), wr (x := 69 * CPv M R + 64) (by omega) (by omega), wr (x := 69 * CPv M R + 64 - 1) (by omega) (by omega), Int.tdiv_eq_ediv_of_nonneg (by omega), wr (x := (69 * CPv M R + 64 - 1) / 64) (by omega) (by omega), wr (by omega) (by omega)]
  rw [show 69 * CPv M R + 64 - 1 = 69 * CPv M R + 63 by omega]
theorem half_no {k : Nat} {M R : Int} (g : ¬ Geo M R) : geom_Half.f k M R = some 0 := by
  unfold geom_Half.f; rw [is_no g]; rfl
theorem f3_w {M R : Int} (g : Geo M R) : wrap64 (8 + wrap64 (2 * HFv M R)) = F3 M R := by
  have b := bnd g
  have := b.f0; have := b.f1
  rw [wr (x := 2 * HFv M R) (by omega) (by omega), wr (by omega) (by omega)]; rfl
theorem f4_w {M R : Int} (g : Geo M R) : wrap64 (F3 M R + NDv M R) = F4 M R := by
  have b := bnd g
  have := b.f0; have := b.f1; have := b.n0; have := b.n1
  have e : F3 M R = 8 + 2 * HFv M R := rfl
  rw [wr (by omega) (by omega)]; rfl
theorem f5_w {M R : Int} (g : Geo M R) : wrap64 (F4 M R + R) = F5 M R := by
  have b := bnd g
  have := b.f0; have := b.f1; have := b.n0; have := b.n1; have := g.r0; have := g.r1
  have e : F4 M R = 8 + 2 * HFv M R + NDv M R := rfl
  rw [wr (by omega) (by omega)]; rfl
theorem sectors_yes {k : Nat} {M R : Int} (hk : 20 < k) (g : Geo M R) : geom_Sectors.f k M R = some (F5 M R) := by
  unfold geom_Sectors.f
  rw [is_yes g, half_yes hk g, nodes_yes hk g]
  simp only [Option.bind_some, if_true]
  rw [f3_w g, f4_w g, f5_w g]
theorem sectors_no {k : Nat} {M R : Int} (g : ¬ Geo M R) : geom_Sectors.f k M R = some 0 := by
  unfold geom_Sectors.f; rw [is_no g]; rfl
theorem least_1 : geom_least.f 1 = some 0 := rfl
theorem least_2 : geom_least.f 2 = some 0 := rfl
theorem least_3 : geom_least.f 3 = some 1 := rfl
theorem least_4 : geom_least.f 4 = some 0 := rfl
structure FB (f3 f4 f5 : Int) : Prop where
  a : 8 ≤ f3
  b : f3 ≤ f4
  c : f4 ≤ f5
  d : f5 ≤ 10000
theorem fb {M R : Int} (g : Geo M R) : FB (F3 M R) (F4 M R) (F5 M R) := by
  have b := bnd g
  have := b.f0; have := b.f1; have := b.n0; have := b.n1; have := g.r0; have := g.r1
  have e3 : F3 M R = 8 + 2 * HFv M R := rfl
  have e4 : F4 M R = F3 M R + NDv M R := rfl
  have e5 : F5 M R = F4 M R + R := rfl
  exact ⟨by omega, by omega, by omega, by omega⟩
theorem place_yes {k : Nat} {M R rg ix : Int} (hk : 20 < k) (g : Geo M R) (hix : ix < 9223372036854775808) : geom_Place.f k M R rg ix = some (placeV (F3 M R) (F4 M R) (F5 M R) rg ix) := by
  obtain ⟨q1, q2, q3, q4⟩ := fb g
  unfold geom_Place.f
  rw [is_yes g, half_yes hk g, nodes_yes hk g]
  simp only [Option.bind_some, if_true]
  rw [f3_w g, f4_w g, f5_w g]
  generalize F3 M R = f3 at *
  generalize F4 M R = f4 at *
  generalize F5 M R = f5 at *
  unfold placeV
  by_cases c1 : rg < 1
  · rw [if_pos c1, if_neg (by omega), if_neg (by omega), if_neg (by omega), if_neg (by omega)]
  by_cases c2 : rg > 4
  · rw [if_neg c1, if_pos c2, if_neg (by omega), if_neg (by omega), if_neg (by omega), if_neg (by omega)]
  rw [if_neg c1, if_neg c2]
  have hrg : rg = 1 ∨ rg = 2 ∨ rg = 3 ∨ rg = 4 := by omega
  rcases hrg with rfl | rfl | rfl | rfl
  · rw [least_1, show wrap64 (1 + 1) = 2 from wr (by omega) (by omega), show rd [0, 0, 8, f3, f4, f5] 2 = 8 from rfl, show rd [0, 0, 8, f3, f4, f5] 1 = 0 from rfl]
    simp only [Option.bind_some]
    by_cases c3 : ix < 0
    · rw [if_pos c3, if_neg (by omega), if_neg (by omega), if_neg (by omega), if_neg (by omega)]
    rw [if_neg c3, wr (x := ix - 0) (by omega) (by omega), wr (x := 8 - 0) (by omega) (by omega)]
    by_cases c4 : ix - 0 ≥ 8 - 0
    · rw [if_pos c4, if_neg (by omega), if_neg (by omega), if_neg (by omega), if_neg (by omega)]
    · rw [if_neg c4, if_pos (c := True ∧ 0 ≤ ix ∧ ix < 8) ⟨trivial, by omega, by omega⟩, wr (x := 0 + ix) (by omega) (by omega), wr (by omega) (by omega), show 0 + ix - 0 = ix by omega]
  · rw [least_2, show wrap64 (2 + 1) = 3 from wr (by omega) (by omega), show rd [0, 0, 8, f3, f4, f5] 3 = f3 from rfl, show rd [0, 0, 8, f3, f4, f5] 2 = 8 from rfl]
    simp only [Option.bind_some]
    by_cases c3 : ix < 0
    · rw [if_pos c3, if_neg (by omega), if_neg (by omega), if_neg (by omega), if_neg (by omega)]
    rw [if_neg c3, wr (x := ix - 0) (by omega) (by omega), wr (x := f3 - 8) (by omega) (by omega)]
    by_cases c4 : ix - 0 ≥ f3 - 8
    · rw [if_pos c4, if_neg (by omega), if_neg (by omega), if_neg (by omega), if_neg (by omega)]
    · rw [if_neg c4, if_neg (c := (2 : Int) = 1 ∧ _) (by omega), if_pos (c := True ∧ 0 ≤ ix ∧ ix < f3 - 8) ⟨trivial, by omega, by omega⟩, wr (x := 8 + ix) (by omega) (by omega), wr (by omega) (by omega), show 8 + ix - 0 = 8 + ix by omega]
  · rw [least_3, show wrap64 (3 + 1) = 4 from wr (by omega) (by omega), show rd [0, 0, 8, f3, f4, f5] 4 = f4 from rfl, show rd [0, 0, 8, f3, f4, f5] 3 = f3 from rfl]
    simp only [Option.bind_some]
    by_cases c3 : ix < 1
    · rw [if_pos c3, if_neg (by omega), if_neg (by omega), if_neg (by omega), if_neg (by omega)]
    rw [if_neg c3, wr (x := ix - 1) (by omega) (by omega), wr (x := f4 - f3) (by omega) (by omega)]
    by_cases c4 : ix - 1 ≥ f4 - f3
    · rw [if_pos c4, if_neg (by omega), if_neg (by omega), if_neg (by omega), if_neg (by omega)]
    · rw [if_neg c4, if_neg (c := (3 : Int) = 1 ∧ _) (by omega), if_neg (c := (3 : Int) = 2 ∧ _) (by omega), if_pos (c := True ∧ 1 ≤ ix ∧ ix ≤ f4 - f3) ⟨trivial, by omega, by omega⟩, wr (x := f3 + ix) (by omega) (by omega), wr (by omega) (by omega)]
  · rw [least_4, show wrap64 (4 + 1) = 5 from wr (by omega) (by omega), show rd [0, 0, 8, f3, f4, f5] 5 = f5 from rfl, show rd [0, 0, 8, f3, f4, f5] 4 = f4 from rfl]
    simp only [Option.bind_some]
    by_cases c3 : ix < 0
    · rw [if_pos c3, if_neg (by omega), if_neg (by omega), if_neg (by omega), if_neg (by omega)]
    rw [if_neg c3, wr (x := ix - 0) (by omega) (by omega), wr (x := f5 - f4) (by omega) (by omega)]
    by_cases c4 : ix - 0 ≥ f5 - f4
    · rw [if_pos c4, if_neg (by omega), if_neg (by omega), if_neg (by omega), if_neg (by omega)]
    · rw [if_neg c4, if_neg (c := (4 : Int) = 1 ∧ _) (by omega), if_neg (c := (4 : Int) = 2 ∧ _) (by omega), if_neg (c := (4 : Int) = 3 ∧ _) (by omega), if_pos (c := True ∧ 0 ≤ ix ∧ ix < f5 - f4) ⟨trivial, by omega, by omega⟩, wr (x := f4 + ix) (by omega) (by omega), wr (by omega) (by omega), show f4 + ix - 0 = f4 + ix by omega]
theorem place_no {k : Nat} {M R rg ix : Int} (g : ¬ Geo M R) : geom_Place.f k M R rg ix = some (0, 2) := by
  unfold geom_Place.f; rw [is_no g]; rfl
theorem works_f {k : Nat} (hk : 20 < k) : casematelaw14_works.f k = some true := by
  have g : Geo 4 1 := ⟨by omega, by omega, by omega, by omega⟩
  have e1 : placeV (F3 4 1) (F4 4 1) (F5 4 1) 3 1 = (50, 0) := by decide +kernel
  have e2 : ((Hv 4 1 : Nat) : Int) = 2 := by decide +kernel
  have e3 : HFv 4 1 = 21 := by decide +kernel
  have e4 : F5 4 1 = 54 := by decide +kernel
  have p1 := place_yes (k := k) (rg := 3) (ix := 1) hk g (by omega)
  have p2 := height_yes (k := k) hk g
  have p3 := half_yes (k := k) hk g
  have p4 := sectors_yes (k := k) hk g
  have p5 := leaves_yes g
  rw [e1] at p1; rw [e2] at p2; rw [e3] at p3; rw [e4] at p4
  unfold casematelaw14_works.f
  rw [p1, p2, p3, p4, p5]
  rfl
theorem what_yes {k : Nat} {M R pl : Int} (hk : 20 < k) (g : Geo M R) : geom_What.f k M R pl = some (whatV (F3 M R) (F4 M R) (F5 M R) pl) := by
  obtain ⟨q1, q2, q3, q4⟩ := fb g
  unfold geom_What.f
  rw [is_yes g, half_yes hk g, nodes_yes hk g, sectors_yes hk g]
  simp only [Option.bind_some, if_true]
  rw [f3_w g, f4_w g, f5_w g, least_1, least_2, least_3, least_4]
  generalize F3 M R = f3 at *
  generalize F4 M R = f4 at *
  generalize F5 M R = f5 at *
  simp only [Option.bind_some]
  unfold whatV
  by_cases c1 : pl < 0
  · rw [if_pos c1, if_pos (by omega)]
  by_cases c2 : pl ≥ f5
  · rw [if_neg c1, if_pos c2, if_pos (by omega)]
  rw [if_neg c1, if_neg c2, if_neg (c := pl < 0 ∨ f5 ≤ pl) (by omega)]
  by_cases c3 : pl < 8
  · rw [if_pos c3, if_pos c3, wr (x := pl) (by omega) (by omega), wr (by omega) (by omega), show pl + 0 = pl by omega]
  rw [if_neg c3, if_neg c3]
  by_cases c4 : pl < f3
  · rw [if_pos c4, if_pos c4, wr (x := pl - 8) (by omega) (by omega), wr (by omega) (by omega), show pl - 8 + 0 = pl - 8 by omega]
  rw [if_neg c4, if_neg c4]
  by_cases c5 : pl < f4
  · rw [if_pos c5, if_pos c5, wr (x := pl - f3) (by omega) (by omega), wr (by omega) (by omega)]
  rw [if_neg c5, if_neg c5, if_pos (by omega), wr (x := pl - f4) (by omega) (by omega), wr (by omega) (by omega), show pl - f4 + 0 = pl - f4 by omega]
theorem what_no {k : Nat} {M R pl : Int} (g : ¬ Geo M R) : geom_What.f k M R pl = some (0, 0, 2) := by
  unfold geom_What.f; rw [is_no g]; rfl
theorem refcheck_yes {M R : Int} (g : Geo M R) : casemateref14_Check.f M R = some 0 := by
  obtain ⟨h1, h2, h3, h4⟩ := g
  unfold casemateref14_Check.f
  rw [if_pos (by omega), if_pos (by omega), if_pos (by omega), if_pos (by omega)]
theorem refcheck_no {M R : Int} (g : ¬ Geo M R) : casemateref14_Check.f M R = some 2 := by
  unfold casemateref14_Check.f
  by_cases h1 : M ≥ 4
  · by_cases h2 : M ≤ 64
    · by_cases h3 : R ≥ 1
      · by_cases h4 : R ≤ 64
        · exact absurd ⟨h1, h2, h3, h4⟩ g
        · rw [if_pos h1, if_pos h2, if_pos h3, if_neg h4]
      · rw [if_pos h1, if_pos h2, if_neg h3]
    · rw [if_pos h1, if_neg h2]
  · rw [if_neg h1]
theorem refleaves_yes {M R : Int} (g : Geo M R) : casemateref14_Leaves.f M R = some (M * R) := by
  have b := bnd g
  unfold casemateref14_Leaves.f
  rw [refcheck_yes g]
  simp only [Option.bind_some, if_true]
  rw [wr (by have := b.l0; omega) (by have := b.l1; omega)]
theorem refleaves_no {M R : Int} (g : ¬ Geo M R) : casemateref14_Leaves.f M R = some 0 := by
  unfold casemateref14_Leaves.f; rw [refcheck_no g]; rfl
theorem power_l0 (d : Nat) : ∀ (k : Nat) (h i : Nat), i + d = h → h ≤ 12 → d + 1 < k → casemateref14_Power.l0 k (h : Int) ((2 ^ i : Nat) : Int) (i : Int) = some ((2 ^ h : Nat) : Int) := by
  induction d with
  | zero =>
    intro k h i hi hh hk
    obtain ⟨k, rfl⟩ : ∃ m, k = m + 1 := ⟨k - 1, by omega⟩
    obtain rfl : i = h := by omega
    simp only [casemateref14_Power.l0]
    rw [if_neg (by omega)]
  | succ d ih =>
    intro k h i hi hh hk
    obtain ⟨k, rfl⟩ : ∃ m, k = m + 1 := ⟨k - 1, by omega⟩
    have h1 : 2 ^ i ≤ 2 ^ 12 := Nat.pow_le_pow_right (by decide) (by omega)
    have h4 : (2 : Nat) ^ 12 = 4096 := by decide
    have h5 : ((2 ^ (i + 1) : Nat) : Int) = 2 * ((2 ^ i : Nat) : Int) := by rw [Nat.pow_succ]; omega
    have hi2 := ih k h (i + 1) (by omega) hh (by omega)
    rw [h5] at hi2
    rw [h4] at h1
    simp only [casemateref14_Power.l0]
    rw [if_pos (by omega)]
    generalize 2 ^ i = p at *
    rw [wr (x := 2 * (p : Int)) (by omega) (by omega), wr (by omega) (by omega)]
    exact hi2
theorem power_f {k h : Nat} (hk : 20 < k) (hh : h ≤ 12) : casemateref14_Power.f k (h : Int) = some ((2 ^ h : Nat) : Int) := by
  unfold casemateref14_Power.f
  exact power_l0 h k h 0 (Nat.zero_add _) hh (by omega)
theorem refheight_l0 (d : Nat) : ∀ (k : Nat) (M R L : Int) (h : Nat), casemateref14_Leaves.f M R = some L → h + d = 12 → L ≤ 4096 → d + 22 < k → casemateref14_Height.l0 k (h : Int) M R = some ((hs d L.toNat h : Nat) : Int) := by
  induction d with
  | zero =>
    intro k M R L h hl hd hL hk
    obtain ⟨k, rfl⟩ : ∃ m, k = m + 1 := ⟨k - 1, by omega⟩
    obtain rfl : h = 12 := by omega
    simp only [casemateref14_Height.l0]
    rw [power_f (by omega) (by decide), hl]
    simp only [Option.bind_some]
    rw [if_neg (by simp; omega)]
    rfl
  | succ d ih =>
    intro k M R L h hl hd hL hk
    obtain ⟨k, rfl⟩ : ∃ m, k = m + 1 := ⟨k - 1, by omega⟩
    simp only [casemateref14_Height.l0]
    rw [power_f (by omega) (by omega), hl]
    simp only [Option.bind_some]
    unfold hs
    obtain ⟨p, hp⟩ : ∃ p, p = 2 ^ h := ⟨_, rfl⟩
    rw [← hp]
    by_cases c : (p : Int) < L
    · rw [if_pos c, if_pos (show p < L.toNat by omega), wr (by omega) (by omega)]
      exact ih k M R L (h + 1) hl (by omega) hL (by omega)
    · rw [if_neg c, if_neg (show ¬ p < L.toNat by omega)]
theorem refheight_yes {k : Nat} {M R : Int} (hk : 40 < k) (g : Geo M R) : casemateref14_Height.f k M R = some ((Hv M R : Nat) : Int) := by
  unfold casemateref14_Height.f
  exact refheight_l0 12 k M R (M * R) 0 (refleaves_yes g) rfl (bnd g).l1 (by omega)
theorem refheight_no {k : Nat} {M R : Int} (hk : 40 < k) (g : ¬ Geo M R) : casemateref14_Height.f k M R = some 0 := by
  unfold casemateref14_Height.f
  exact refheight_l0 12 k M R 0 0 (refleaves_no g) rfl (by omega) (by omega)
theorem refnodes_yes {k : Nat} {M R : Int} (hk : 40 < k) (g : Geo M R) : casemateref14_Nodes.f k M R = some (NDv M R) := by
  have b := bnd g
  have hp := b.p2
  unfold casemateref14_Nodes.f NDv
  rw [refheight_yes hk g]
  simp only [Option.bind_some]
  rw [power_f (by omega) b.h1]
  simp only [Option.bind_some]
  generalize 2 ^ Hv M R = p at hp
  rw [wr (by omega) (by omega)]
theorem refnodes_no {k : Nat} {M R : Int} (hk : 40 < k) (g : ¬ Geo M R) : casemateref14_Nodes.f k M R = some 0 := by
  unfold casemateref14_Nodes.f
  rw [refheight_no hk g]
  simp only [Option.bind_some]
  have h := power_f (k := k) (h := 0) (by omega) (by decide)
  rw [show ((0 : Nat) : Int) = 0 from rfl] at h
  rw [h]
  simp only [Option.bind_some]
  rw [wr (by omega) (by omega)]
  rfl
theorem refcap_j0 {k : Nat} {M R : Int} (hk : 42 < k) (g : Geo M R) : casemateref14_Capacity.j0 k (MXv M) M R = some (CPv M R) := by
  have b := bnd g
  have := b.mh0; have := b.mh1; have := b.n0; have := b.n1; have := b.x0; have := b.x1
  have hc : CPv M R = MXv M + MNv (MXv M * (Hv M R : Int)) (NDv M R) + 8 := rfl
  obtain ⟨k, rfl⟩ : ∃ m, k = m + 1 := ⟨k - 1, by omega⟩
  simp only [casemateref14_Capacity.j0]
  rw [refheight_yes (by omega) g, refnodes_yes (by omega) g]
  simp only [Option.bind_some]
  rw [wr (x := MXv M * (Hv M R : Int)) (by omega) (by omega), hc]
  unfold MNv
  by_cases c : NDv M R < MXv M * (Hv M R : Int)
  · rw [if_pos c, if_pos c, wr (x := MXv M + NDv M R) (by omega) (by omega), wr (by omega) (by omega)]
  · rw [if_neg c, if_neg c, wr (x := MXv M + MXv M * (Hv M R : Int)) (by omega) (by omega), wr (by omega) (by omega)]
theorem refcap_yes {k : Nat} {M R : Int} (hk : 42 < k) (g : Geo M R) : casemateref14_Capacity.f k M R = some (CPv M R) := by
  have h := refcap_j0 hk g
  unfold casemateref14_Capacity.f
  rw [refcheck_yes g]
  simp only [Option.bind_some, if_true]
  unfold MXv at h
  by_cases c : 6 < M
  · rw [if_pos c] at h; rw [if_pos c]; exact h
  · rw [if_neg c] at h; rw [if_neg c]; exact h
theorem refcap_no {k : Nat} {M R : Int} (g : ¬ Geo M R) : casemateref14_Capacity.f k M R = some 0 := by
  unfold casemateref14_Capacity.f; rw [refcheck_no g]; rfl
theorem refhalf_l0 (d : Nat) : ∀ (k : Nat) (M R n : Int), Geo M R → (69 * CPv M R + 63) / 64 - n = d → 0 ≤ n → d + 50 < k → casemateref14_Half.l0 k n M R = some (HFv M R) := by
  induction d with
  | zero =>
    intro k M R n g hd hn hk
    obtain ⟨k, rfl⟩ : ∃ m, k = m + 1 := ⟨k - 1, by omega⟩
    have b := bnd g
    have := b.c0; have := b.c1
    have hf : HFv M R = 2 + (69 * CPv M R + 63) / 64 := rfl
    simp only [casemateref14_Half.l0]
    rw [refcap_yes (by omega) g]
    simp only [Option.bind_some]
    rw [wr (x := 64 * n) (by omega) (by omega), wr (x := 69 * CPv M R) (by omega) (by omega), if_neg (by omega), wr (by omega) (by omega), hf]
    congr 1; omega
  | succ d ih =>
    intro k M R n g hd hn hk
    obtain ⟨k, rfl⟩ : ∃ m, k = m + 1 := ⟨k - 1, by omega⟩
    have b := bnd g
    have := b.c0; have := b.c1
    simp only [casemateref14_Half.l0]
    rw [refcap_yes (by omega) g]
    simp only [Option.bind_some]
    rw [wr (x := 64 * n) (by omega) (by omega), wr (x := 69 * CPv M R) (by omega) (by omega), if_pos (by omega), wr (x := n + 1) (by omega) (by omega)]
    exact ih k M R (n + 1) g (by omega) (by omega) (by omega)
theorem refhalf_yes {k : Nat} {M R : Int} (hk : 2000 < k) (g : Geo M R) : casemateref14_Half.f k M R = some (HFv M R) := by
  have b := bnd g
  have := b.c0; have := b.c1
  unfold casemateref14_Half.f
  rw [refcheck_yes g]
  simp only [Option.bind_some, if_true]
  exact refhalf_l0 ((69 * CPv M R + 63) / 64).toNat k M R 0 g (by omega) (by omega) (by omega)
theorem refhalf_no {k : Nat} {M R : Int} (g : ¬ Geo M R) : casemateref14_Half.f k M R = some 0 := by
  unfold casemateref14_Half.f; rw [refcheck_no g]; rfl
theorem count_1 {k : Nat} {M R : Int} : casemateref14_Count.f k M R 1 = some 8 := rfl
theorem count_2 {k : Nat} {M R : Int} (hk : 2000 < k) (g : Geo M R) : casemateref14_Count.f k M R 2 = some (F3 M R - 8) := by
  have b := bnd g
  have := b.f0; have := b.f1
  have e3 : F3 M R = 8 + 2 * HFv M R := rfl
  unfold casemateref14_Count.f
  rw [if_neg (by decide), if_pos rfl, refhalf_yes hk g]
  simp only [Option.bind_some]
  rw [wr (by omega) (by omega)]
  congr 1; omega
theorem count_3 {k : Nat} {M R : Int} (hk : 2000 < k) (g : Geo M R) : casemateref14_Count.f k M R 3 = some (F4 M R - F3 M R) := by
  have e3 : F4 M R = F3 M R + NDv M R := rfl
  unfold casemateref14_Count.f
  rw [if_neg (by decide), if_neg (by decide), if_pos rfl, refnodes_yes (by omega) g]
  simp only [Option.bind_some]
  congr 1; omega
theorem count_4 {k : Nat} {M R : Int} : casemateref14_Count.f k M R 4 = some (F5 M R - F4 M R) := by
  have e3 : F5 M R = F4 M R + R := rfl
  unfold casemateref14_Count.f
  rw [if_neg (by decide), if_neg (by decide), if_neg (by decide)]
  congr 1; omega
theorem rl_1 : casemateref14_Least.f 1 = some 0 := rfl
theorem rl_2 : casemateref14_Least.f 2 = some 0 := rfl
theorem rl_3 : casemateref14_Least.f 3 = some 1 := rfl
theorem rl_4 : casemateref14_Least.f 4 = some 0 := rfl
/-- The search of an index in a region. -/
theorem rp_l1 (d : Nat) : ∀ (k : Nat) (M R rg ix at_ i c l : Int), (∀ k, 2000 < k → casemateref14_Count.f k M R rg = some c) → casemateref14_Least.f rg = some l → (l = 0 ∨ l = 1) → 0 ≤ at_ → at_ ≤ 10000 → c ≤ 10000 → 0 ≤ i → c - i = d → (ix < l ∨ i ≤ ix - l) → d + 2001 < k →
    casemateref14_Place.l1 k rg ix at_ i M R = some (if l ≤ ix ∧ ix - l < c then (at_ + (ix - l), 0) else (0, 2)) := by
  induction d with
  | zero =>
    intro k M R rg ix at_ i c l hc hl hl1 ha ha1 hcc hi hd hix hk
    obtain ⟨k, rfl⟩ : ∃ m, k = m + 1 := ⟨k - 1, by omega⟩
    simp only [casemateref14_Place.l1]
    rw [hc k (by omega)]
    simp only [Option.bind_some]
    rw [if_neg (by omega), if_neg (by omega)]
  | succ d ih =>
    intro k M R rg ix at_ i c l hc hl hl1 ha ha1 hcc hi hd hix hk
    obtain ⟨k, rfl⟩ : ∃ m, k = m + 1 := ⟨k - 1, by omega⟩
    simp only [casemateref14_Place.l1]
    rw [hc k (by omega), hl]
    simp only [Option.bind_some]
    rw [if_pos (by omega), wr (x := i + l) (by omega) (by omega)]
    by_cases e : i + l = ix
    · rw [if_pos e, if_pos (by omega), wr (by omega) (by omega), show ix - l = i by omega]
    · rw [if_neg e, wr (by omega) (by omega)]
      exact ih k M R rg ix at_ (i + 1) c l hc hl hl1 ha ha1 hcc (by omega) (by omega) (by omega) (by omega)
theorem refplace_yes {k : Nat} {M R rg ix : Int} (hk : 15000 < k) (g : Geo M R) : casemateref14_Place.f k M R rg ix = some (placeV (F3 M R) (F4 M R) (F5 M R) rg ix) := by
  obtain ⟨q1, q2, q3, q4⟩ := fb g
  have h1 := fun (k : Nat) (_ : 2000 < k) => count_1 (k := k) (M := M) (R := R)
  have h2 := fun (k : Nat) (hk : 2000 < k) => count_2 hk g
  have h3 := fun (k : Nat) (hk : 2000 < k) => count_3 hk g
  have h4 := fun (k : Nat) (_ : 2000 < k) => count_4 (k := k) (M := M) (R := R)
  obtain ⟨k, rfl⟩ : ∃ m, k = m + 5 := ⟨k - 5, by omega⟩
  have e1 : wrap64 (1 + 1) = 2 := wr (by omega) (by omega)
  have e2 : wrap64 (2 + 1) = 3 := wr (by omega) (by omega)
  have e3 : wrap64 (3 + 1) = 4 := wr (by omega) (by omega)
  unfold casemateref14_Place.f
  rw [refcheck_yes g]
  simp only [Option.bind_some, if_true]
  by_cases c1 : rg < 1
  · rw [if_pos c1]
    simp only [casemateref14_Place.j0, if_true]
    unfold placeV
    rw [if_neg (by omega), if_neg (by omega), if_neg (by omega), if_neg (by omega)]
  rw [if_neg c1]
  by_cases c2 : rg > 4
  · rw [decide_eq_true c2]
    simp only [casemateref14_Place.j0, if_true]
    unfold placeV
    rw [if_neg (by omega), if_neg (by omega), if_neg (by omega), if_neg (by omega)]
  rw [decide_eq_false c2]
  have hrg : rg = 1 ∨ rg = 2 ∨ rg = 3 ∨ rg = 4 := by omega
  rcases hrg with rfl | rfl | rfl | rfl
  · have hl := rp_l1 (8 : Nat) (k + 3 - 0) M R 1 ix 0 0 8 0 h1 rl_1 (Or.inl rfl) (by omega) (by omega) (by omega) (by omega) (by omega) (by omega) (by omega)
    simp only [casemateref14_Place.j0, casemateref14_Place.l0]
    rw [if_neg (by decide), if_neg (by omega)]
    refine hl.trans ?_
    unfold placeV
    by_cases c : 0 ≤ ix ∧ ix - 0 < 8
    · rw [if_pos c, if_pos (by omega), show 0 + (ix - 0) = ix by omega]
    · rw [if_neg c, if_neg (by omega), if_neg (by omega), if_neg (by omega), if_neg (by omega)]
  · have hl := rp_l1 (F3 M R - 8).toNat (k + 2) M R 2 ix 8 0 (F3 M R - 8) 0 h2 rl_2 (Or.inl rfl) (by omega) (by omega) (by omega) (by omega) (by omega) (by omega) (by omega)
    simp only [casemateref14_Place.j0, casemateref14_Place.l0]
    rw [if_neg (by decide), if_pos (by omega), h1 _ (by omega)]
    simp only [Option.bind_some]
    rw [e1, if_neg (by omega), wr (x := 0 + 8) (by omega) (by omega), show (0 : Int) + 8 = 8 by omega]
    refine hl.trans ?_
    unfold placeV
    by_cases c : 0 ≤ ix ∧ ix - 0 < F3 M R - 8
    · rw [if_pos c, if_neg (by omega), if_pos (by omega), show 8 + (ix - 0) = 8 + ix by omega]
    · rw [if_neg c, if_neg (by omega), if_neg (by omega), if_neg (by omega), if_neg (by omega)]
  · have hl := rp_l1 (F4 M R - F3 M R).toNat (k + 1) M R 3 ix (F3 M R) 0 (F4 M R - F3 M R) 1 h3 rl_3 (Or.inr rfl) (by omega) (by omega) (by omega) (by omega) (by omega) (by omega) (by omega)
    simp only [casemateref14_Place.j0, casemateref14_Place.l0]
    rw [if_neg (by decide), if_pos (by omega), h1 _ (by omega)]
    simp only [Option.bind_some]
    rw [e1, if_pos (by omega), h2 _ (by omega)]
    simp only [Option.bind_some]
    rw [e2, if_neg (by omega), wr (x := 0 + 8) (by omega) (by omega), wr (x := 0 + 8 + (F3 M R - 8)) (by omega) (by omega), show (0 : Int) + 8 + (F3 M R - 8) = F3 M R by omega]
    refine hl.trans ?_
    unfold placeV
    by_cases c : 1 ≤ ix ∧ ix - 1 < F4 M R - F3 M R
    · rw [if_pos c, if_neg (by omega), if_neg (by omega), if_pos (by omega), show F3 M R + (ix - 1) = F3 M R + ix - 1 by omega]
    · rw [if_neg c, if_neg (by omega), if_neg (by omega), if_neg (by omega), if_neg (by omega)]
  · have hl := rp_l1 (F5 M R - F4 M R).toNat k M R 4 ix (F4 M R) 0 (F5 M R - F4 M R) 0 h4 rl_4 (Or.inl rfl) (by omega) (by omega) (by omega) (by omega) (by omega) (by omega) (by omega)
    simp only [casemateref14_Place.j0, casemateref14_Place.l0]
    rw [if_neg (by decide), if_pos (by omega), h1 _ (by omega)]
    simp only [Option.bind_some]
    rw [e1, if_pos (by omega), h2 _ (by omega)]
    simp only [Option.bind_some]
    rw [e2, if_pos (by omega), h3 _ (by omega)]
    simp only [Option.bind_some]
    rw [e3, if_neg (by omega), wr (x := 0 + 8) (by omega) (by omega), wr (x := 0 + 8 + (F3 M R - 8)) (by omega) (by omega), wr (x := 0 + 8 + (F3 M R - 8) + (F4 M R - F3 M R)) (by omega) (by omega), show (0 : Int) + 8 + (F3 M R - 8) + (F4 M R - F3 M R) = F4 M R by omega]
    refine hl.trans ?_
    unfold placeV
    by_cases c : 0 ≤ ix ∧ ix - 0 < F5 M R - F4 M R
    · rw [if_pos c, if_neg (by omega), if_neg (by omega), if_neg (by omega), if_pos (by omega), show F4 M R + (ix - 0) = F4 M R + ix by omega]
    · rw [if_neg c, if_neg (by omega), if_neg (by omega), if_neg (by omega), if_neg (by omega)]
theorem refplace_no {k : Nat} {M R rg ix : Int} (hk : 10 < k) (g : ¬ Geo M R) : casemateref14_Place.f k M R rg ix = some (0, 2) := by
  obtain ⟨k, rfl⟩ : ∃ m, k = m + 1 := ⟨k - 1, by omega⟩
  unfold casemateref14_Place.f
  rw [refcheck_no g]
  simp [casemateref14_Place.j0]
theorem refwhat_yes {k : Nat} {M R pl : Int} (hk : 15000 < k) (g : Geo M R) (hp : pl < 9223372036854775808) : casemateref14_What.f k M R pl = some (whatV (F3 M R) (F4 M R) (F5 M R) pl) := by
  obtain ⟨q1, q2, q3, q4⟩ := fb g
  have h1 := fun (k : Nat) (_ : 2000 < k) => count_1 (k := k) (M := M) (R := R)
  have h2 := fun (k : Nat) (hk : 2000 < k) => count_2 hk g
  have h3 := fun (k : Nat) (hk : 2000 < k) => count_3 hk g
  have h4 := fun (k : Nat) (_ : 2000 < k) => count_4 (k := k) (M := M) (R := R)
  obtain ⟨k, rfl⟩ : ∃ m, k = m + 6 := ⟨k - 6, by omega⟩
  have e1 : wrap64 (1 + 1) = 2 := wr (by omega) (by omega)
  have e2 : wrap64 (2 + 1) = 3 := wr (by omega) (by omega)
  have e3 : wrap64 (3 + 1) = 4 := wr (by omega) (by omega)
  have e4 : wrap64 (4 + 1) = 5 := wr (by omega) (by omega)
  unfold casemateref14_What.f
  rw [refcheck_yes g]
  simp only [Option.bind_some, if_true]
  unfold whatV
  by_cases c0 : pl < 0
  · rw [decide_eq_true c0, if_pos (by omega)]
    rfl
  rw [decide_eq_false c0]
  simp only [casemateref14_What.j0, casemateref14_What.l0]
  rw [if_neg (by decide), e1, e2, e3, e4, h1 _ (by omega), h2 _ (by omega), h3 _ (by omega), h4 _ (by omega), rl_1, rl_2, rl_3, rl_4]
  simp only [Option.bind_some]
  generalize F3 M R = f3 at *
  generalize F4 M R = f4 at *
  generalize F5 M R = f5 at *
  rw [if_pos (show (1 : Int) ≤ 4 by omega)]
  by_cases c1 : pl < 8
  · rw [if_pos c1, if_neg (by omega), if_pos c1, wr (by omega) (by omega), show pl + 0 = pl by omega]
  rw [if_neg c1, if_pos (show (2 : Int) ≤ 4 by omega), wr (x := pl - 8) (by omega) (by omega)]
  by_cases c2 : pl < f3
  · rw [if_pos (show pl - 8 < f3 - 8 by omega), if_neg (by omega), if_neg c1, if_pos c2, wr (by omega) (by omega), show pl - 8 + 0 = pl - 8 by omega]
  rw [if_neg (show ¬ pl - 8 < f3 - 8 by omega), if_pos (show (3 : Int) ≤ 4 by omega), wr (x := pl - 8 - (f3 - 8)) (by omega) (by omega)]
  by_cases c3 : pl < f4
  · rw [if_pos (show pl - 8 - (f3 - 8) < f4 - f3 by omega), if_neg (by omega), if_neg c1, if_neg c2, if_pos c3, wr (by omega) (by omega), show pl - 8 - (f3 - 8) + 1 = pl - f3 + 1 by omega]
  rw [if_neg (show ¬ pl - 8 - (f3 - 8) < f4 - f3 by omega), if_pos (show (4 : Int) ≤ 4 by omega), wr (x := pl - 8 - (f3 - 8) - (f4 - f3)) (by omega) (by omega)]
  by_cases c4 : pl < f5
  · rw [if_pos (show pl - 8 - (f3 - 8) - (f4 - f3) < f5 - f4 by omega), if_neg (by omega), if_neg c1, if_neg c2, if_neg c3, wr (by omega) (by omega), show pl - 8 - (f3 - 8) - (f4 - f3) + 0 = pl - f4 by omega]
  rw [if_neg (show ¬ pl - 8 - (f3 - 8) - (f4 - f3) < f5 - f4 by omega), if_neg (show ¬ (5 : Int) ≤ 4 by omega), if_pos (by omega)]
theorem refwhat_no {k : Nat} {M R pl : Int} (hk : 10 < k) (g : ¬ Geo M R) : casemateref14_What.f k M R pl = some (0, 0, 2) := by
  obtain ⟨k, rfl⟩ : ∃ m, k = m + 1 := ⟨k - 1, by omega⟩
  unfold casemateref14_What.f
  rw [refcheck_no g]
  simp [casemateref14_What.j0]
theorem places_f {k : Nat} {M R pl rg ix : Int} (hk : 16000 < k) (hix : -9223372036854775808 ≤ ix ∧ ix ≤ 9223372036854775807) (hp : -9223372036854775808 ≤ pl ∧ pl ≤ 9223372036854775807) : casematelaw14_GeomPlaces.f k M R rg ix pl = some true := by
  unfold casematelaw14_GeomPlaces.f
  by_cases g : Geo M R
  · rw [place_yes (by omega) g (by omega), refplace_yes (by omega) g, what_yes (by omega) g, refwhat_yes (by omega) g (by omega), works_f (by omega)]
    simp
  · rw [place_no g, refplace_no (by omega) g, what_no g, refwhat_no (by omega) g, works_f (by omega)]
    simp
end Go.Proofs.Ythmdpcdcbfndiaa.BrGeomPlaces
namespace Go.Proofs.Ythmdpcdcbfndiaa.OwnGeomPlaces
open Go.RowKit Go.Proofs.Ythmdpcdcbfndiaa.PGeomPlaces Go.Proofs.Ythmdpcdcbfndiaa.BrGeomPlaces
theorem walk (m r : Int) (l : List Int) (p : Int) (w : World) (_ : (Lit.int .i64 m).wf = true) (_ : (Lit.int .i64 r).wf = true) (hl : l.length = 2) (wl : ∀ z ∈ l, (Lit.int .i64 z).wf = true) (wp : (Lit.int .i64 p).wf = true) :
    Calls Try.prog 6 #[.agg #[.int .i64 m, .int .i64 r], .agg (l.map (Value.int .i64)).toArray, .int .i64 p] w fun e w' => e = .returned (.bool true) ∧ Below w.heap.size w w' := by
  obtain ⟨x, y, rfl⟩ : ∃ x y, l = [x, y] := by
    match l, hl with
    | [x, y], _ => exact ⟨x, y, rfl⟩
  exact casematelaw14_GeomPlaces.calls 20000 m r x y p true w (places_f (by decide) (bounds_i64 (wl y (by simp))) (bounds_i64 wp))
end Go.Proofs.Ythmdpcdcbfndiaa.OwnGeomPlaces
namespace Go.Proofs.Ythmdpcdcbfndiaa.geomPlaces
open Go.ChangeShapes Go.WideShapes Go.ChangeAt Go.RowKit
open Go.ChangeMaps (open_string shut_string)
set_option linter.unusedVariables false
theorem own : ownKnob Try.prog.godebug = none := by kernel_rfl
theorem Try.laidOut : laidOutB Try.prog = true := by kernel_rfl
theorem cells23 : Try.prog.cellsOf 23 = 2 := by kernel_rfl
theorem cells30 : Try.prog.cellsOf 30 = 2 := by kernel_rfl
theorem cells3 : Try.prog.cellsOf 3 = 1 := by kernel_rfl
set_option maxRecDepth 100000 in
theorem lifted (os : Os) (started : os.Started) (H : Type) (enc : TypeId × Value → H) :
    ReturnsInHanded {} Try.checked os 6 .any (Rows.geomPlacesSpec.pre6 enc Try.prog Try.f6 Rows.geomPlacesRow.domain false) (Rows.geomPlacesSpec.post enc Try.prog Try.f6 false true false false) := by
  refine returnsInHanded_of_change_sized (C := Try.checked) own started (by kernel_rfl) Try.func6
    (ChangeSpec.witness6 (enc := enc) (C := Try.checked) false ⟨#[], #[.agg #[.int .i64 0, .int .i64 0], .agg #[.int .i64 0, .int .i64 0], .int .i64 0], []⟩ 8 (by kernel_rfl) (by kernel_rfl) (by kernel_rfl) (by kernel_rfl)) ?_
  intro W base args ds gs before hval0 hW hcnd hsz0 _
  have hval : ∀ (j : Nat) t v, Try.f6.params[j]? = some t → args[j]? = some v → Value.okWide Try.prog W .any base t v := hval0
  have hW' := hW
  have hWlt := hW.lt
  obtain ⟨p, q, hA0, hV, rfl, hfz, hnd⟩ := hW
  have hA : DataW.TrodAll enc Try.prog W 0 (fun _ => true) true Try.f6.params.toList args.toList ds p := hA0
  rw [Try.params6] at hA hval
  obtain ⟨v0, vs0, d0, ds0, p0, q0, hargs, rfl, rfl, h0, r0⟩ := trodAll_cons hA
  obtain ⟨v1, vs1, d1, ds1, p1, q1, rfl, rfl, rfl, h1, r1⟩ := trodAll_cons r0
  obtain ⟨v2, vs2, d2, ds2, p2, q2, rfl, rfl, rfl, h2, r2⟩ := trodAll_cons r1
  obtain ⟨rfl, rfl, rfl⟩ := trodAll_nil r2
  obtain rfl : args = #[v0, v1, v2] := by cases args; simp_all
  obtain ⟨rfl, rfl⟩ := trodVars_none hV
  have k0 := h0
  have l0 : ∀ x ∈ p0, x.block < W.heap.size := fun x hx => hWlt x (by simp [hx])
  have k1 := h1
  have l1 : ∀ x ∈ p1, x.block < W.heap.size := fun x hx => hWlt x (by simp [hx])
  have k2 := h2
  have l2 : ∀ x ∈ p2, x.block < W.heap.size := fun x hx => hWlt x (by simp [hx])
  obtain ⟨c0_0, c0_1, y0_0, y0_1, m0, rfl, rfl, rfl, hy0_0, hy0_1⟩ := Joins.open_agg2 Try.underlying23 (by kernel_rfl) cells23 (hval 0 23 v0 rfl rfl) h0
  obtain ⟨a0_0, e0_0, rfl, w0_0⟩ := DataW.trod_int Try.underlying3 hy0_0
  obtain ⟨a0_1, e0_1, rfl, w0_1⟩ := DataW.trod_int Try.underlying3 hy0_1
  simp at e0_0 e0_1
  subst e0_0 e0_1
  obtain ⟨c1, rfl, e1, w1⟩ := Op.open_row Try.underlying30 Try.underlying3 cells30 cells3 (hval 1 30 v1 rfl rfl) h1
  obtain ⟨a2, rfl, rfl, rfl, w2⟩ := open_int Try.underlying3 (hval 2 3 v2 rfl rfl) h2
  refine (OwnGeomPlaces.walk a0_0 a0_1 c1 a2 W w0_0 w0_1 e1 w1 w2).mono fun e W' ⟨he, bel⟩ => ?_
  subst he
  exact ⟨_, rfl, _, _, _, [], _, [], hW', trodAll_mk1 (shut_bool Try.underlying4 _), (trodAll_cons_mk (Below.trod Try.laidOut (by kernel_rfl) (of_decide_eq_true (by kernel_rfl)) k0 bel l0) (trodAll_cons_mk (Below.trod Try.laidOut (by kernel_rfl) (of_decide_eq_true (by kernel_rfl)) k1 bel l1) (trodAll_cons_mk (Below.trod Try.laidOut (by kernel_rfl) (of_decide_eq_true (by kernel_rfl)) k2 bel l2) trodAll_mk0))), rfl, bel.frame _, fun h => by cases h⟩
theorem over : Rows.geomPlacesRow.holds Try.pinned (OpenSpec.ofChange Rows.geomPlacesSpec) :=
  OpenClaim.holds_of_wide 6 Try.f6 rfl rfl rfl rfl rfl rfl rfl ⟨rfl, rfl, rfl, rfl, rfl⟩ rfl rfl rfl rfl rfl (by kernel_rfl) Try.func6 (by kernel_rfl)
    (of_decide_eq_true (by kernel_rfl)) (by unfold Func.isWrapper; first | (rw [if_pos (by decide +kernel)]; kernel_rfl) | (rw [if_neg (by decide +kernel)]; exact ⟨rfl, rfl⟩))
    (fun os started H enc _ => lifted os started H enc)
theorem proved : Rows.GeomPlacesSaid := over
#print axioms proved
end Go.Proofs.Ythmdpcdcbfndiaa.geomPlaces
namespace Go.Proofs.Ythmdpcdcbfndiaa
/-- The row, under a short name, for the claim. -/
theorem geomPlaces_holds : Rows.GeomPlacesSaid := geomPlaces.proved
end Go.Proofs.Ythmdpcdcbfndiaa
