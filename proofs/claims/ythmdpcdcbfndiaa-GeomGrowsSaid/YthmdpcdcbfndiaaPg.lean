/- Plain facts on a geometry's counts. -/
import Derived.RowKit
import Derived.OpenShut
namespace Go.Proofs.Ythmdpcdcbfndiaa.Pg
open Go.RowKit

theorem wr {x : Int} (h0 : -9223372036854775808 ≤ x) (h1 : x < 9223372036854775808) : wrap64 x = x := by unfold wrap64; omega
theorem mul_rng {a b A B : Int} (h0 : 0 ≤ a) (h1 : a ≤ A) (h2 : 0 ≤ b) (h3 : b ≤ B) : 0 ≤ a * b ∧ a * b ≤ A * B :=
  ⟨Int.mul_nonneg h0 h2, Int.mul_le_mul h1 h3 h2 (by omega)⟩

/-- A geometry. -/
structure Geo (M R : Int) : Prop where
  m0 : 4 ≤ M
  m1 : M ≤ 64
  r0 : 1 ≤ R
  r1 : R ≤ 64

/-- The least h with L ≤ 2^h: the search. -/
def hs : Nat → Nat → Nat → Nat
  | 0, _, h => h
  | d + 1, L, h => if 2 ^ h < L then hs d L (h + 1) else h
def hgt (L : Nat) : Nat := hs 12 L 0

theorem hs_spec (d : Nat) : ∀ L h, h + d = 12 → L ≤ 4096 → (∀ j, j < h → 2 ^ j < L) → h ≤ hs d L h ∧ hs d L h ≤ 12 ∧ L ≤ 2 ^ hs d L h ∧ (∀ j, j < hs d L h → 2 ^ j < L) := by
  induction d with
  | zero =>
    intro L h hd hL hj
    obtain rfl : h = 12 := by omega
    exact ⟨Nat.le_refl _, Nat.le_refl _, hL, hj⟩
  | succ d ih =>
    intro L h hd hL hj
    unfold hs
    by_cases c : 2 ^ h < L
    · rw [if_pos c]
      have h1 := ih L (h + 1) (by omega) hL (fun j hjl => by
        by_cases e : j = h
        · rw [e]; exact c
        · exact hj j (by omega))
      exact ⟨by omega, h1.2.1, h1.2.2.1, h1.2.2.2⟩
    · rw [if_neg c]
      exact ⟨Nat.le_refl _, by omega, by omega, hj⟩
theorem hgt_le {L : Nat} (h : L ≤ 4096) : hgt L ≤ 12 := (hs_spec 12 L 0 rfl h (fun j hj => by omega)).2.1
theorem hgt_room {L : Nat} (h : L ≤ 4096) : L ≤ 2 ^ hgt L := (hs_spec 12 L 0 rfl h (fun j hj => by omega)).2.2.1
theorem hgt_least {L : Nat} (h : L ≤ 4096) : ∀ j, j < hgt L → 2 ^ j < L := (hs_spec 12 L 0 rfl h (fun j hj => by omega)).2.2.2
theorem hgt_mono {L L' : Nat} (h : L ≤ L') (h' : L' ≤ 4096) : hgt L ≤ hgt L' := by
  rcases Nat.lt_or_ge (hgt L') (hgt L) with c | c
  · have := hgt_least (by omega : L ≤ 4096) _ c
    have := hgt_room h'
    omega
  · exact c
theorem hgt_half {L : Nat} (h : L ≤ 4096) (h1 : 2 ≤ L) : 2 ^ hgt L < 2 * L := by
  have hr := hgt_room h
  cases e : hgt L with
  | zero => simp; omega
  | succ j =>
    have := hgt_least h j (by omega)
    rw [Nat.pow_succ]; omega

/-- The counts of a geometry. -/
def Hv (M R : Int) : Nat := hgt (M * R).toNat
def NDv (M R : Int) : Int := ((2 ^ Hv M R : Nat) : Int) - 1
def MXv (M : Int) : Int := if 6 < M then M else 6
def MNv (a b : Int) : Int := if b < a then b else a
def CPv (M R : Int) : Int := MXv M + MNv (MXv M * (Hv M R : Int)) (NDv M R) + 8
def HFv (M R : Int) : Int := 2 + (69 * CPv M R + 63) / 64
def F3 (M R : Int) : Int := 8 + 2 * HFv M R
def F4 (M R : Int) : Int := F3 M R + NDv M R
def F5 (M R : Int) : Int := F4 M R + R

structure Bnd (M R : Int) : Prop where
  l0 : 4 ≤ M * R
  l1 : M * R ≤ 4096
  h1 : Hv M R ≤ 12
  p0 : M * R ≤ ((2 ^ Hv M R : Nat) : Int)
  p1 : ((2 ^ Hv M R : Nat) : Int) < 2 * (M * R)
  p2 : ((2 ^ Hv M R : Nat) : Int) ≤ 4096
  n0 : 3 ≤ NDv M R
  n1 : NDv M R ≤ 4095
  x0 : 6 ≤ MXv M
  x1 : MXv M ≤ 64
  mh0 : 0 ≤ MXv M * (Hv M R : Int)
  mh1 : MXv M * (Hv M R : Int) ≤ 768
  c0 : 14 ≤ CPv M R
  c1 : CPv M R ≤ 840
  f0 : 2 ≤ HFv M R
  f1 : HFv M R ≤ 1000

theorem bnd {M R : Int} (g : Geo M R) : Bnd M R := by
  obtain ⟨h1, h2, h3, h4⟩ := g
  have l1 := mul_rng (a := M) (b := R) (A := 64) (B := 64) (by omega) h2 (by omega) h4
  have l0 : 4 * 1 ≤ M * R := Int.mul_le_mul h1 h3 (by omega) (by omega)
  have hL : (M * R).toNat ≤ 4096 := by omega
  have g1 := hgt_le hL
  have g2 := hgt_room hL
  have g3 := hgt_half hL (by omega)
  have g4 : (2 : Nat) ^ hgt (M * R).toNat ≤ 2 ^ 12 := Nat.pow_le_pow_right (by decide) g1
  have x0 : 6 ≤ MXv M ∧ MXv M ≤ 64 := by unfold MXv; split <;> omega
  have mh := mul_rng (a := MXv M) (b := (Hv M R : Int)) (A := 64) (B := 12) (by omega) x0.2 (by omega) (by unfold Hv; omega)
  have n0 : NDv M R = ((2 ^ hgt (M * R).toNat : Nat) : Int) - 1 := rfl
  have hn : 3 ≤ NDv M R ∧ NDv M R ≤ 4095 := by omega
  have c0 : 0 ≤ MNv (MXv M * (Hv M R : Int)) (NDv M R) ∧ MNv (MXv M * (Hv M R : Int)) (NDv M R) ≤ 768 := by unfold MNv; split <;> omega
  have hc : CPv M R = MXv M + MNv (MXv M * (Hv M R : Int)) (NDv M R) + 8 := rfl
  have hf : HFv M R = 2 + (69 * CPv M R + 63) / 64 := rfl
  exact ⟨by omega, by omega, g1, by unfold Hv; omega, by unfold Hv; omega, by unfold Hv; omega, hn.1, hn.2, x0.1, x0.2, mh.1, by omega, by omega, by omega, by omega, by omega⟩

def placeV (f3 f4 f5 rg ix : Int) : Int × Int :=
  if rg = 1 ∧ 0 ≤ ix ∧ ix < 8 then (ix, 0) else if rg = 2 ∧ 0 ≤ ix ∧ ix < f3 - 8 then (8 + ix, 0) else if rg = 3 ∧ 1 ≤ ix ∧ ix ≤ f4 - f3 then (f3 + ix - 1, 0) else if rg = 4 ∧ 0 ≤ ix ∧ ix < f5 - f4 then (f4 + ix, 0) else (0, 2)
def whatV (f3 f4 f5 pl : Int) : Int × Int × Int :=
  if pl < 0 ∨ f5 ≤ pl then (0, 0, 2) else if pl < 8 then (1, pl, 0) else if pl < f3 then (2, pl - 8, 0) else if pl < f4 then (3, pl - f3 + 1, 0) else (4, pl - f4, 0)

end Go.Proofs.Ythmdpcdcbfndiaa.Pg
