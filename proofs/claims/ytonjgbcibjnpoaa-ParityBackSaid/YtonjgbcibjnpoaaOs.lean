/- A list of sectors as an argument. -/
import Derived.Test.YtonjgbcibjnpoaaOq
namespace Go.Proofs.Ytonjgbcibjnpoaa.Oq
open Go.ChangeShapes Go.WideShapes Go.RowKit Go.Proofs.YtonjgbcibjnpoaaW.PrintWords Go.Proofs.Ytonjgbcibjnpoaa.Op Go.Proofs.Ytonjgbcibjnpoaa.Sc Go.Proofs.Ytonjgbcibjnpoaa.Pb Go.Proofs.Ytonjgbcibjnpoaa.Ss Go.Proofs.Ytonjgbcibjnpoaa.Sr
variable {H : Type} {enc : TypeId × Value → H} {w : World} {base : Nat} {spare : Nat → Bool} {held : Bool}
theorem open_secs {r : Reach} {b0 : Nat} {v : Value} {d : DataW H} {p : List MemPlace} (hv : Value.okWide Try.prog w r b0 33 v) (h : DataW.Trod enc Try.prog w base spare held 33 v d p) :
    ∃ (A : Option Addr) (n c : Nat) (L : List (List Nat)), v = .slice A n c ∧ Kd.C seK w A n L ∧ Secs L ∧ n ≤ c ∧ c ≤ 9223372036854775807 := by
  obtain ⟨A0, l0, c0, rfl⟩ := okWide_slice under33 hv
  obtain ⟨fuel, hf⟩ := h
  have hcs : (Value.slice A0 l0 c0).cells.toList = [.slice A0 l0 c0] := rfl
  rw [hcs] at hf
  rcases DataW.trod_slice under33 hf with ⟨he, _⟩ | ⟨ad, len, cap, elems, rest, n, _, he, _, _, hlc, hcm, hel, hget, _⟩
  · injection he with he
    injection he with h1 h2 h3
    subst h1; subst h2; subst h3
    exact ⟨none, 0, 0, [], rfl, ⟨rfl, by decide, fun h => absurd h (by decide)⟩, fun l hl => by simp at hl, Nat.le_refl _, by decide⟩
  · injection he with he
    injection he with h1 h2 h3
    subst h1; subst h2; subst h3
    have hc23 : Try.prog.cellsOf 23 = 64 := by kernel_rfl
    have one : ∀ i, i < l0 → ∃ m, Sec m ∧ w.cells? base (ad.add (i * 64)) 64 = some (bys m).toList := by
      intro i hi
      have hg := hget i hi
      rw [hc23, List.getElem?_eq_getElem (by omega)] at hg
      obtain ⟨cs, h1, h2⟩ := Option.bind_eq_some_iff.1 hg
      obtain ⟨m, hm, rfl⟩ := sec_cells h2
      exact ⟨m, hm, h1⟩
    have all : ∀ k, k ≤ l0 → ∃ L : List (List Nat), L.length = k ∧ ∀ i, i < k → Sec (L.getD i []) ∧ w.cells? base (ad.add (i * 64)) 64 = some (bys (L.getD i [])).toList := by
      intro k
      induction k with
      | zero => exact fun _ => ⟨[], rfl, fun i hi => absurd hi (Nat.not_lt_zero _)⟩
      | succ k ih =>
        intro hk
        obtain ⟨L, hL, h1⟩ := ih (by omega)
        obtain ⟨m, hm, h2⟩ := one k (by omega)
        refine ⟨L ++ [m], by simp [hL], fun i hi => ?_⟩
        by_cases hik : i < k
        · rw [List.getD_eq_getElem?_getD, List.getElem?_append_left (by omega), ← List.getD_eq_getElem?_getD]
          exact h1 i hik
        · obtain rfl : i = k := by omega
          rw [List.getD_eq_getElem?_getD, List.getElem?_append_right (by omega), hL]
          simpa using ⟨hm, h2⟩
    obtain ⟨L, hL, hA⟩ := all l0 (Nat.le_refl _)
    have hS : Secs L := fun l hl => by
      obtain ⟨i, hi, rfl⟩ := List.getElem_of_mem hl
      have := (hA i (by omega)).1
      rwa [List.getD_eq_getElem?_getD, List.getElem?_eq_getElem hi] at this
    refine ⟨some ad, l0, c0, L, rfl, ⟨hL, by simp only [maxLen] at hcm; omega, fun _ => ⟨ad, rfl, fun j q hq => ?_⟩⟩, hS, hlc, by simpa [maxLen] using hcm⟩
    obtain ⟨hj, rfl⟩ := List.getElem?_eq_some_iff.1 hq
    have hlen : L[j].length = 64 := (hS _ (List.getElem_mem hj)).len
    obtain ⟨_, hc⟩ := hA j (by omega)
    rw [List.getD_eq_getElem?_getD, List.getElem?_eq_getElem hj, Option.getD_some] at hc
    have hcell := (World.cells?_some hc).2
    refine ⟨(bys L[j]).toList, by rw [bys_len]; exact hlen, seK_mk hlen, fun i u hu => ?_⟩
    have hi : i < 64 := by
      have := (List.getElem?_eq_some_iff.1 hu).1
      rwa [bys_len, hlen] at this
    have := hcell.2 i hi
    rw [← Ss.add_add, show seK.sz = 64 from rfl, this]
    exact hu
end Go.Proofs.Ytonjgbcibjnpoaa.Oq
