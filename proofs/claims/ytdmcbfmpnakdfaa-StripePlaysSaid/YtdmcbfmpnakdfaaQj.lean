/- Fix: its contract. -/
import Derived.Test.YtdmcbfmpnakdfaaQi
namespace Go.Proofs.Ytdmcbfmpnakdfaa.Eng
open Go Go.Proofs Go.Proofs.Ytdmcbfmpnakdfaa.Gf
set_option maxRecDepth 20000
set_option maxHeartbeats 4000000
theorem compUp_rise (d : Array Int) (hd : ∀ i, i + 1 < d.size → d[i]! ≤ d[i + 1]!) : ∀ m, m ≤ d.size → (Lib.compactUpTo d m).Pairwise (· < ·) ∧ (0 < m → ∀ x ∈ Lib.compactUpTo d m, x ≤ d[m - 1]!)
  | 0, _ => ⟨by simp [Lib.compactUpTo], fun h => absurd h (by decide)⟩
  | m + 1, hm => by
    obtain ⟨h1, h2⟩ := compUp_rise d hd m (by omega)
    rw [Lib.compactUpTo_succ]
    by_cases h0 : m = 0
    · subst h0
      rw [Lib.keeps_lt_one d 0 (by decide), if_pos rfl]
      have e : Lib.compactUpTo d 0 = [] := by simp [Lib.compactUpTo]
      rw [e]
      exact ⟨by simp, fun _ x hx => by simp at hx; rw [hx]; exact Int.le_refl _⟩
    · have hle := hd (m - 1) (by omega)
      rw [show m - 1 + 1 = m by omega] at hle
      have h2 := h2 (by omega)
      by_cases hk : d[m]! = d[m - 1]!
      · rw [Lib.keeps_neg (by omega) hk, if_neg (by decide), List.append_nil]
        refine ⟨h1, fun _ x hx => ?_⟩
        have := h2 x hx
        show x ≤ d[m]!
        omega
      · rw [Lib.keeps_pos hk, if_pos rfl]
        refine ⟨List.pairwise_append.2 ⟨h1, by simp, fun a ha b hb => ?_⟩, fun _ x hx => ?_⟩
        · rw [List.mem_singleton.1 hb]
          have := h2 a ha
          omega
        · show x ≤ d[m]!
          rcases List.mem_append.1 hx with hx | hx
          · have := h2 x hx; omega
          · rw [List.mem_singleton.1 hx]; exact Int.le_refl _
theorem unl_rise (zs : List Int) : (unl zs).Pairwise (· < ·) := by
  have hs := sortZ_pair zs
  unfold unl compZ Lib.compact
  refine (compUp_rise (sortZ zs).toArray (fun i hi => ?_) (sortZ zs).length (by simp)).1
  have hi' : i + 1 < (sortZ zs).length := by simpa using hi
  have := List.pairwise_iff_getElem.1 hs i (i + 1) (by omega) hi' (by omega)
  simpa [getElem!_pos, hi', show i < (sortZ zs).length by omega] using this
theorem two_of (N : Nat) (l : List Int) (hr : l.Pairwise (· < ·)) (h : fixE N l = 0) : l = kz (l.map Int.toNat) ∧ Two (l.map Int.toNat) N := by
  have hl : l.length ≤ 2 ∧ (0 < l.length → 0 ≤ l.getD 0 0 ∧ l.getD (l.length - 1) 0 < (N : Int)) := by
    unfold fixE at h
    by_cases h3 : N < 3
    · rw [if_pos h3] at h; cases h
    rw [if_neg h3] at h
    by_cases h4 : 0 < l.length ∧ (l.getD 0 0 < 0 ∨ (N : Int) ≤ l.getD (l.length - 1) 0)
    · rw [if_pos h4] at h; cases h
    rw [if_neg h4] at h
    by_cases h5 : 64 < N
    · rw [if_pos h5] at h; cases h
    rw [if_neg h5] at h
    by_cases h6 : 2 < l.length
    · rw [if_pos h6] at h; cases h
    exact ⟨by omega, fun h0 => by omega⟩
  obtain ⟨h2, h1⟩ := hl
  match l, hr, h2, h1 with
  | [], _, _, _ => exact ⟨rfl, .inl rfl⟩
  | [a], _, _, h1 =>
    have := h1 (by simp)
    simp at this
    exact ⟨by simp <;> omega, .inr (.inl ⟨a.toNat, rfl, by omega⟩)⟩
  | [a, b], hr, _, h1 =>
    have := h1 (by simp)
    simp at this
    have hab : a < b := by simpa using hr
    exact ⟨by simp <;> omega, .inr (.inr ⟨a.toNat, b.toNat, rfl, by omega, by omega⟩)⟩
  | _ :: _ :: _ :: _, _, h2, _ => exact absurd h2 (by simp)
theorem sub2 (N : Nat) (h : N < 2 ^ 32) : arithI .sub .i64 (N : Int) 2 = some ((N : Int) - 2) := sub_nat (m := 2) (by omega) (by decide)
theorem fix_nil (L : List (List Nat)) (N : Nat) (co : Option Nat) (hL : L.length = N) (hS : Secs L) (hN : N < 2 ^ 32) :
    FunT Try.prog 17 [.sc (.sl 0 0 64 N co), .sc nilS] [rowS L, none] (fixV L N [] 2) [rowS L, none, fixB L N []] := by
  have gS := fixC L N co none .nil [] (.inl rfl) rfl hL hS hN (by decide) (two_of N [] List.Pairwise.nil)
  have e0 := sub2 N hN
  cases co <;>
  · refine FunT.ev tabOk mixed Try.func17 rfl ?_
    conv => whnf
    repeat (first | (refine ⟨(by kernel_rfl : chkR _ _ _ _ = true), ?_⟩; conv => whnf) | (refine EvOr.go ?_; conv => whnf))
    refine ⟨_, e0, ?_⟩
    conv => whnf
    repeat (first | (refine ⟨(by kernel_rfl : chkR _ _ _ _ = true), ?_⟩; conv => whnf) | (refine EvOr.go ?_; conv => whnf))
    refine CallG.use unlike_nil c71 [] [] ?_ ?_ ?_ ?_ ?_ ?_; rfl; rfl; kernel_rfl; rfl; rfl
    conv => whnf
    repeat (refine ⟨(by kernel_rfl : chkR _ _ _ _ = true), ?_⟩; conv => whnf)
    refine EvOr.cut (CodeT.weaken _ (StW.ofP [0, 1, 2, 3] ?_ ?_ ?_) gS)
    · kernel_rfl
    · rfl
    · rfl
theorem fix_0 (L : List (List Nat)) (N : Nat) (co c2 : Option Nat) (hL : L.length = N) (hS : Secs L) (hN : N < 2 ^ 32) :
    FunT Try.prog 17 [.sc (.sl 0 0 64 N co), .sc (.sl 1 0 1 0 c2)] [rowS L, rowRI []] (fixV L N [] 2) [rowS L, rowRI [], fixB L N []] := by
  have gS := fixC L N co (rowRI []) .ex [] (.inr ⟨_, rfl⟩) rfl hL hS hN (by decide) (two_of N [] List.Pairwise.nil)
  have g1 := unlike_0 c2
  have e0 := sub2 N hN
  cases co <;> cases c2 <;>
  · refine FunT.ev tabOk mixed Try.func17 rfl ?_
    conv => whnf
    repeat (first | (refine ⟨(by kernel_rfl : chkR _ _ _ _ = true), ?_⟩; conv => whnf) | (refine EvOr.go ?_; conv => whnf))
    refine ⟨_, e0, ?_⟩
    conv => whnf
    repeat (first | (refine ⟨(by kernel_rfl : chkR _ _ _ _ = true), ?_⟩; conv => whnf) | (refine EvOr.go ?_; conv => whnf))
    refine CallG.use g1 c71 [1] [] ?_ ?_ ?_ ?_ ?_ ?_; rfl; rfl; kernel_rfl; rfl; rfl
    conv => whnf
    repeat (refine ⟨(by kernel_rfl : chkR _ _ _ _ = true), ?_⟩; conv => whnf)
    refine EvOr.cut (CodeT.weaken _ (StW.ofP [0, 1, 2, 3] ?_ ?_ ?_) gS)
    · kernel_rfl
    · rfl
    · rfl
theorem fix_row (L : List (List Nat)) (N : Nat) (co c2 : Option Nat) (zs : List Int) (hL : L.length = N) (hS : Secs L) (hN : N < 2 ^ 32) (h0 : 0 < zs.length) (hb : zs.length < 2 ^ 32) :
    FunT Try.prog 17 [.sc (.sl 0 0 64 N co), .sc (.sl 1 0 1 zs.length c2)] [rowS L, rowRI zs] (fixV L N (unl zs) 2) [rowS L, rowRI zs, fixB L N (unl zs)] := by
  have gS := fixC L N co (rowRI zs) (.row (junkU zs)) (unl zs) (.inr ⟨_, rfl⟩) trivial hL hS hN (by have := unl_le zs; omega) (two_of N (unl zs) (unl_rise zs))
  have g1 := unlike_row zs c2 h0 hb
  have e0 := sub2 N hN
  generalize unl zs = l at *
  cases co <;> cases c2 <;>
  · refine FunT.ev tabOk mixed Try.func17 rfl ?_
    conv => whnf
    repeat (first | (refine ⟨(by kernel_rfl : chkR _ _ _ _ = true), ?_⟩; conv => whnf) | (refine EvOr.go ?_; conv => whnf))
    refine ⟨_, e0, ?_⟩
    conv => whnf
    repeat (first | (refine ⟨(by kernel_rfl : chkR _ _ _ _ = true), ?_⟩; conv => whnf) | (refine EvOr.go ?_; conv => whnf))
    refine CallG.use g1 c71 [1] [] ?_ ?_ ?_ ?_ ?_ ?_; rfl; rfl; kernel_rfl; rfl; rfl
    conv => whnf
    repeat (refine ⟨(by kernel_rfl : chkR _ _ _ _ = true), ?_⟩; conv => whnf)
    refine EvOr.cut (CodeT.weaken _ (StW.ofP [0, 1, 2, 3] ?_ ?_ ?_) gS)
    · kernel_rfl
    · rfl
    · rfl
end Go.Proofs.Ytdmcbfmpnakdfaa.Eng
