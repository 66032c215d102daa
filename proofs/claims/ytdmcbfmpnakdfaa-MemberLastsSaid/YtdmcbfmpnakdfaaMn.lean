/- MemberLasts: from the flush to the second put. -/
import Derived.Test.YtdmcbfmpnakdfaaMm
namespace Go.Proofs.Ytdmcbfmpnakdfaa.Eng
open Go Go.Proofs
set_option maxRecDepth 20000
set_option maxHeartbeats 4000000
abbrev lasB0 (b c : Ar) (bl : List ActV) (pk : List Int) (M : Mem) : LHp :=
  [none, arB b bl, pkB c pk, some (memG M .nil .nil 4 5 6 7), imB M.seen, imB M.dur, none, none]
def lasI4 (b c : Ar) (bl : List ActV) (pk : List Int) (M3 W : Mem) (k : Nat) : LTm × LHp :=
  ([.junk, .sc (b.sv bl.length 1), .sc (pkS c pk 2), .junk, .junk, .junk, .junk, .sc (.ptr 3 0 7 0), .junk, .sc (.ptr 8 0 7 0), iv (k : Nat), .junk, .junk, .junk, .junk, .junk, .junk, .junk, .junk, .junk, .junk, .junk, .junk, .junk, .junk, .junk, .junk, .junk, .junk, .junk, .junk, .junk, .junk, .junk, .junk, .junk, .junk, .junk, .junk, .junk, .junk, .junk, .junk, .junk, .junk, .junk, .junk, .junk, .junk, .junk, .junk, .junk, .junk, .junk, .junk, .junk, .junk, .junk, .junk, .junk, .junk, .junk, .junk, .junk, .junk, .junk, .junk, .junk, .junk, .junk, .junk, .junk, .junk, .junk, .junk, .junk, .junk, .junk, .junk, .junk, .junk, .junk, .junk, .junk, .junk, .junk, .junk, .junk, .junk, .junk, .junk, .junk, .junk, .junk, .junk, .junk, .junk, .junk, .junk, .junk, .junk, .junk, .junk, .junk, .junk, .junk, .junk, .junk, .junk, .junk, .junk, .junk, .junk, .junk, .junk, .junk, .junk, .junk, .junk, .junk, .junk, .junk, .junk, .junk, .junk, .junk, .junk, .junk, .junk, .junk, .junk, .junk, .junk, .junk, .junk, .junk, .junk, .junk, .junk, .junk, .junk, .junk, .junk, .junk, .junk, .junk, .junk, .junk, .junk, .junk, .junk, .junk, .junk, .junk, .junk, .junk, .junk, .junk, .junk, .junk, .junk, .junk, .junk, .junk, .junk, .junk, .junk, .junk, .junk, .junk, .junk, .junk, .junk, .junk, .junk],
   lasB0 b c bl pk M3 ++ [some (memG W .nil .nil 9 10 11 12), imB W.seen, none, none, none])
theorem lasB (b c : Ar) (bl : List ActV) (pk : List Int) (M : Mem) (hb : b.ok bl) (hc : c.ok pk) (hbl : bl.length ≤ 20) (hM : M.n = 6 ∧ M.fails = false ∧ M.hurt = false) (hl : M.log = []) (hk : NK M.dur) (hd : M.seen = M.dur) :
    CodeT Try.prog 3 (suf 6 (bodyC Try.f5)) ([.junk, .sc (b.sv bl.length 1), .sc (pkS c pk 2), .junk, .junk, .junk, .junk, .sc (.ptr 3 0 7 0), .junk, .junk, .junk, .junk, .junk, .junk, .junk, .junk, .junk, .junk, .junk, .junk, .junk, .junk, .junk, .junk, .junk, .junk, .junk, .junk, .junk, .junk, .junk, .junk, .junk, .junk, .junk, .junk, .junk, .junk, .junk, .junk, .junk, .junk, .junk, .junk, .junk, .junk, .junk, .junk, .junk, .junk, .junk, .junk, .junk, .junk, .junk, .junk, .junk, .junk, .junk, .junk, .junk, .junk, .junk, .junk, .junk, .junk, .junk, .junk, .junk, .junk, .junk, .junk, .junk, .junk, .junk, .junk, .junk, .junk, .junk, .junk, .junk, .junk, .junk, .junk, .junk, .junk, .junk, .junk, .junk, .junk, .junk, .junk, .junk, .junk, .junk, .junk, .junk, .junk, .junk, .junk, .junk, .junk, .junk, .junk, .junk, .junk, .junk, .junk, .junk, .junk, .junk, .junk, .junk, .junk, .junk, .junk, .junk, .junk, .junk, .junk, .junk, .junk, .junk, .junk, .junk, .junk, .junk, .junk, .junk, .junk, .junk, .junk, .junk, .junk, .junk, .junk, .junk, .junk, .junk, .junk, .junk, .junk, .junk, .junk, .junk, .junk, .junk, .junk, .junk, .junk, .junk, .junk, .junk, .junk, .junk, .junk, .junk, .junk, .junk, .junk, .junk, .junk, .junk, .junk, .junk, .junk, .junk, .junk, .junk, .junk, .junk, .junk, .junk, .junk, .junk]) (lasB0 b c bl pk M) (retQ Try.prog Try.f5 3 (bv true) [none, none, none]) := by
  have hn : 0 < M.n := by rw [hM.1]; decide
  have hok : Lg.nil.ok M.log := hl
  obtain ⟨M3, hM3⟩ : ∃ A, A = crashed M (picked pk) := ⟨_, rfl⟩
  have m3 : M3.n = 6 ∧ M3.fails = false ∧ M3.hurt = false := by rw [hM3]; exact hM
  have l3 : M3.log = [] := by rw [hM3]
  have d3 : M3.dur = M.dur := by rw [hM3]; show kept M.dur M.log _ M.log.length = _; rw [hl]; rfl
  have s3 : M3.seen = M.dur := by rw [hM3]; show kept M.dur M.log _ M.log.length = _; rw [hl]; rfl
  obtain ⟨M4, hM4⟩ : ∃ A, A = putA M3 bl := ⟨_, rfl⟩
  have l4 : M4.log = bl.map acW := by rw [hM4, putA_log, l3]; rfl
  have d4 : M4.dur = M3.dur := by rw [hM4, putA_dur]
  have m4 : M4.n = 6 ∧ M4.fails = false ∧ M4.hurt = false := by rw [hM4, putA_n, putA_fails, putA_hurt]; exact m3
  have gC := copy_ok M .nil hok hn (by rw [hl]; decide)
  have gX := crash_ok M M3 .nil .nil c pk hM3 hok hc hn (by rw [hl]; decide)
  have gP := puts_ok M3 .nil .nil b bl l3 hb m3.1 m3.2.1 (by rw [l3]; show 0 + _ < _; omega)
  rw [← hM4] at gP
  have gW := fun (i : Nat) (hi : i < 6) => read_ok M .nil .nil i hn (io_6 hM.1 hM.2.1 hi)
  have gR := fun (i : Nat) (hi : i < 6) => reads_ok M3 .nil .nil i (getI M.seen i) (by rw [m3.1]; decide) (io_6 m3.1 m3.2.1 hi) true ⟨fun _ => by rw [s3, hd], fun _ => rfl⟩
  have gS := lasC b c bl pk M4 M (lgAt .nil bl.length) hb hc hbl m4 l4 rfl ⟨hM.1, hM.2.1⟩ (by rw [d4, d3]; exact hk)
    (by rw [hM4, putA_seen M3 bl allPick (fun _ _ => rfl), putA_log, putA_dur, l3, s3, d3]; simp) (fun i => by rw [d4, d3, hd])
  obtain ⟨I, hI⟩ : ∃ I, I = lasI4 b c bl pk M3 M := ⟨_, rfl⟩
  clear hM3 hM4 l4 d3 s3 m4 hk
  cases b <;> cases c <;> cases bl <;>
  · refine evC_sound tabOk mixed _ _ _ _ ?_
    conv => whnf
    repeat (first | (refine ⟨(by kernel_rfl : chkR _ _ _ _ = true), ?_⟩; conv => whnf) | (refine EvOr.go ?_; conv => whnf))
    refine CallG.use gC c31 [3, 4, 5, 6, 7] [] ?_ ?_ ?_ ?_ ?_ ?_; rfl; rfl; kernel_rfl; rfl; rfl
    conv => whnf
    repeat (first | (refine ⟨(by kernel_rfl : chkR _ _ _ _ = true), ?_⟩; conv => whnf) | (refine EvOr.go ?_; conv => whnf))
    refine CallG.use gX c32 [3, 4, 5, 6, 7, 2] [0, 1, 2, 3] ?_ ?_ ?_ ?_ ?_ ?_; rfl; rfl; kernel_rfl; rfl; rfl
    conv => whnf
    repeat (first | (refine ⟨(by kernel_rfl : chkR _ _ _ _ = true), ?_⟩; conv => whnf) | (refine EvOr.go ?_; conv => whnf))
    refine CodeT.loopN tabOk mixed I 6 _ (StW.ofP [0, 1, 2, 3, 13, 5, 6, 7, 8, 9, 10, 11, 12] ?_ ?_ ?_) (fun k => by subst hI; rfl) ?_
    · subst hI; kernel_rfl
    · subst hI; rfl
    · subst hI; rfl
    intro k hkl
    subst hI
    conv => whnf
    repeat (first | (refine ⟨(by kernel_rfl : chkR _ _ _ _ = true), ?_⟩; conv => whnf) | (refine EvOr.go ?_; conv => whnf))
    intro c hc
    by_cases hk : k < 6
    · obtain rfl : c = true := by rw [hc]; exact decide_eq_true (by omega)
      conv => whnf
      repeat (first | (refine ⟨(by kernel_rfl : chkR _ _ _ _ = true), ?_⟩; conv => whnf) | (refine EvOr.go ?_; conv => whnf))
      refine CallG.use (gW k hk) c33 [8, 9, 10, 11, 12] [] ?_ ?_ ?_ ?_ ?_ ?_; rfl; rfl; kernel_rfl; rfl; rfl
      conv => whnf
      repeat (first | (refine ⟨(by kernel_rfl : chkR _ _ _ _ = true), ?_⟩; conv => whnf) | (refine EvOr.go ?_; conv => whnf))
      refine CallG.use (gR k hk) c34 [3, 4, 5, 6, 7] [] ?_ ?_ ?_ ?_ ?_ ?_; rfl; rfl; kernel_rfl; rfl; rfl
      conv => whnf
      repeat (first | (refine ⟨(by kernel_rfl : chkR _ _ _ _ = true), ?_⟩; conv => whnf) | (refine EvOr.go ?_; conv => whnf))
      refine ⟨_, inc_nat (by omega), ?_⟩
      conv => whnf
      repeat (first | (refine ⟨(by kernel_rfl : chkR _ _ _ _ = true), ?_⟩; conv => whnf) | (refine EvOr.go ?_; conv => whnf))
      refine ⟨by first | exact hk | omega, _, StW.ofP [] ?_ ?_ ?_⟩
      · kernel_rfl
      · rfl
      · rfl
    · obtain rfl : c = false := by rw [hc]; exact decide_eq_false (by omega)
      conv => whnf
      repeat (first | (refine ⟨(by kernel_rfl : chkR _ _ _ _ = true), ?_⟩; conv => whnf) | (refine EvOr.go ?_; conv => whnf))
      refine CallG.use gP c28 [3, 4, 5, 6, 7, 1] [0, 1, 3] ?_ ?_ ?_ ?_ ?_ ?_; rfl; rfl; kernel_rfl; rfl; rfl
      conv => whnf
      repeat (refine ⟨(by kernel_rfl : chkR _ _ _ _ = true), ?_⟩; conv => whnf)
      refine EvOr.cut (CodeT.weaken _ (StW.ofP [0, 1, 2, 3, 4, 5, 13, 7, 8, 9, 10, 11, 12] ?_ ?_ ?_) gS)
      · kernel_rfl
      · rfl
      · dsimp only [lasC0]
        rw [d4]
        rfl
end Go.Proofs.Ytdmcbfmpnakdfaa.Eng
