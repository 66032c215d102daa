/- MemberLasts, walked. -/
import Derived.Test.YtdmcbfmpnakdfaaMn
namespace Go.Proofs.Ytdmcbfmpnakdfaa.Eng
open Go Go.Proofs
set_option maxRecDepth 20000
set_option maxHeartbeats 4000000
theorem flush_to (M M' : Mem) (lg : Lg) (mk : Mk) (hM : M' = crashed M allPick) (hlg : lg.ok M.log) (hn : 0 < M.n) (hf : M.fails = false) (hb : M.log.length < 2 ^ 62) :
    FunT Try.prog 29 [mpv] (hM4 M lg mk) (iv 0) [some (memG M' .nil mk 5 2 3 4), none, imB M'.dur, none, none, imB M'.seen] := by
  subst hM; exact flush_ok M lg mk hlg hn hf hb
theorem lasts_ok (a b c : Ar) (al bl : List ActV) (pk : List Int) (ha : a.ok al) (hb : b.ok bl) (hc : c.ok pk) :
    FunT Try.prog 5 [.sc (a.sv al.length 0), .sc (b.sv bl.length 1), .sc (pkS c pk 2)] [arB a al, arB b bl, pkB c pk] (bv true) [none, none, none] := by
  have gZ := awake_ok
  have gN := new_ok 6 (by decide) (by decide)
  obtain ⟨M0, hM0⟩ : ∃ A, A = newM 6 := ⟨_, rfl⟩
  obtain ⟨M1, hM1⟩ : ∃ A, A = putA M0 al := ⟨_, rfl⟩
  obtain ⟨M2, hM2⟩ : ∃ A, A = crashed M1 allPick := ⟨_, rfl⟩
  have l1 : M1.log = al.map acW := by rw [hM1, putA_log, hM0]; rfl
  have m1 : M1.n = 6 ∧ M1.fails = false ∧ M1.hurt = false := by rw [hM1, putA_n, putA_fails, putA_hurt, hM0]; exact ⟨rfl, rfl, rfl⟩
  have hok : (lgAt .nil al.length).ok M1.log := by
    rw [l1]
    cases al
    · rfl
    · trivial
  have n1 : 0 < M1.n := by rw [m1.1]; decide
  have d0 : M1.dur = M0.dur := by rw [hM1, putA_dur]
  have nk : NK M2.dur := by
    rw [hM2]
    refine NK_kept ?_ _ _
    rw [d0, hM0]; exact List.nodup_nil
  have gP := fun hal2 : al.length ≤ 20 => puts_ok M0 .nil .nil a al (by rw [hM0]; rfl) ha (by rw [hM0]) (by rw [hM0]) (by rw [hM0]; show 0 + _ < _; omega)
  rw [← hM1] at gP
  have gF := fun hal2 : al.length ≤ 20 => flush_to M1 M2 (lgAt .nil al.length) .nil hM2 hok n1 m1.2.1 (by rw [l1, List.length_map]; omega)
  have gU := unflushed_ok M2 .nil .nil (by rw [hM2]; rfl) (by rw [hM2]; exact n1)
  have e2 : M2.log.length = 0 := by rw [hM2]; rfl
  rw [e2] at gU
  have gB := fun h => lasB b c bl pk M2 hb hc h (by rw [hM2]; exact m1) (by rw [hM2]) nk (by rw [hM2])
  rw [← hM0] at gN
  have e0 : M0.seen = [] ∧ M0.dur = [] := by rw [hM0]; exact ⟨rfl, rfl⟩
  rw [show imB [] = imB M0.seen by rw [e0.1]] at gN
  clear hM0 hM1 hM2 l1 e2 nk hok
  obtain ⟨zn, zs, zd, zl, zf, zh⟩ := M0
  obtain ⟨yn, ys, yd, yl, yf, yh⟩ := M1
  obtain ⟨rfl, rfl⟩ : zs = [] ∧ zd = [] := e0
  have d0 : yd = [] := d0
  subst d0
  have hal : ∀ n : Nat, false = decide ((n : Int) > 20) → n ≤ 20 := fun n h => by simp at h; omega
  cases a <;> cases b <;> cases c <;> cases al <;>
  · refine FunT.ev tabOk mixed Try.func5 rfl ?_
    conv => whnf
    repeat (first | (refine ⟨(by kernel_rfl : chkR _ _ _ _ = true), ?_⟩; conv => whnf) | (refine EvOr.go ?_; conv => whnf))
    intro c1 hc1
    cases c1
    · conv => whnf
      repeat (first | (refine ⟨(by kernel_rfl : chkR _ _ _ _ = true), ?_⟩; conv => whnf) | (refine EvOr.go ?_; conv => whnf))
      intro c2 hc2
      cases c2
      · conv => whnf
        repeat (first | (refine ⟨(by kernel_rfl : chkR _ _ _ _ = true), ?_⟩; conv => whnf) | (refine EvOr.go ?_; conv => whnf))
        refine CallG.use gN c27 [] [] ?_ ?_ ?_ ?_ ?_ ?_; rfl; rfl; kernel_rfl; rfl; rfl
        conv => whnf
        repeat (first | (refine ⟨(by kernel_rfl : chkR _ _ _ _ = true), ?_⟩; conv => whnf) | (refine EvOr.go ?_; conv => whnf))
        intro c hc
        obtain rfl : c = false := by rw [hc]; rfl
        conv => whnf
        repeat (first | (refine ⟨(by kernel_rfl : chkR _ _ _ _ = true), ?_⟩; conv => whnf) | (refine EvOr.go ?_; conv => whnf))
        refine CallG.use (gP (by first | exact hal _ hc1 | exact Nat.zero_le _ | exact absurd ha (by simp [Ar.ok]))) c28 [3, 4, 5, 6, 7, 0] [0, 1] ?_ ?_ ?_ ?_ ?_ ?_; rfl; rfl; kernel_rfl; rfl; rfl
        conv => whnf
        repeat (first | (refine ⟨(by kernel_rfl : chkR _ _ _ _ = true), ?_⟩; conv => whnf) | (refine EvOr.go ?_; conv => whnf))
        refine CallG.use (gF (by first | exact hal _ hc1 | exact Nat.zero_le _ | exact absurd ha (by simp [Ar.ok]))) c29 [3, 4, 5, 8, 7] [0, 1, 2, 3] ?_ ?_ ?_ ?_ ?_ ?_; rfl; rfl; kernel_rfl; rfl; rfl
        conv => whnf
        repeat (first | (refine ⟨(by kernel_rfl : chkR _ _ _ _ = true), ?_⟩; conv => whnf) | (refine EvOr.go ?_; conv => whnf))
        intro c hc
        obtain rfl : c = false := by rw [hc]; rfl
        conv => whnf
        repeat (first | (refine ⟨(by kernel_rfl : chkR _ _ _ _ = true), ?_⟩; conv => whnf) | (refine EvOr.go ?_; conv => whnf))
        refine CallG.use gU c30 [3, 9, 5, 8, 7] [] ?_ ?_ ?_ ?_ ?_ ?_; rfl; rfl; kernel_rfl; rfl; rfl
        conv => whnf
        repeat (first | (refine ⟨(by kernel_rfl : chkR _ _ _ _ = true), ?_⟩; conv => whnf) | (refine EvOr.go ?_; conv => whnf))
        intro c hc
        obtain rfl : c = false := by rw [hc]; rfl
        conv => whnf
        refine ⟨(by kernel_rfl : chkR _ _ _ _ = true), ?_⟩
        conv => whnf
        refine EvOr.go ?_
        conv => whnf
        refine EvOr.cut (CodeT.weaken _ (StW.ofP [0, 1, 2, 3, 9, 5, 6, 7] ?_ ?_ ?_) (gB (by first | (rw [show bl = [] from hb]; exact Nat.zero_le _) | (simp at hc2; omega))))
        · kernel_rfl
        · rfl
        · rfl
      · conv => whnf
        repeat (first | (refine ⟨(by kernel_rfl : chkR _ _ _ _ = true), ?_⟩; conv => whnf) | (refine EvOr.go ?_; conv => whnf))
        refine CallG.use gZ c26 [] [] ?_ ?_ ?_ ?_ ?_ ?_; rfl; rfl; kernel_rfl; rfl; rfl
        conv => whnf
        repeat (first | (refine ⟨(by kernel_rfl : chkR _ _ _ _ = true), ?_⟩; conv => whnf) | (refine EvOr.go ?_; conv => whnf))
        exact retQ.one rfl (.inr rfl) rfl (Nat.le_of_ble_eq_true rfl) rfl
    · conv => whnf
      repeat (first | (refine ⟨(by kernel_rfl : chkR _ _ _ _ = true), ?_⟩; conv => whnf) | (refine EvOr.go ?_; conv => whnf))
      refine CallG.use gZ c26 [] [] ?_ ?_ ?_ ?_ ?_ ?_; rfl; rfl; kernel_rfl; rfl; rfl
      conv => whnf
      repeat (first | (refine ⟨(by kernel_rfl : chkR _ _ _ _ = true), ?_⟩; conv => whnf) | (refine EvOr.go ?_; conv => whnf))
      exact retQ.one rfl (.inr rfl) rfl (Nat.le_of_ble_eq_true rfl) rfl
end Go.Proofs.Ytdmcbfmpnakdfaa.Eng
