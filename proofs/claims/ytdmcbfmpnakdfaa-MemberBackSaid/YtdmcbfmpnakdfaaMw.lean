/- MemberBack, walked from its end. -/
import Derived.Test.YtdmcbfmpnakdfaaMv
namespace Go.Proofs.Ytdmcbfmpnakdfaa.Eng
open Go Go.Proofs
set_option maxRecDepth 20000
set_option maxHeartbeats 4000000
abbrev bacH (M W : Mem) (lg lw : Lg) : LHp :=
  [some (memG M lg (.row 1) 5 6 7 8), imB M.seen, imB M.dur, logB M lg, mkR 14, some (memG W lw .nil 10 11 12 13), imB W.seen, none, none, none, imB W.seen]
def bacI3 (M W : Mem) (lw : Lg) (k : Nat) : LTm × LHp :=
  ([.junk, .junk, .junk, .junk, .junk, .sc (.ptr 4 0 7 0), .junk, .junk, .sc (.ptr 9 0 7 0), .junk, .junk, .junk, iv (k : Nat), .junk, .junk, .junk, .junk, .junk, .junk, .junk, .junk, .junk, .junk, .junk, .junk, .junk, .junk, .junk, .junk, .junk, .junk, .junk, .junk, .junk, .junk, .junk, .junk, .junk, .junk, .junk, .junk, .junk, .junk, .junk, .junk, .junk, .junk, .junk, .junk, .junk, .junk, .junk, .junk, .junk, .junk, .junk, .junk, .junk, .junk, .junk, .junk, .junk, .junk, .junk, .junk, .junk, .junk, .junk, .junk, .junk, .junk, .junk, .junk, .junk, .junk, .junk, .junk, .junk, .junk, .junk, .junk, .junk, .junk, .junk, .junk, .junk, .junk, .junk, .junk, .junk, .junk, .junk, .junk, .junk, .junk, .junk, .junk, .junk, .junk, .junk, .junk, .junk, .junk, .junk, .junk, .junk, .junk, .junk, .junk, .junk, .junk, .junk, .junk, .junk, .junk, .junk], [none, none, none, none, some (memG M .nil (.row 1) 5 6 7 8), imB M.seen, imB M.dur, none, none, some (memG W lw .nil 10 11 12 13), imB W.seen, none, none, none, none])
theorem bac8 (M W : Mem) (lg lw : Lg) (hM : M.n = 6 ∧ M.fails = false) (hW : W.n = 6 ∧ W.fails = false) :
    CodeT Try.prog 4 (suf 8 (bodyC Try.f8)) ([.junk, .junk, .junk, .junk, .junk, .sc (.ptr 4 0 7 0), .junk, .junk, .sc (.ptr 9 0 7 0), iv 0, iv 0, .junk, .junk, .junk, .junk, .junk, .junk, .junk, .junk, .junk, .junk, .junk, .junk, .junk, .junk, .junk, .junk, .junk, .junk, .junk, .junk, .junk, .junk, .junk, .junk, .junk, .junk, .junk, .junk, .junk, .junk, .junk, .junk, .junk, .junk, .junk, .junk, .junk, .junk, .junk, .junk, .junk, .junk, .junk, .junk, .junk, .junk, .junk, .junk, .junk, .junk, .junk, .junk, .junk, .junk, .junk, .junk, .junk, .junk, .junk, .junk, .junk, .junk, .junk, .junk, .junk, .junk, .junk, .junk, .junk, .junk, .junk, .junk, .junk, .junk, .junk, .junk, .junk, .junk, .junk, .junk, .junk, .junk, .junk, .junk, .junk, .junk, .junk, .junk, .junk, .junk, .junk, .junk, .junk, .junk, .junk, .junk, .junk, .junk, .junk, .junk, .junk, .junk, .junk, .junk, .junk]) ([none, none, none, none] ++ bacH M W lg lw) (retQ Try.prog Try.f8 4 (bv true) [none, none, none, none]) := by
  obtain ⟨M2, hM2⟩ : ∃ A : Mem, A = backM M W.seen := ⟨_, rfl⟩
  have gB := back_to M M2 lg W.seen hM2 (by omega)
  have n2 : M2.n = 6 := by rw [hM2]; exact hM.1
  have f2 : M2.fails = false := by rw [hM2]; exact hM.2
  have gU := unflushed_ok M2 .nil (.row 1) (by rw [hM2]; rfl) (by omega)
  rw [show M2.log.length = 0 by rw [hM2]; rfl] at gU
  have gT := touched_ok M2 .nil (.row 1) (by omega)
  rw [show M2.hurt = true by rw [hM2]; rfl] at gT
  have gR := fun (k : Nat) (hk : k < 6) => read_ok W lw .nil k (by omega) (io_six hW.1 hW.2 hk)
  have gL := fun (k : Nat) (hk : k < 6) => look_ok M2 .nil (.row 1) k (by omega) (may_six n2 hk)
  have gS := fun (k : Nat) (hk : k < 6) => reads_ok M2 .nil (.row 1) k (getI W.seen k) (by omega) (io_six n2 f2 hk) true ⟨fun _ => by rw [hM2]; rfl, fun _ => rfl⟩
  have d2 : M2.dur = W.seen ∧ M2.seen = W.seen := by rw [hM2]; exact ⟨rfl, rfl⟩
  have gZ := awake_ok
  clear hM2
  obtain ⟨Nn, Ns, Nd, Nl, Nf, Nh⟩ := M2
  obtain ⟨rfl, rfl⟩ : Nd = W.seen ∧ Ns = W.seen := d2
  obtain ⟨I, hI⟩ : ∃ I, I = bacI3 ⟨Nn, W.seen, W.seen, Nl, Nf, Nh⟩ W lw := ⟨_, rfl⟩
  cases lg <;> cases lw <;>
  · refine evC_sound tabOk mixed _ _ _ _ ?_
    conv => whnf
    repeat (first | (refine ⟨(by kernel_rfl : chkR _ _ _ _ = true), ?_⟩; conv => whnf) | (refine EvOr.go ?_; conv => whnf))
    intro c hc
    obtain rfl : c = false := by rw [hc]; rfl
    conv => whnf
    repeat (first | (refine ⟨(by kernel_rfl : chkR _ _ _ _ = true), ?_⟩; conv => whnf) | (refine EvOr.go ?_; conv => whnf))
    refine CallG.use gB c44 [4, 5, 6, 7, 8, 14] [0] ?_ ?_ ?_ ?_ ?_ ?_; rfl; rfl; kernel_rfl; rfl; rfl
    conv => whnf
    repeat (first | (refine ⟨(by kernel_rfl : chkR _ _ _ _ = true), ?_⟩; conv => whnf) | (refine EvOr.go ?_; conv => whnf))
    intro c hc
    obtain rfl : c = false := by rw [hc]; rfl
    conv => whnf
    repeat (first | (refine ⟨(by kernel_rfl : chkR _ _ _ _ = true), ?_⟩; conv => whnf) | (refine EvOr.go ?_; conv => whnf))
    refine CallG.use gU c30 [4, 15, 16, 7, 8] [] ?_ ?_ ?_ ?_ ?_ ?_; rfl; rfl; kernel_rfl; rfl; rfl
    conv => whnf
    repeat (first | (refine ⟨(by kernel_rfl : chkR _ _ _ _ = true), ?_⟩; conv => whnf) | (refine EvOr.go ?_; conv => whnf))
    intro c hc
    obtain rfl : c = false := by rw [hc]; rfl
    conv => whnf
    repeat (first | (refine ⟨(by kernel_rfl : chkR _ _ _ _ = true), ?_⟩; conv => whnf) | (refine EvOr.go ?_; conv => whnf))
    refine CallG.use gT c35 [4, 15, 16, 7, 8] [] ?_ ?_ ?_ ?_ ?_ ?_; rfl; rfl; kernel_rfl; rfl; rfl
    conv => whnf
    repeat (first | (refine ⟨(by kernel_rfl : chkR _ _ _ _ = true), ?_⟩; conv => whnf) | (refine EvOr.go ?_; conv => whnf))
    refine CodeT.loopN tabOk mixed I 6 _ (StW.ofP [0, 1, 2, 3, 4, 15, 16, 7, 8, 9, 10, 11, 12, 13] ?_ ?_ ?_) (fun k => by subst hI; rfl) ?_
    · subst hI; kernel_rfl
    · subst hI; rfl
    · subst hI; rfl
    intro k hkl
    subst hI
    conv => whnf
    repeat (first | (refine ⟨(by kernel_rfl : chkR _ _ _ _ = true), ?_⟩; conv => whnf) | (refine EvOr.go ?_; conv => whnf))
    intro c hc
    by_cases hk : k < 6
    · obtain rfl : c = true := by rw [hc]; exact decide_eq_true (by omega)
      conv => whnf
      repeat (first | (refine ⟨(by kernel_rfl : chkR _ _ _ _ = true), ?_⟩; conv => whnf) | (refine EvOr.go ?_; conv => whnf))
      refine CallG.use (gR k hk) c33 [9, 10, 11, 12, 13] [] ?_ ?_ ?_ ?_ ?_ ?_; rfl; rfl; kernel_rfl; rfl; rfl
      conv => whnf
      repeat (first | (refine ⟨(by kernel_rfl : chkR _ _ _ _ = true), ?_⟩; conv => whnf) | (refine EvOr.go ?_; conv => whnf))
      refine CallG.use (gL k hk) c39 [4, 5, 6, 7, 8] [] ?_ ?_ ?_ ?_ ?_ ?_; rfl; rfl; kernel_rfl; rfl; rfl
      conv => whnf
      repeat (first | (refine ⟨(by kernel_rfl : chkR _ _ _ _ = true), ?_⟩; conv => whnf) | (refine EvOr.go ?_; conv => whnf))
      intro c hc
      obtain rfl : c = false := by rw [hc]; rfl
      conv => whnf
      repeat (first | (refine ⟨(by kernel_rfl : chkR _ _ _ _ = true), ?_⟩; conv => whnf) | (refine EvOr.go ?_; conv => whnf))
      refine ⟨rfl, ?_⟩
      refine ⟨eq34, ?_⟩
      conv => whnf
      repeat (first | (refine ⟨(by kernel_rfl : chkR _ _ _ _ = true), ?_⟩; conv => whnf) | (refine EvOr.go ?_; conv => whnf))
      intro c hc
      obtain rfl : c = false := by
        cases c
        · rfl
        · exact absurd rfl (hc.1 rfl)
      conv => whnf
      repeat (first | (refine ⟨(by kernel_rfl : chkR _ _ _ _ = true), ?_⟩; conv => whnf) | (refine EvOr.go ?_; conv => whnf))
      refine CallG.use (gS k hk) c34 [4, 5, 6, 7, 8] [] ?_ ?_ ?_ ?_ ?_ ?_; rfl; rfl; kernel_rfl; rfl; rfl
      conv => whnf
      repeat (first | (refine ⟨(by kernel_rfl : chkR _ _ _ _ = true), ?_⟩; conv => whnf) | (refine EvOr.go ?_; conv => whnf))
      refine ⟨_, inc_nat (by omega), ?_⟩
      conv => whnf
      repeat (first | (refine ⟨(by kernel_rfl : chkR _ _ _ _ = true), ?_⟩; conv => whnf) | (refine EvOr.go ?_; conv => whnf))
      refine ⟨by first | exact hk | omega, _, StW.ofP [] ?_ ?_ ?_⟩
      · kernel_rfl
      · rfl
      · rfl
    · obtain rfl : c = false := by rw [hc]; exact decide_eq_false (by omega)
      conv => whnf
      repeat (first | (refine ⟨(by kernel_rfl : chkR _ _ _ _ = true), ?_⟩; conv => whnf) | (refine EvOr.go ?_; conv => whnf))
      refine CallG.use gZ c26 [] [] ?_ ?_ ?_ ?_ ?_ ?_; rfl; rfl; kernel_rfl; rfl; rfl
      conv => whnf
      repeat (first | (refine ⟨(by kernel_rfl : chkR _ _ _ _ = true), ?_⟩; conv => whnf) | (refine EvOr.go ?_; conv => whnf))
      exact retQ.one rfl (.inr rfl) rfl (Nat.le_of_ble_eq_true rfl) rfl
end Go.Proofs.Ytdmcbfmpnakdfaa.Eng
