/- A member: Flush, Crash. -/
import Derived.Test.YtdmcbfmpnakdfaaMd
namespace Go.Proofs.Ytdmcbfmpnakdfaa.Eng
open Go Go.Proofs
set_option maxRecDepth 20000
set_option maxHeartbeats 4000000
/-- Flush: where it does not fail; where it does. -/
theorem flush_ok (M : Mem) (lg : Lg) (mk : Mk) (hlg : lg.ok M.log) (hn : 0 < M.n) (hf : M.fails = false) (hb : M.log.length < 2 ^ 62) :
    FunT Try.prog 29 [mpv] (hM4 M lg mk) (iv 0) [cB M mk allPick 5, none, cD M allPick, none, none, cD M allPick] := by
  have hI := io_ok M lg mk 0 hn
  have h0 : ioE M 0 = 0 := by unfold ioE; rw [if_neg (by omega), hf]; rfl
  have hS := settleF M lg mk hlg hb
  rw [h0] at hI
  obtain ⟨Mn, Ms, Md, Ml, Mf, Mh⟩ := M
  cases lg <;> cases mk <;>
  · refine FunT.ev tabOk mixed Try.func29 rfl ?_
    conv => whnf
    repeat (first | (refine ⟨(by kernel_rfl : chkR _ _ _ _ = true), ?_⟩; conv => whnf) | (refine EvOr.go ?_; conv => whnf))
    refine CallG.use hI c86 [0, 1, 2, 3, 4] [] ?_ ?_ ?_ ?_ ?_ ?_; rfl; rfl; kernel_rfl; rfl; rfl
    conv => whnf
    repeat (first | (refine ⟨(by kernel_rfl : chkR _ _ _ _ = true), ?_⟩; conv => whnf) | (refine EvOr.go ?_; conv => whnf))
    intro c hc
    obtain rfl : c = false := by rw [hc]; rfl
    conv => whnf
    repeat (first | (refine ⟨(by kernel_rfl : chkR _ _ _ _ = true), ?_⟩; conv => whnf) | (refine EvOr.go ?_; conv => whnf))
    refine CallG.use hS c87 [0, 1, 2, 3, 4] [0, 1, 2, 3] ?_ ?_ ?_ ?_ ?_ ?_; rfl; rfl; kernel_rfl; rfl; rfl
    conv => whnf
    repeat (first | (refine ⟨(by kernel_rfl : chkR _ _ _ _ = true), ?_⟩; conv => whnf) | (refine EvOr.go ?_; conv => whnf))
    exact retQ.one rfl (.inr rfl) rfl (Nat.le_of_ble_eq_true rfl) rfl
theorem flush_err (M : Mem) (lg : Lg) (mk : Mk) (hn : 0 < M.n) (hf : M.fails = true) : FunT Try.prog 29 [mpv] (hM M lg mk) (iv 10) (hM M lg mk) := by
  have hI := io_ok M lg mk 0 hn
  have h0 : ioE M 0 = 10 := by unfold ioE; rw [if_neg (by omega), hf]; rfl
  rw [h0] at hI
  obtain ⟨Mn, Ms, Md, Ml, Mf, Mh⟩ := M
  cases lg <;> cases mk <;>
  · refine FunT.ev tabOk mixed Try.func29 rfl ?_
    conv => whnf
    repeat (first | (refine ⟨(by kernel_rfl : chkR _ _ _ _ = true), ?_⟩; conv => whnf) | (refine EvOr.go ?_; conv => whnf))
    refine CallG.use hI c86 [0, 1, 2, 3, 4] [] ?_ ?_ ?_ ?_ ?_ ?_; rfl; rfl; kernel_rfl; rfl; rfl
    conv => whnf
    repeat (first | (refine ⟨(by kernel_rfl : chkR _ _ _ _ = true), ?_⟩; conv => whnf) | (refine EvOr.go ?_; conv => whnf))
    intro c hc
    obtain rfl : c = true := by rw [hc]; rfl
    conv => whnf
    repeat (first | (refine ⟨(by kernel_rfl : chkR _ _ _ _ = true), ?_⟩; conv => whnf) | (refine EvOr.go ?_; conv => whnf))
    exact retQ.one rfl (.inr rfl) rfl (Nat.le_of_ble_eq_true rfl) rfl
/-- Crash: with picks; with none. -/
theorem crashR_ok (M : Mem) (lg : Lg) (mk : Mk) (pk : List Int) (hlg : lg.ok M.log) (hn : 0 < M.n) (hb : M.log.length < 2 ^ 62) :
    FunT Try.prog 32 [mpv, .sc (.sl 5 0 1 pk.length none)] (hM4 M lg mk ++ [pkR pk]) (iv 0) [cB M mk (picked pk) 6, none, cD M (picked pk), none, none, pkR pk, cD M (picked pk)] := by
  have hI := is_ok M lg mk hn
  have hS := settleR M lg mk pk hlg hb
  obtain ⟨Mn, Ms, Md, Ml, Mf, Mh⟩ := M
  cases lg <;> cases mk <;>
  · refine FunT.ev tabOk mixed Try.func32 rfl ?_
    conv => whnf
    repeat (first | (refine ⟨(by kernel_rfl : chkR _ _ _ _ = true), ?_⟩; conv => whnf) | (refine EvOr.go ?_; conv => whnf))
    refine CallG.use hI c89 [0, 1, 2, 3, 4] [] ?_ ?_ ?_ ?_ ?_ ?_; rfl; rfl; kernel_rfl; rfl; rfl
    conv => whnf
    repeat (first | (refine ⟨(by kernel_rfl : chkR _ _ _ _ = true), ?_⟩; conv => whnf) | (refine EvOr.go ?_; conv => whnf))
    refine CallG.use hS c87 [0, 1, 2, 3, 4, 6, 5] [0, 1, 2, 3] ?_ ?_ ?_ ?_ ?_ ?_; rfl; rfl; kernel_rfl; rfl; rfl
    conv => whnf
    repeat (first | (refine ⟨(by kernel_rfl : chkR _ _ _ _ = true), ?_⟩; conv => whnf) | (refine EvOr.go ?_; conv => whnf))
    exact retQ.oneS [0, 1, 2, 3, 4, 5, 7] rfl (by first | exact .inr rfl | exact .inl rfl) rfl (by kernel_rfl) (by first | rfl | kernel_rfl)
theorem crashN_ok (M : Mem) (lg : Lg) (mk : Mk) (ad : Option Addr) (cp : Nat) (hlg : lg.ok M.log) (hn : 0 < M.n) (hb : M.log.length < 2 ^ 62) :
    FunT Try.prog 32 [mpv, .sc (.raw (.slice ad 0 cp))] (hM4 M lg mk) (iv 0) [cB M mk noPick 5, none, cD M noPick, none, none, cD M noPick] := by
  have hI := is_ok M lg mk hn
  have hS := settleN M lg mk ad cp hlg hb
  obtain ⟨Mn, Ms, Md, Ml, Mf, Mh⟩ := M
  cases lg <;> cases mk <;>
  · refine FunT.ev tabOk mixed Try.func32 rfl ?_
    conv => whnf
    repeat (first | (refine ⟨(by kernel_rfl : chkR _ _ _ _ = true), ?_⟩; conv => whnf) | (refine EvOr.go ?_; conv => whnf))
    refine CallG.use hI c89 [0, 1, 2, 3, 4] [] ?_ ?_ ?_ ?_ ?_ ?_; rfl; rfl; kernel_rfl; rfl; rfl
    conv => whnf
    repeat (first | (refine ⟨(by kernel_rfl : chkR _ _ _ _ = true), ?_⟩; conv => whnf) | (refine EvOr.go ?_; conv => whnf))
    refine CallG.use hS c87 [0, 1, 2, 3, 4, 5] [0, 1, 2, 3] ?_ ?_ ?_ ?_ ?_ ?_; rfl; rfl; kernel_rfl; rfl; rfl
    conv => whnf
    repeat (first | (refine ⟨(by kernel_rfl : chkR _ _ _ _ = true), ?_⟩; conv => whnf) | (refine EvOr.go ?_; conv => whnf))
    exact retQ.oneS [0, 1, 2, 3, 4, 6] rfl (by first | exact .inr rfl | exact .inl rfl) rfl (by kernel_rfl) (by first | rfl | kernel_rfl)
end Go.Proofs.Ytdmcbfmpnakdfaa.Eng
