/- A member: Write, Unflushed, New. -/
import Derived.Test.YtdmcbfmpnakdfaaMe
namespace Go.Proofs.Ytdmcbfmpnakdfaa.Eng
open Go Go.Proofs
set_option maxRecDepth 20000
set_option maxHeartbeats 4000000
abbrev wrote (M : Mem) (i : Int) (s : List Nat) : Mem := { M with seen := putI M.seen i s, log := M.log ++ [(i, s)] }
abbrev hMw (M : Mem) (lg : Lg) (mk : Mk) : LHp := [some (memB M lg mk), imB M.seen, none, logB M lg, none]
theorem write_ok (M : Mem) (lg : Lg) (mk : Mk) (i : Int) (s : List Nat) (hlg : lg.ok M.log) (hn : 0 < M.n) (h0 : ioE M i = 0) (hb : M.log.length < 2 ^ 32) :
    FunT Try.prog 38 [mpv, iv i, secV s] (hMw M lg mk) (iv 0) [some (memG (wrote M i s) (.inx []) mk 1 2 5 4), imB (putI M.seen i s), none, none, none, logB (wrote M i s) (.inx [])] := by
  have hI := io_ok M lg mk i hn
  have hP := put_ok M.seen i s
  rw [h0] at hI
  obtain ⟨Mn, Ms, Md, Ml, Mf, Mh⟩ := M
  cases lg with
  | nil =>
    obtain rfl : Ml = [] := hlg
    cases mk <;>
    · refine FunT.ev tabOk mixed Try.func38 rfl ?_
      conv => whnf
      repeat (first | (refine ⟨(by kernel_rfl : chkR _ _ _ _ = true), ?_⟩; conv => whnf) | (refine EvOr.go ?_; conv => whnf))
      refine CallG.use hI c86 [0, 1, 2, 3, 4] [] ?_ ?_ ?_ ?_ ?_ ?_; rfl; rfl; kernel_rfl; rfl; rfl
      conv => whnf
      repeat (first | (refine ⟨(by kernel_rfl : chkR _ _ _ _ = true), ?_⟩; conv => whnf) | (refine EvOr.go ?_; conv => whnf))
      intro c hc
      obtain rfl : c = false := by rw [hc]; rfl
      conv => whnf
      repeat (first | (refine ⟨(by kernel_rfl : chkR _ _ _ _ = true), ?_⟩; conv => whnf) | (refine EvOr.go ?_; conv => whnf))
      refine CallG.use hP c94 [1] [0] ?_ ?_ ?_ ?_ ?_ ?_; rfl; rfl; kernel_rfl; rfl; rfl
      conv => whnf
      repeat (first | (refine ⟨(by kernel_rfl : chkR _ _ _ _ = true), ?_⟩; conv => whnf) | (refine EvOr.go ?_; conv => whnf))
      refine ⟨Nat.le_refl _, ?_⟩
      conv => whnf
      repeat (first | (refine ⟨(by kernel_rfl : chkR _ _ _ _ = true), ?_⟩; conv => whnf) | (refine EvOr.go ?_; conv => whnf))
      refine ⟨fun h => absurd h (by decide), fun _ => ⟨by decide, ?_⟩⟩
      conv => whnf
      repeat (first | (refine ⟨(by kernel_rfl : chkR _ _ _ _ = true), ?_⟩; conv => whnf) | (refine EvOr.go ?_; conv => whnf))
      exact retQ.oneS [0, 1, 2, 3, 4, 7] rfl (by first | exact .inr rfl | exact .inl rfl) rfl (by kernel_rfl) (by first | rfl | kernel_rfl)
  | ex =>
    obtain rfl : Ml = [] := hlg
    cases mk <;>
    · refine FunT.ev tabOk mixed Try.func38 rfl ?_
      conv => whnf
      repeat (first | (refine ⟨(by kernel_rfl : chkR _ _ _ _ = true), ?_⟩; conv => whnf) | (refine EvOr.go ?_; conv => whnf))
      refine CallG.use hI c86 [0, 1, 2, 3, 4] [] ?_ ?_ ?_ ?_ ?_ ?_; rfl; rfl; kernel_rfl; rfl; rfl
      conv => whnf
      repeat (first | (refine ⟨(by kernel_rfl : chkR _ _ _ _ = true), ?_⟩; conv => whnf) | (refine EvOr.go ?_; conv => whnf))
      intro c hc
      obtain rfl : c = false := by rw [hc]; rfl
      conv => whnf
      repeat (first | (refine ⟨(by kernel_rfl : chkR _ _ _ _ = true), ?_⟩; conv => whnf) | (refine EvOr.go ?_; conv => whnf))
      refine CallG.use hP c94 [1] [0] ?_ ?_ ?_ ?_ ?_ ?_; rfl; rfl; kernel_rfl; rfl; rfl
      conv => whnf
      repeat (first | (refine ⟨(by kernel_rfl : chkR _ _ _ _ = true), ?_⟩; conv => whnf) | (refine EvOr.go ?_; conv => whnf))
      refine ⟨Nat.le_refl _, ?_⟩
      conv => whnf
      repeat (first | (refine ⟨(by kernel_rfl : chkR _ _ _ _ = true), ?_⟩; conv => whnf) | (refine EvOr.go ?_; conv => whnf))
      refine ⟨rfl, ?_⟩
      conv => whnf
      repeat (first | (refine ⟨(by kernel_rfl : chkR _ _ _ _ = true), ?_⟩; conv => whnf) | (refine EvOr.go ?_; conv => whnf))
      refine ⟨fun h => absurd h (by decide), fun _ => ⟨⟨by decide, by decide⟩, ?_⟩⟩
      conv => whnf
      repeat (first | (refine ⟨(by kernel_rfl : chkR _ _ _ _ = true), ?_⟩; conv => whnf) | (refine EvOr.go ?_; conv => whnf))
      exact retQ.oneS [0, 1, 2, 3, 4, 7] rfl (by first | exact .inr rfl | exact .inl rfl) rfl (by kernel_rfl) (by first | rfl | kernel_rfl)
  | inx J =>
    have hb : Ml.length < 2 ^ 32 := hb
    have e1 : List.take Ml.length (List.drop 0 (Ml.map encW ++ J)) ++ [encW (i, s)] = (Ml ++ [(i, s)]).map encW ++ [] := by
      rw [List.drop_zero, List.take_left' (by simp)]; simp
    have e2 : memG (wrote ⟨Mn, Ms, Md, Ml, Mf, Mh⟩ i s) (.inx []) mk 1 2 5 4 = .row .one 77 7 [[.one (.raw (.int .i64 Mn)), .one (.mp 1), .one (.mp 2), .one (.sl 5 0 65 (Ml.length + 1) none), .one (mk.sv 4), .one (.raw (.bool Mf)), .one (.raw (.bool Mh))]] (1 :: 2 :: 5 :: ((mk.sv 4).ids ++ [])) := by
      have : (Ml ++ [(i, s)]).length = Ml.length + 1 := by simp
      unfold memG memSegs
      simp only [this, Lg.sv]
      rfl
    have e3 : logB (wrote ⟨Mn, Ms, Md, Ml, Mf, Mh⟩ i s) (.inx []) = some (.row .inx 127 65 (List.take Ml.length (List.drop 0 (Ml.map encW ++ J)) ++ [encW (i, s)]) []) := by rw [e1]; rfl
    rw [e2, e3]
    cases mk <;>
    · refine FunT.ev tabOk mixed Try.func38 rfl ?_
      conv => whnf
      repeat (first | (refine ⟨(by kernel_rfl : chkR _ _ _ _ = true), ?_⟩; conv => whnf) | (refine EvOr.go ?_; conv => whnf))
      refine CallG.use hI c86 [0, 1, 2, 3, 4] [] ?_ ?_ ?_ ?_ ?_ ?_; rfl; rfl; kernel_rfl; rfl; rfl
      conv => whnf
      repeat (first | (refine ⟨(by kernel_rfl : chkR _ _ _ _ = true), ?_⟩; conv => whnf) | (refine EvOr.go ?_; conv => whnf))
      intro c hc
      obtain rfl : c = false := by rw [hc]; rfl
      conv => whnf
      repeat (first | (refine ⟨(by kernel_rfl : chkR _ _ _ _ = true), ?_⟩; conv => whnf) | (refine EvOr.go ?_; conv => whnf))
      refine CallG.use hP c94 [1] [0] ?_ ?_ ?_ ?_ ?_ ?_; rfl; rfl; kernel_rfl; rfl; rfl
      conv => whnf
      repeat (first | (refine ⟨(by kernel_rfl : chkR _ _ _ _ = true), ?_⟩; conv => whnf) | (refine EvOr.go ?_; conv => whnf))
      refine ⟨Nat.le_refl _, ?_⟩
      conv => whnf
      repeat (first | (refine ⟨(by kernel_rfl : chkR _ _ _ _ = true), ?_⟩; conv => whnf) | (refine EvOr.go ?_; conv => whnf))
      refine ⟨by show 0 + Ml.length ≤ (Ml.map encW ++ J).length; simp, fun h => absurd h (by decide), fun _ => ⟨by show (2 * (Ml.length + 1) + 192) * 72 ≤ _; omega, ?_⟩⟩
      conv => whnf
      repeat (first | (refine ⟨(by kernel_rfl : chkR _ _ _ _ = true), ?_⟩; conv => whnf) | (refine EvOr.go ?_; conv => whnf))
      exact retQ.oneS [0, 1, 2, 3, 4, 7] rfl (by first | exact .inr rfl | exact .inl rfl) rfl (by kernel_rfl) (by first | rfl | kernel_rfl)
end Go.Proofs.Ytdmcbfmpnakdfaa.Eng
