/- looks: both are looked at. -/
import Derived.Test.YtdmcbfmpnakdfaaZ6
namespace Go.Proofs.Ytdmcbfmpnakdfaa.Eng.Rm
open Go Go.Proofs
set_option maxRecDepth 20000
set_option maxHeartbeats 8000000
abbrev lkH (M : Mem) (lg : Lg) (mk : Mk) (D : Img) (dh lh : Option Sl) (R : List (Nat × Obj)) : LHp :=
  [some (memB M lg mk), imB M.seen, imB M.dur, logB M lg, none, refS M.n (hS D dh 10) (hS M.log lh 11) (mk.sv 9) M.fails M.hurt, some (famB R), some (famB R), none, none, hB D dh, hB M.log lh]
theorem read_any (M : Mem) (lg : Lg) (mk : Mk) (i : Int) (hn : 0 < M.n) : FunT Try.prog 33 [mpv, iv i] (hMs M lg mk) (.tup [secV (if ioE M i = 0 then getI M.seen i else zs 64), iv (ioE M i)]) (hMs M lg mk) := by
  by_cases h0 : ioE M i = 0
  · rw [if_pos h0, h0]; exact read_ok M lg mk i hn h0
  · rw [if_neg h0]
    have hI := io_ok M lg mk i hn
    generalize ioE M i = e at hI h0
    cases lg <;> cases mk <;>
    · refine FunT.ev tabOk mixed Try.func33 rfl ?_
      conv => whnf
      repeat (first | (refine ⟨(by kernel_rfl : chkR _ _ _ _ = true), ?_⟩; conv => whnf) | (refine EvOr.go ?_; conv => whnf))
      refine CallG.use hI c86 [0, 1, 2, 3, 4] [] ?_ ?_ ?_ ?_ ?_ ?_; rfl; rfl; kernel_rfl; rfl; rfl
      conv => whnf
      repeat (first | (refine ⟨(by kernel_rfl : chkR _ _ _ _ = true), ?_⟩; conv => whnf) | (refine EvOr.go ?_; conv => whnf))
      intro c hc
      obtain rfl : c = true := by rw [hc]; simp [h0]
      conv => whnf
      repeat (first | (refine ⟨(by kernel_rfl : chkR _ _ _ _ = true), ?_⟩; conv => whnf) | (refine EvOr.go ?_; conv => whnf))
      exact retQ.all tabOk _ [secV (zs 64), iv e] rfl (by first | exact .inr rfl | exact .inl rfl) (by repeat' (first | exact trivial | rfl | (intro h; cases h; done) | (refine ⟨?_, ?_⟩))) rfl (by rfl) (Nat.le_of_ble_eq_true rfl) (by rfl)
theorem look_any (M : Mem) (lg : Lg) (mk : Mk) (i : Int) (hn : 0 < M.n) : FunT Try.prog 39 [mpv, iv i] (hMd M lg mk) (.tup [secV (if mayE M i = 0 then getI M.dur i else zs 64), iv (mayE M i)]) (hMd M lg mk) := by
  by_cases h0 : mayE M i = 0
  · rw [if_pos h0, h0]; exact look_ok M lg mk i hn h0
  · rw [if_neg h0]
    have hI := Eng.may_ok M lg mk i hn
    generalize mayE M i = e at hI h0
    cases lg <;> cases mk <;>
    · refine FunT.ev tabOk mixed Try.func39 rfl ?_
      conv => whnf
      repeat (first | (refine ⟨(by kernel_rfl : chkR _ _ _ _ = true), ?_⟩; conv => whnf) | (refine EvOr.go ?_; conv => whnf))
      refine CallG.use hI c95 [0, 1, 2, 3, 4] [] ?_ ?_ ?_ ?_ ?_ ?_; rfl; rfl; kernel_rfl; rfl; rfl
      conv => whnf
      repeat (first | (refine ⟨(by kernel_rfl : chkR _ _ _ _ = true), ?_⟩; conv => whnf) | (refine EvOr.go ?_; conv => whnf))
      intro c hc
      obtain rfl : c = true := by rw [hc]; simp [h0]
      conv => whnf
      repeat (first | (refine ⟨(by kernel_rfl : chkR _ _ _ _ = true), ?_⟩; conv => whnf) | (refine EvOr.go ?_; conv => whnf))
      exact retQ.all tabOk _ [secV (zs 64), iv e] rfl (by first | exact .inr rfl | exact .inl rfl) (by repeat' (first | exact trivial | rfl | (intro h; cases h; done) | (refine ⟨?_, ?_⟩))) rfl (by rfl) (Nat.le_of_ble_eq_true rfl) (by rfl)
theorem looks_ok (M : Mem) (lg : Lg) (mk : Mk) (D : Img) (dh lh : Option Sl) (R : List (Nat × Obj)) (i : Int) (hlg : lg.ok M.log) (hn : 0 < M.n) (hd : hOk R D dh) (hl : hOk R M.log lh) (hb : D.length < 2 ^ 29) (hb2 : M.log.length < 2 ^ 29)
    (hs : bysN 64 (getI M.seen i) = bysN 64 (seenE D M.log i)) (hu : bysN 64 (getI M.dur i) = bysN 64 (findE D i).1) :
    FunT Try.prog 42 [mpv, .sc (.ptr 5 0 6 0), iv i] (lkH M lg mk D dh lh R) (bv true) (lkH M lg mk D dh lh R) := by
  have gR := read_any M lg mk i hn
  have gL := look_any M lg mk i hn
  have gT := touched_ok M lg mk hn
  have gU := unflushed_ok M lg mk hlg hn
  have gN := len_ok M lg mk hn
  have xR := xread_ok M.n D M.log dh lh mk M.fails M.hurt R i hd hl (by omega) (by omega)
  have xL := xlook_ok M.n D M.log dh lh mk M.fails M.hurt R i hd (by omega)
  have e1 : ioR M.n M.fails i = ioE M i := io_eq M i
  have e2 : (if mayB M.n i then (0 : Int) else 2) = mayE M i := may_eq M i
  have e3 : (if mayB M.n i then (findE D i).1 else zs 64) = if mayE M i = 0 then (findE D i).1 else zs 64 := by
    cases hm : mayB M.n i with
    | true => rw [← e2, hm]; rfl
    | false => rw [← e2, hm]; rfl
  rw [e2, e3] at xL
  rw [e1] at xR
  have q1 : bysN 64 (if ioE M i = 0 then getI M.seen i else zs 64) = bysN 64 (if ioE M i = 0 then seenE D M.log i else zs 64) := by
    split
    · exact hs
    · rfl
  have q2 : bysN 64 (if mayE M i = 0 then getI M.dur i else zs 64) = bysN 64 (if mayE M i = 0 then (findE D i).1 else zs 64) := by
    split
    · exact hu
    · rfl
  generalize (if ioE M i = 0 then getI M.seen i else zs 64) = s1 at *
  generalize (if ioE M i = 0 then seenE D M.log i else zs 64) = s2 at *
  generalize (if mayE M i = 0 then getI M.dur i else zs 64) = s3 at *
  generalize (if mayE M i = 0 then (findE D i).1 else zs 64) = s4 at *
  generalize ioE M i = ie at *
  generalize mayE M i = me at *
  have hll : ∀ s, lh = some s → s.n = M.log.length := fun s h => by
    subst h
    rcases hl with ⟨h1, h2⟩ | ⟨_, b, off, cap, c, t', fr, pre, post, h1, _⟩
    · injection h1 with _ h3 _
      rw [h3, h2]; rfl
    · injection h1 with _ h3 _
  clear e1 e2 e3 hs hu hd hl
  obtain ⟨Mn, Ms, Md, Ml, Mf, Mh⟩ := M
  replace hll : ∀ s, lh = some s → s.n = Ml.length := hll
  cases Mh <;> cases lg <;> cases mk <;> cases dh <;> cases lh <;>
  · refine FunT.ev tabOk mixed Try.func42 rfl ?_
    conv => whnf
    repeat (first | (refine ⟨(by kernel_rfl : chkR _ _ _ _ = true), ?_⟩; conv => whnf) | (refine EvOr.go ?_; conv => whnf))
    refine CallG.use gR c33 [0, 1, 2, 3, 4] [] ?_ ?_ ?_ ?_ ?_ ?_; rfl; rfl; kernel_rfl; rfl; rfl
    conv => whnf
    repeat (first | (refine ⟨(by kernel_rfl : chkR _ _ _ _ = true), ?_⟩; conv => whnf) | (refine EvOr.go ?_; conv => whnf))
    refine CallG.use xR c103 [5, 6, 7, 9, 10, 11] [] ?_ ?_ ?_ ?_ ?_ ?_; rfl; rfl; kernel_rfl; rfl; rfl
    conv => whnf
    repeat (first | (refine ⟨(by kernel_rfl : chkR _ _ _ _ = true), ?_⟩; conv => whnf) | (refine EvOr.go ?_; conv => whnf))
    refine CallG.use gL c39 [0, 1, 2, 3, 4] [] ?_ ?_ ?_ ?_ ?_ ?_; rfl; rfl; kernel_rfl; rfl; rfl
    conv => whnf
    repeat (first | (refine ⟨(by kernel_rfl : chkR _ _ _ _ = true), ?_⟩; conv => whnf) | (refine EvOr.go ?_; conv => whnf))
    refine CallG.use xL c104 [5, 6, 7, 9, 10, 11] [] ?_ ?_ ?_ ?_ ?_ ?_; rfl; rfl; kernel_rfl; rfl; rfl
    conv => whnf
    repeat (first | (refine ⟨(by kernel_rfl : chkR _ _ _ _ = true), ?_⟩; conv => whnf) | (refine EvOr.go ?_; conv => whnf))
    refine ⟨rfl, ?_⟩
    refine ⟨eq34, ?_⟩
    conv => whnf
    repeat (first | (refine ⟨(by kernel_rfl : chkR _ _ _ _ = true), ?_⟩; conv => whnf) | (refine EvOr.go ?_; conv => whnf))
    intro c hc
    obtain rfl : c = true := hc.2 q1
    conv => whnf
    repeat (first | (refine ⟨(by kernel_rfl : chkR _ _ _ _ = true), ?_⟩; conv => whnf) | (refine EvOr.go ?_; conv => whnf))
    intro c hc
    obtain rfl : c = true := by rw [hc]; exact decide_eq_true rfl
    conv => whnf
    repeat (first | (refine ⟨(by kernel_rfl : chkR _ _ _ _ = true), ?_⟩; conv => whnf) | (refine EvOr.go ?_; conv => whnf))
    refine ⟨rfl, ?_⟩
    refine ⟨eq34, ?_⟩
    conv => whnf
    repeat (first | (refine ⟨(by kernel_rfl : chkR _ _ _ _ = true), ?_⟩; conv => whnf) | (refine EvOr.go ?_; conv => whnf))
    intro c hc
    obtain rfl : c = true := hc.2 q2
    conv => whnf
    repeat (first | (refine ⟨(by kernel_rfl : chkR _ _ _ _ = true), ?_⟩; conv => whnf) | (refine EvOr.go ?_; conv => whnf))
    intro c hc
    obtain rfl : c = true := by rw [hc]; exact decide_eq_true rfl
    conv => whnf
    repeat (first | (refine ⟨(by kernel_rfl : chkR _ _ _ _ = true), ?_⟩; conv => whnf) | (refine EvOr.go ?_; conv => whnf))
    refine CallG.use gT c35 [0, 1, 2, 3, 4] [] ?_ ?_ ?_ ?_ ?_ ?_; rfl; rfl; kernel_rfl; rfl; rfl
    conv => whnf
    repeat (first | (refine ⟨(by kernel_rfl : chkR _ _ _ _ = true), ?_⟩; conv => whnf) | (refine EvOr.go ?_; conv => whnf))
    refine CallG.use gU c30 [0, 1, 2, 3, 4] [] ?_ ?_ ?_ ?_ ?_ ?_; rfl; rfl; kernel_rfl; rfl; rfl
    conv => whnf
    repeat (first | (refine ⟨(by kernel_rfl : chkR _ _ _ _ = true), ?_⟩; conv => whnf) | (refine EvOr.go ?_; conv => whnf))
    intro c hc
    obtain rfl : c = true := by rw [hc]; first | exact decide_eq_true rfl | exact decide_eq_true (by rw [hll _ rfl])
    conv => whnf
    repeat (first | (refine ⟨(by kernel_rfl : chkR _ _ _ _ = true), ?_⟩; conv => whnf) | (refine EvOr.go ?_; conv => whnf))
    refine CallG.use gN c49 [0, 1, 2, 3, 4] [] ?_ ?_ ?_ ?_ ?_ ?_; rfl; rfl; kernel_rfl; rfl; rfl
    conv => whnf
    repeat (first | (refine ⟨(by kernel_rfl : chkR _ _ _ _ = true), ?_⟩; conv => whnf) | (refine EvOr.go ?_; conv => whnf))
    intro c hc
    obtain rfl : c = true := by rw [hc]; exact decide_eq_true rfl
    conv => whnf
    repeat (first | (refine ⟨(by kernel_rfl : chkR _ _ _ _ = true), ?_⟩; conv => whnf) | (refine EvOr.go ?_; conv => whnf))
    exact retQ.one rfl (.inr rfl) rfl (Nat.le_of_ble_eq_true rfl) rfl
end Go.Proofs.Ytdmcbfmpnakdfaa.Eng.Rm
