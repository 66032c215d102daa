/- Members: the way back to any mark, whose map is frozen. -/
import Derived.Test.YtdmcbfmpnakdfaaMp
import Derived.Test.YtdmcbfmpnakdfaaZ1
import Derived.Test.YtdmcbfmpnakdfaaZ3
import Derived.Test.YtdmcbfmpnakdfaaMr
namespace Go.Proofs.Ytdmcbfmpnakdfaa.Eng
open Go Go.Proofs
set_option maxRecDepth 20000
set_option maxHeartbeats 8000000
abbrev mapE (b : Nat) : Segs := [.one (.raw (.map (some b)))]
abbrev mkF (B : List Nat) : Option ABlk := some (.row .inx 73 1 (B.map mapE) [])
theorem enc_noids (S : Img) : ∀ e ∈ encM S, e.1.ids ++ e.2.ids = [] := fun e he => by
  obtain ⟨p, _, rfl⟩ := List.mem_map.1 he
  rfl
theorem clone_frozen (S : Img) (b : Nat) (R : List (Nat × Obj)) (ob : Obj) (hR : (b, ob) ∈ R) (hO : MapObj ob (encM S)) : FunT Try.prog 90 [.sc (.raw (.map (some b)))] [some (famB R)] (.sc (.mp 1)) [some (famB R), imB S] := by
  refine FunT.ev tabOk mixed Try.func90 rfl ?_
  conv => whnf
  repeat (first | (refine ⟨(by kernel_rfl : chkR _ _ _ _ = true), ?_⟩; conv => whnf) | (refine EvOr.go ?_; conv => whnf))
  refine .inr (clone_raw (id := 0) rfl rfl cloneFn rfl rfl rfl hR hO (enc_noids S) ?_)
  conv => whnf
  repeat (first | (refine ⟨(by kernel_rfl : chkR _ _ _ _ = true), ?_⟩; conv => whnf) | (refine EvOr.go ?_; conv => whnf))
  exact retQ.one rfl (.inr rfl) rfl (Nat.le_of_ble_eq_true rfl) rfl
theorem back_errF (M : Mem) (lg : Lg) (B : List Nat) (i : Int) (hn : 0 < M.n) (hi : ¬ (0 ≤ i ∧ i < (B.length : Nat))) :
    FunT Try.prog 44 [mpv, iv i] (hM M lg (.row B.length)) (iv 2) (hM M lg (.row B.length)) := by
  have hI := is_ok M lg (.row B.length) hn
  by_cases h0 : i < 0
  · cases lg <;>
    · refine FunT.ev tabOk mixed Try.func44 rfl ?_
      conv => whnf
      repeat (first | (refine ⟨(by kernel_rfl : chkR _ _ _ _ = true), ?_⟩; conv => whnf) | (refine EvOr.go ?_; conv => whnf))
      refine CallG.use hI c89 [0, 1, 2, 3, 4] [] ?_ ?_ ?_ ?_ ?_ ?_; rfl; rfl; kernel_rfl; rfl; rfl
      conv => whnf
      repeat (first | (refine ⟨(by kernel_rfl : chkR _ _ _ _ = true), ?_⟩; conv => whnf) | (refine EvOr.go ?_; conv => whnf))
      intro c hc
      obtain rfl : c = true := by rw [hc]; exact decide_eq_true (by omega)
      conv => whnf
      repeat (first | (refine ⟨(by kernel_rfl : chkR _ _ _ _ = true), ?_⟩; conv => whnf) | (refine EvOr.go ?_; conv => whnf))
      exact retQ.one rfl (.inr rfl) rfl (Nat.le_of_ble_eq_true rfl) rfl
  · cases lg <;>
    · refine FunT.ev tabOk mixed Try.func44 rfl ?_
      conv => whnf
      repeat (first | (refine ⟨(by kernel_rfl : chkR _ _ _ _ = true), ?_⟩; conv => whnf) | (refine EvOr.go ?_; conv => whnf))
      refine CallG.use hI c89 [0, 1, 2, 3, 4] [] ?_ ?_ ?_ ?_ ?_ ?_; rfl; rfl; kernel_rfl; rfl; rfl
      conv => whnf
      repeat (first | (refine ⟨(by kernel_rfl : chkR _ _ _ _ = true), ?_⟩; conv => whnf) | (refine EvOr.go ?_; conv => whnf))
      intro c hc
      obtain rfl : c = false := by rw [hc]; exact decide_eq_false (by omega)
      conv => whnf
      repeat (first | (refine ⟨(by kernel_rfl : chkR _ _ _ _ = true), ?_⟩; conv => whnf) | (refine EvOr.go ?_; conv => whnf))
      intro c hc
      obtain rfl : c = true := by rw [hc]; exact decide_eq_true (by omega)
      conv => whnf
      repeat (first | (refine ⟨(by kernel_rfl : chkR _ _ _ _ = true), ?_⟩; conv => whnf) | (refine EvOr.go ?_; conv => whnf))
      exact retQ.one rfl (.inr rfl) rfl (Nat.le_of_ble_eq_true rfl) rfl
theorem back_any (M M' : Mem) (lg : Lg) (B : List Nat) (k : Nat) (hk : k < B.length) (S : Img) (R : List (Nat × Obj)) (ob : Obj) (hR : (B[k], ob) ∈ R) (hO : MapObj ob (encM S)) (hM : M' = { M with seen := S, dur := S, log := [], hurt := true }) (hn : 0 < M.n) :
    FunT Try.prog 44 [mpv, iv (k : Nat)] [some (memG M lg (.row B.length) 1 2 3 4), none, none, none, mkF B, some (famB R)] (iv 0) [some (memG M' .nil (.row B.length) 6 7 3 4), none, none, none, mkF B, some (famB R), imB S, imB S] := by
  subst hM
  have hI := is_ok M lg (.row B.length) hn
  have hg : (B.map mapE)[0 + (k : Int).toNat]? = some (mapE B[k]) := by simp [hk]
  have hC := clone_frozen S B[k] R ob hR hO
  generalize B[k] = b at *
  cases lg <;>
  · refine FunT.ev tabOk mixed Try.func44 rfl ?_
    conv => whnf
    repeat (first | (refine ⟨(by kernel_rfl : chkR _ _ _ _ = true), ?_⟩; conv => whnf) | (refine EvOr.go ?_; conv => whnf))
    refine CallG.use hI c89 [0, 1, 2, 3, 4] [] ?_ ?_ ?_ ?_ ?_ ?_; rfl; rfl; kernel_rfl; rfl; rfl
    conv => whnf
    repeat (first | (refine ⟨(by kernel_rfl : chkR _ _ _ _ = true), ?_⟩; conv => whnf) | (refine EvOr.go ?_; conv => whnf))
    intro c hc
    obtain rfl : c = false := by rw [hc]; exact decide_eq_false (by omega)
    conv => whnf
    repeat (first | (refine ⟨(by kernel_rfl : chkR _ _ _ _ = true), ?_⟩; conv => whnf) | (refine EvOr.go ?_; conv => whnf))
    intro c hc
    obtain rfl : c = false := by rw [hc]; exact decide_eq_false (by omega)
    conv => whnf
    repeat (first | (refine ⟨(by kernel_rfl : chkR _ _ _ _ = true), ?_⟩; conv => whnf) | (refine EvOr.go ?_; conv => whnf))
    refine ⟨⟨by omega, by omega⟩, ?_⟩
    conv => whnf
    repeat (first | (refine ⟨(by kernel_rfl : chkR _ _ _ _ = true), ?_⟩; conv => whnf) | (refine EvOr.go ?_; conv => whnf))
    refine ⟨_, hg, ?_⟩
    conv => whnf
    repeat (first | (refine ⟨(by kernel_rfl : chkR _ _ _ _ = true), ?_⟩; conv => whnf) | (refine EvOr.go ?_; conv => whnf))
    refine CallG.use hC c90 [5] [] ?_ ?_ ?_ ?_ ?_ ?_; rfl; rfl; kernel_rfl; rfl; rfl
    conv => whnf
    repeat (first | (refine ⟨(by kernel_rfl : chkR _ _ _ _ = true), ?_⟩; conv => whnf) | (refine EvOr.go ?_; conv => whnf))
    refine ⟨⟨by omega, by omega⟩, ?_⟩
    conv => whnf
    repeat (first | (refine ⟨(by kernel_rfl : chkR _ _ _ _ = true), ?_⟩; conv => whnf) | (refine EvOr.go ?_; conv => whnf))
    refine ⟨_, hg, ?_⟩
    conv => whnf
    repeat (first | (refine ⟨(by kernel_rfl : chkR _ _ _ _ = true), ?_⟩; conv => whnf) | (refine EvOr.go ?_; conv => whnf))
    refine CallG.use hC c90 [5] [] ?_ ?_ ?_ ?_ ?_ ?_; rfl; rfl; kernel_rfl; rfl; rfl
    conv => whnf
    repeat (first | (refine ⟨(by kernel_rfl : chkR _ _ _ _ = true), ?_⟩; conv => whnf) | (refine EvOr.go ?_; conv => whnf))
    exact retQ.oneS [0, 1, 2, 3, 4, 5, 6, 7] rfl (by first | exact .inr rfl | exact .inl rfl) rfl (by kernel_rfl) (by first | rfl | kernel_rfl)
end Go.Proofs.Ytdmcbfmpnakdfaa.Eng
/- What is done to a member and to the document's: written, flushed, failed, cleaned. -/
namespace Go.Proofs.Ytdmcbfmpnakdfaa.Eng.Rm
open Go Go.Proofs
set_option maxRecDepth 20000
set_option maxHeartbeats 8000000
theorem c41 : Callable Try.prog 41 := ⟨⟨_, Try.func41, by kernel_rfl, by kernel_rfl⟩⟩
theorem c42 : Callable Try.prog 42 := ⟨⟨_, Try.func42, by kernel_rfl, by kernel_rfl⟩⟩
theorem c27 : Callable Try.prog 27 := ⟨⟨_, Try.func27, by kernel_rfl, by kernel_rfl⟩⟩
theorem c29 : Callable Try.prog 29 := ⟨⟨_, Try.func29, by kernel_rfl, by kernel_rfl⟩⟩
theorem c30 : Callable Try.prog 30 := ⟨⟨_, Try.func30, by kernel_rfl, by kernel_rfl⟩⟩
theorem c31 : Callable Try.prog 31 := ⟨⟨_, Try.func31, by kernel_rfl, by kernel_rfl⟩⟩
theorem c32 : Callable Try.prog 32 := ⟨⟨_, Try.func32, by kernel_rfl, by kernel_rfl⟩⟩
theorem c33 : Callable Try.prog 33 := ⟨⟨_, Try.func33, by kernel_rfl, by kernel_rfl⟩⟩
theorem c35 : Callable Try.prog 35 := ⟨⟨_, Try.func35, by kernel_rfl, by kernel_rfl⟩⟩
theorem c37 : Callable Try.prog 37 := ⟨⟨_, Try.func37, by kernel_rfl, by kernel_rfl⟩⟩
theorem c38 : Callable Try.prog 38 := ⟨⟨_, Try.func38, by kernel_rfl, by kernel_rfl⟩⟩
theorem c39 : Callable Try.prog 39 := ⟨⟨_, Try.func39, by kernel_rfl, by kernel_rfl⟩⟩
theorem c43 : Callable Try.prog 43 := ⟨⟨_, Try.func43, by kernel_rfl, by kernel_rfl⟩⟩
theorem c44 : Callable Try.prog 44 := ⟨⟨_, Try.func44, by kernel_rfl, by kernel_rfl⟩⟩
theorem c47 : Callable Try.prog 47 := ⟨⟨_, Try.func47, by kernel_rfl, by kernel_rfl⟩⟩
theorem c48 : Callable Try.prog 48 := ⟨⟨_, Try.func48, by kernel_rfl, by kernel_rfl⟩⟩
theorem c49 : Callable Try.prog 49 := ⟨⟨_, Try.func49, by kernel_rfl, by kernel_rfl⟩⟩
theorem c26 : Callable Try.prog 26 := ⟨⟨_, Try.func26, by kernel_rfl, by kernel_rfl⟩⟩
abbrev ppt : AV := .sc (.ptr 5 0 6 0)
/-- Ahead of an act. X, Y: the marks, where they are looked at; Z: the picks. -/
abbrev doH (M : Mem) (lg : Lg) (mk : Mk) (d l : Sl) (R : List (Nat × Obj)) (X Y Z : Option ABlk) : LHp :=
  [some (memB M lg mk), imB M.seen, imB M.dur, logB M lg, X, refS M.n (.raw d.v) (.raw l.v) (mk.sv 9) M.fails M.hurt, some (famB R), some (famB R), some (famB R), Y, Z]
/-- Behind it. -/
abbrev doR (M : Mem) (lg : Lg) (mk : Mk) (R : List (Nat × Obj)) (dS : SV) (dB : Option ABlk) (lS : SV) (lB : Option ABlk) (X Y Z : Option ABlk) : LHp :=
  [some (memG M lg mk 11 12 13 4), none, none, none, X, refS M.n dS lS (mk.sv 9) M.fails M.hurt, some (famB R), some (famB R), some (famB R), Y, Z, imB M.seen, imB M.dur, logB M lg, dB, lB]
def MkB (mk : Mk) (X Y : Option ABlk) : Prop := (mk = .nil ∧ X = none ∧ Y = none) ∨ ∃ (B : List Nat) (V : List Sl), mk = .row B.length ∧ X = mkF B ∧ Y = rowK V
variable (M M' : Mem) (lg lg' : Lg) (mk : Mk) (d l : Sl) (R : List (Nat × Obj)) (D : Img) (aD aI : Int) (aS : List Nat) (ad : Option Addr) (nn cp : Nat) (aO : Bool) (r : Int) (X Y : Option ABlk) (R0 : List (Nat × Obj))
abbrev actA (aD aI : Int) (aS : List Nat) (ad : Option Addr) (nn cp : Nat) (aO : Bool) : ActV := ⟨aD, aI, aS, .slice ad nn cp, aO⟩
theorem io_eq : ioR M.n M.fails aI = ioE M aI := by
  unfold ioR mayB ioE
  by_cases h : aI < 0 ∨ M.n ≤ aI
  · rw [if_pos h, decide_eq_false (by omega)]; rfl
  · rw [if_neg h, decide_eq_true (by omega)]; rfl
theorem may_eq : (if mayB M.n aI then (0 : Int) else 2) = mayE M aI := by
  unfold mayB mayE
  by_cases h : aI < 0 ∨ M.n ≤ aI
  · rw [if_pos h, decide_eq_false (by omega)]; rfl
  · rw [if_neg h, decide_eq_true (by omega)]; rfl
theorem do_werr (hm : MkB mk X Y) (hr : arithI .and .i64 aD 15 = some r) (h5 : 0 ≤ r ∧ r ≤ 4) (hn : 0 < M.n) (h0 : ioE M aI ≠ 0) :
    FunT Try.prog 41 [mpv, ppt, .agg (actSegs (actA aD aI aS ad nn cp aO))] (doH M lg mk d l R X Y (some (famB R0))) (bv true) (doR M lg mk R (.raw d.v) none (.raw l.v) none X Y (some (famB R0))) := by
  have gE := write_err M lg mk aI aS hn h0
  have gD := rwrite_err M.n d l mk M.fails M.hurt R aI aS (by rw [io_eq]; exact h0)
  rw [io_eq] at gD
  generalize ioE M aI = ie at *
  have hr5 : r = 0 ∨ r = 1 ∨ r = 2 ∨ r = 3 ∨ r = 4 := by omega
  rcases hr5 with rfl | rfl | rfl | rfl | rfl <;> rcases hm with ⟨rfl, rfl, rfl⟩ | ⟨B, V, rfl, rfl, rfl⟩ <;> cases lg <;>
  · refine FunT.ev tabOk mixed Try.func41 rfl ?_
    conv => whnf
    repeat (first | (refine ⟨(by kernel_rfl : chkR _ _ _ _ = true), ?_⟩; conv => whnf) | (refine EvOr.go ?_; conv => whnf))
    refine ⟨_, hr, ?_⟩
    conv => whnf
    repeat (first | (refine ⟨(by kernel_rfl : chkR _ _ _ _ = true), ?_⟩; conv => whnf) | (refine EvOr.go ?_; conv => whnf))
    repeat (intro c hc; simp [] at hc; subst hc; (conv => whnf); repeat (first | (refine ⟨(by kernel_rfl : chkR _ _ _ _ = true), ?_⟩; (conv => whnf)) | (refine EvOr.go ?_; (conv => whnf))))
    refine CallG.use gE c38 [0, 1, 2, 3, 4] [] ?_ ?_ ?_ ?_ ?_ ?_; rfl; rfl; kernel_rfl; rfl; rfl
    conv => whnf
    repeat (first | (refine ⟨(by kernel_rfl : chkR _ _ _ _ = true), ?_⟩; conv => whnf) | (refine EvOr.go ?_; conv => whnf))
    refine CallG.use gD c96 [5, 6, 7, 9] [] ?_ ?_ ?_ ?_ ?_ ?_; rfl; rfl; kernel_rfl; rfl; rfl
    conv => whnf
    repeat (first | (refine ⟨(by kernel_rfl : chkR _ _ _ _ = true), ?_⟩; conv => whnf) | (refine EvOr.go ?_; conv => whnf))
    intro c hc
    obtain rfl : c = true := by rw [hc]; exact decide_eq_true rfl
    conv => whnf
    repeat (first | (refine ⟨(by kernel_rfl : chkR _ _ _ _ = true), ?_⟩; conv => whnf) | (refine EvOr.go ?_; conv => whnf))
    exact retQ.oneS [0, 1, 2, 3, 4, 5, 6, 7, 8, 9, 10, 1, 2, 3, 4, 4] rfl (by first | exact .inr rfl | exact .inl rfl) rfl (by kernel_rfl) (by first | rfl | kernel_rfl)
theorem do_write (hm : MkB mk X Y) (hr : arithI .and .i64 aD 15 = some r) (h5 : 0 ≤ r ∧ r ≤ 4) (hM : M' = wrote M aI aS) (hlg : lg.ok M.log) (hn : 0 < M.n) (h0 : ioE M aI = 0) (hl : RawAt R M.log l.v) (hb : M.log.length < 2 ^ 29) :
    FunT Try.prog 41 [mpv, ppt, .agg (actSegs (actA aD aI aS ad nn cp aO))] (doH M lg mk d l R X Y (some (famB R0))) (bv true) (doR M' (.inx []) mk R (.raw d.v) none (.sl 15 0 65 (M.log.length + 1) none) (rowN (M.log ++ [(aI, aS)])) X Y (some (famB R0))) := by
  have gW := write_to M M' lg mk aI aS hM hlg hn h0 (by omega)
  have gD := rwrite_ok M.n d l mk M.fails M.hurt R M.log aI aS (by rw [io_eq]; exact h0) hl (by omega)
  have e1 : M'.n = M.n := by rw [hM]
  have e2 : M'.fails = M.fails := by rw [hM]
  have e3 : M'.hurt = M.hurt := by rw [hM]
  have e4 : M'.dur = M.dur := by rw [hM]
  unfold doR
  rw [e1, e2, e3, e4]
  clear hM e1 e2 e3 e4
  have hr5 : r = 0 ∨ r = 1 ∨ r = 2 ∨ r = 3 ∨ r = 4 := by omega
  rcases hr5 with rfl | rfl | rfl | rfl | rfl <;> rcases hm with ⟨rfl, rfl, rfl⟩ | ⟨B, V, rfl, rfl, rfl⟩ <;> cases lg <;>
  · refine FunT.ev tabOk mixed Try.func41 rfl ?_
    conv => whnf
    repeat (first | (refine ⟨(by kernel_rfl : chkR _ _ _ _ = true), ?_⟩; conv => whnf) | (refine EvOr.go ?_; conv => whnf))
    refine ⟨_, hr, ?_⟩
    conv => whnf
    repeat (first | (refine ⟨(by kernel_rfl : chkR _ _ _ _ = true), ?_⟩; conv => whnf) | (refine EvOr.go ?_; conv => whnf))
    repeat (intro c hc; simp [] at hc; subst hc; (conv => whnf); repeat (first | (refine ⟨(by kernel_rfl : chkR _ _ _ _ = true), ?_⟩; (conv => whnf)) | (refine EvOr.go ?_; (conv => whnf))))
    refine CallG.use gW c38 [0, 1, 2, 3, 4] [0, 1, 3] ?_ ?_ ?_ ?_ ?_ ?_; rfl; rfl; kernel_rfl; rfl; rfl
    conv => whnf
    repeat (first | (refine ⟨(by kernel_rfl : chkR _ _ _ _ = true), ?_⟩; conv => whnf) | (refine EvOr.go ?_; conv => whnf))
    refine CallG.use gD c96 [5, 6, 7, 9] [0] ?_ ?_ ?_ ?_ ?_ ?_; rfl; rfl; kernel_rfl; rfl; rfl
    conv => whnf
    repeat (first | (refine ⟨(by kernel_rfl : chkR _ _ _ _ = true), ?_⟩; conv => whnf) | (refine EvOr.go ?_; conv => whnf))
    intro c hc
    obtain rfl : c = true := by rw [hc]; rfl
    conv => whnf
    repeat (first | (refine ⟨(by kernel_rfl : chkR _ _ _ _ = true), ?_⟩; conv => whnf) | (refine EvOr.go ?_; conv => whnf))
    exact retQ.oneS [0, 1, 2, 3, 4, 5, 6, 7, 8, 9, 10, 1, 2, 12, 4, 13] rfl (by first | exact .inr rfl | exact .inl rfl) rfl (by kernel_rfl) (by first | rfl | kernel_rfl)
end Go.Proofs.Ytdmcbfmpnakdfaa.Eng.Rm
/- What is done to a member and to the document's: flushed, failed, cleaned, nothing. -/
namespace Go.Proofs.Ytdmcbfmpnakdfaa.Eng.Rm
open Go Go.Proofs
set_option maxRecDepth 20000
set_option maxHeartbeats 8000000
variable (M M' : Mem) (lg lg' : Lg) (mk : Mk) (d l : Sl) (R : List (Nat × Obj)) (D : Img) (aD aI : Int) (aS : List Nat) (ad : Option Addr) (nn cp : Nat) (aO : Bool) (r : Int) (X Y : Option ABlk) (R0 : List (Nat × Obj))
theorem do_ferr (hm : MkB mk X Y) (hr : arithI .and .i64 aD 15 = some 5) (hn : 0 < M.n) (hf : M.fails = true) :
    FunT Try.prog 41 [mpv, ppt, .agg (actSegs (actA aD aI aS ad nn cp aO))] (doH M lg mk d l R X Y (some (famB R0))) (bv true) (doR M lg mk R (.raw d.v) none (.raw l.v) none X Y (some (famB R0))) := by
  have gE := flush_err M lg mk hn hf
  have gD := rflush_err M.n d l mk M.hurt R
  rw [← hf] at gD
  rcases hm with ⟨rfl, rfl, rfl⟩ | ⟨B, V, rfl, rfl, rfl⟩ <;> cases lg <;>
  · refine FunT.ev tabOk mixed Try.func41 rfl ?_
    conv => whnf
    repeat (first | (refine ⟨(by kernel_rfl : chkR _ _ _ _ = true), ?_⟩; conv => whnf) | (refine EvOr.go ?_; conv => whnf))
    refine ⟨_, hr, ?_⟩
    conv => whnf
    repeat (first | (refine ⟨(by kernel_rfl : chkR _ _ _ _ = true), ?_⟩; conv => whnf) | (refine EvOr.go ?_; conv => whnf))
    repeat (intro c hc; simp [] at hc; subst hc; (conv => whnf); repeat (first | (refine ⟨(by kernel_rfl : chkR _ _ _ _ = true), ?_⟩; (conv => whnf)) | (refine EvOr.go ?_; (conv => whnf))))
    refine CallG.use gE c29 [0, 1, 2, 3, 4] [] ?_ ?_ ?_ ?_ ?_ ?_; rfl; rfl; kernel_rfl; rfl; rfl
    conv => whnf
    repeat (first | (refine ⟨(by kernel_rfl : chkR _ _ _ _ = true), ?_⟩; conv => whnf) | (refine EvOr.go ?_; conv => whnf))
    refine CallG.use gD c97 [5, 6, 7, 9] [] ?_ ?_ ?_ ?_ ?_ ?_; rfl; rfl; kernel_rfl; rfl; rfl
    conv => whnf
    repeat (first | (refine ⟨(by kernel_rfl : chkR _ _ _ _ = true), ?_⟩; conv => whnf) | (refine EvOr.go ?_; conv => whnf))
    intro c hc
    obtain rfl : c = true := by rw [hc]; rfl
    conv => whnf
    repeat (first | (refine ⟨(by kernel_rfl : chkR _ _ _ _ = true), ?_⟩; conv => whnf) | (refine EvOr.go ?_; conv => whnf))
    exact retQ.oneS [0, 1, 2, 3, 4, 5, 6, 7, 8, 9, 10, 1, 2, 3, 4, 4] rfl (by first | exact .inr rfl | exact .inl rfl) rfl (by kernel_rfl) (by first | rfl | kernel_rfl)
theorem do_flush (hm : MkB mk X Y) (hr : arithI .and .i64 aD 15 = some 5) (hM : M' = crashed M allPick) (hlg : lg.ok M.log) (hn : 0 < M.n) (hf : M.fails = false) (hd : RawAt R D d.v) (hl : RawAt R M.log l.v) (hb : D.length < 2 ^ 29) (hb2 : M.log.length < 2 ^ 29) (h0 : 0 < (D ++ M.log).length) :
    FunT Try.prog 41 [mpv, ppt, .agg (actSegs (actA aD aI aS ad nn cp aO))] (doH M lg mk d l R X Y (some (famB R0))) (bv true) (doR M' .nil mk R (.sl 14 0 65 (D ++ M.log).length none) (rowN (D ++ M.log)) nilS none X Y (some (famB R0))) := by
  have gF := flush_to' M M' lg mk hM hlg hn hf (by omega)
  have gD := rflush_row M.n d l mk M.hurt R D M.log hd hl (by omega) (by omega) h0
  have e1 : M'.n = M.n := by rw [hM]
  have e2 : M'.fails = M.fails := by rw [hM]
  have e3 : M'.hurt = M.hurt := by rw [hM]
  unfold doR
  rw [e1, e2, e3]
  rw [← hf] at gD
  clear hM e1 e2 e3
  rcases hm with ⟨rfl, rfl, rfl⟩ | ⟨B, V, rfl, rfl, rfl⟩ <;> cases lg <;>
  · refine FunT.ev tabOk mixed Try.func41 rfl ?_
    conv => whnf
    repeat (first | (refine ⟨(by kernel_rfl : chkR _ _ _ _ = true), ?_⟩; conv => whnf) | (refine EvOr.go ?_; conv => whnf))
    refine ⟨_, hr, ?_⟩
    conv => whnf
    repeat (first | (refine ⟨(by kernel_rfl : chkR _ _ _ _ = true), ?_⟩; conv => whnf) | (refine EvOr.go ?_; conv => whnf))
    repeat (intro c hc; simp [] at hc; subst hc; (conv => whnf); repeat (first | (refine ⟨(by kernel_rfl : chkR _ _ _ _ = true), ?_⟩; (conv => whnf)) | (refine EvOr.go ?_; (conv => whnf))))
    refine CallG.use gF c29 [0, 1, 2, 3, 4] [0, 1, 2, 3] ?_ ?_ ?_ ?_ ?_ ?_; rfl; rfl; kernel_rfl; rfl; rfl
    conv => whnf
    repeat (first | (refine ⟨(by kernel_rfl : chkR _ _ _ _ = true), ?_⟩; conv => whnf) | (refine EvOr.go ?_; conv => whnf))
    refine CallG.use gD c97 [5, 6, 7, 9] [0] ?_ ?_ ?_ ?_ ?_ ?_; rfl; rfl; kernel_rfl; rfl; rfl
    conv => whnf
    repeat (first | (refine ⟨(by kernel_rfl : chkR _ _ _ _ = true), ?_⟩; conv => whnf) | (refine EvOr.go ?_; conv => whnf))
    intro c hc
    obtain rfl : c = true := by rw [hc]; rfl
    conv => whnf
    repeat (first | (refine ⟨(by kernel_rfl : chkR _ _ _ _ = true), ?_⟩; conv => whnf) | (refine EvOr.go ?_; conv => whnf))
    exact retQ.oneS [0, 1, 2, 3, 4, 5, 6, 7, 8, 9, 10, 12, 2, 3, 13, 4] rfl (by first | exact .inr rfl | exact .inl rfl) rfl (by kernel_rfl) (by first | rfl | kernel_rfl)
theorem do_flush0 (hm : MkB mk X Y) (hr : arithI .and .i64 aD 15 = some 5) (hM : M' = crashed M allPick) (hlg : lg.ok M.log) (hn : 0 < M.n) (hf : M.fails = false) (hd : RawAt R [] d.v) (hl : RawAt R [] l.v) (hb2 : M.log.length < 2 ^ 29) :
    FunT Try.prog 41 [mpv, ppt, .agg (actSegs (actA aD aI aS ad nn cp aO))] (doH M lg mk d l R X Y (some (famB R0))) (bv true) (doR M' .nil mk R nilS none nilS none X Y (some (famB R0))) := by
  have gF := flush_to' M M' lg mk hM hlg hn hf (by omega)
  have gD := rflush_nil M.n d l mk M.hurt R hd hl
  have e1 : M'.n = M.n := by rw [hM]
  have e2 : M'.fails = M.fails := by rw [hM]
  have e3 : M'.hurt = M.hurt := by rw [hM]
  unfold doR
  rw [e1, e2, e3]
  rw [← hf] at gD
  clear hM e1 e2 e3
  rcases hm with ⟨rfl, rfl, rfl⟩ | ⟨B, V, rfl, rfl, rfl⟩ <;> cases lg <;>
  · refine FunT.ev tabOk mixed Try.func41 rfl ?_
    conv => whnf
    repeat (first | (refine ⟨(by kernel_rfl : chkR _ _ _ _ = true), ?_⟩; conv => whnf) | (refine EvOr.go ?_; conv => whnf))
    refine ⟨_, hr, ?_⟩
    conv => whnf
    repeat (first | (refine ⟨(by kernel_rfl : chkR _ _ _ _ = true), ?_⟩; conv => whnf) | (refine EvOr.go ?_; conv => whnf))
    repeat (intro c hc; simp [] at hc; subst hc; (conv => whnf); repeat (first | (refine ⟨(by kernel_rfl : chkR _ _ _ _ = true), ?_⟩; (conv => whnf)) | (refine EvOr.go ?_; (conv => whnf))))
    refine CallG.use gF c29 [0, 1, 2, 3, 4] [0, 1, 2, 3] ?_ ?_ ?_ ?_ ?_ ?_; rfl; rfl; kernel_rfl; rfl; rfl
    conv => whnf
    repeat (first | (refine ⟨(by kernel_rfl : chkR _ _ _ _ = true), ?_⟩; conv => whnf) | (refine EvOr.go ?_; conv => whnf))
    refine CallG.use gD c97 [5, 6, 7, 9] [0] ?_ ?_ ?_ ?_ ?_ ?_; rfl; rfl; kernel_rfl; rfl; rfl
    conv => whnf
    repeat (first | (refine ⟨(by kernel_rfl : chkR _ _ _ _ = true), ?_⟩; conv => whnf) | (refine EvOr.go ?_; conv => whnf))
    intro c hc
    obtain rfl : c = true := by rw [hc]; rfl
    conv => whnf
    repeat (first | (refine ⟨(by kernel_rfl : chkR _ _ _ _ = true), ?_⟩; conv => whnf) | (refine EvOr.go ?_; conv => whnf))
    exact retQ.oneS [0, 1, 2, 3, 4, 5, 6, 7, 8, 9, 10, 12, 2, 3, 4, 4] rfl (by first | exact .inr rfl | exact .inl rfl) rfl (by kernel_rfl) (by first | rfl | kernel_rfl)
theorem do_fail (hm : MkB mk X Y) (hr : arithI .and .i64 aD 15 = some 10) (hM : M' = { M with fails := aO, hurt := M.hurt || aO }) (hn : 0 < M.n) :
    FunT Try.prog 41 [mpv, ppt, .agg (actSegs (actA aD aI aS ad nn cp aO))] (doH M lg mk d l R X Y (some (famB R0))) (bv true) (doR M' lg mk R (.raw d.v) none (.raw l.v) none X Y (some (famB R0))) := by
  have gF := fail_ok M lg mk aO hn
  have gD := rfail_ok M.n d l mk M.fails M.hurt R aO
  rw [← hM] at gF
  have e1 : M'.n = M.n := by rw [hM]
  have e2 : M'.fails = aO := by rw [hM]
  have e3 : M'.hurt = (M.hurt || aO) := by rw [hM]
  have e4 : M'.seen = M.seen := by rw [hM]
  have e5 : M'.dur = M.dur := by rw [hM]
  have e6 : logB M' lg = logB M lg := by rw [hM]; rfl
  unfold doR
  rw [e1, e2, e3, e4, e5, e6]
  generalize (M.hurt || aO) = hh at *
  clear hM e1 e2 e3 e4 e5 e6
  rcases hm with ⟨rfl, rfl, rfl⟩ | ⟨B, V, rfl, rfl, rfl⟩ <;> cases lg <;>
  · refine FunT.ev tabOk mixed Try.func41 rfl ?_
    conv => whnf
    repeat (first | (refine ⟨(by kernel_rfl : chkR _ _ _ _ = true), ?_⟩; conv => whnf) | (refine EvOr.go ?_; conv => whnf))
    refine ⟨_, hr, ?_⟩
    conv => whnf
    repeat (first | (refine ⟨(by kernel_rfl : chkR _ _ _ _ = true), ?_⟩; conv => whnf) | (refine EvOr.go ?_; conv => whnf))
    repeat (intro c hc; simp [] at hc; subst hc; (conv => whnf); repeat (first | (refine ⟨(by kernel_rfl : chkR _ _ _ _ = true), ?_⟩; (conv => whnf)) | (refine EvOr.go ?_; (conv => whnf))))
    refine CallG.use gF c37 [0, 1, 2, 3, 4] [0] ?_ ?_ ?_ ?_ ?_ ?_; rfl; rfl; kernel_rfl; rfl; rfl
    conv => whnf
    repeat (first | (refine ⟨(by kernel_rfl : chkR _ _ _ _ = true), ?_⟩; conv => whnf) | (refine EvOr.go ?_; conv => whnf))
    refine CallG.use gD c102 [5, 6, 7, 9] [0] ?_ ?_ ?_ ?_ ?_ ?_; rfl; rfl; kernel_rfl; rfl; rfl
    conv => whnf
    repeat (first | (refine ⟨(by kernel_rfl : chkR _ _ _ _ = true), ?_⟩; conv => whnf) | (refine EvOr.go ?_; conv => whnf))
    intro c hc
    obtain rfl : c = true := by rw [hc]; rfl
    conv => whnf
    repeat (first | (refine ⟨(by kernel_rfl : chkR _ _ _ _ = true), ?_⟩; conv => whnf) | (refine EvOr.go ?_; conv => whnf))
    exact retQ.oneS [0, 1, 2, 3, 4, 5, 6, 7, 8, 9, 10, 1, 2, 3, 4, 4] rfl (by first | exact .inr rfl | exact .inl rfl) rfl (by kernel_rfl) (by first | rfl | kernel_rfl)
theorem do_clean (hm : MkB mk X Y) (hr : arithI .and .i64 aD 15 = some 11) (hM : M' = { M with hurt := false }) (hn : 0 < M.n) :
    FunT Try.prog 41 [mpv, ppt, .agg (actSegs (actA aD aI aS ad nn cp aO))] (doH M lg mk d l R X Y (some (famB R0))) (bv true) (doR M' lg mk R (.raw d.v) none (.raw l.v) none X Y (some (famB R0))) := by
  have gF := clean_to M M' lg mk hM hn
  have e1 : M'.n = M.n := by rw [hM]
  have e2 : M'.fails = M.fails := by rw [hM]
  have e3 : M'.hurt = false := by rw [hM]
  have e4 : M'.seen = M.seen := by rw [hM]
  have e5 : M'.dur = M.dur := by rw [hM]
  have e6 : logB M' lg = logB M lg := by rw [hM]; rfl
  unfold doR
  rw [e1, e2, e3, e4, e5, e6]
  clear hM e1 e2 e3 e4 e5 e6
  rcases hm with ⟨rfl, rfl, rfl⟩ | ⟨B, V, rfl, rfl, rfl⟩ <;> cases lg <;>
  · refine FunT.ev tabOk mixed Try.func41 rfl ?_
    conv => whnf
    repeat (first | (refine ⟨(by kernel_rfl : chkR _ _ _ _ = true), ?_⟩; conv => whnf) | (refine EvOr.go ?_; conv => whnf))
    refine ⟨_, hr, ?_⟩
    conv => whnf
    repeat (first | (refine ⟨(by kernel_rfl : chkR _ _ _ _ = true), ?_⟩; conv => whnf) | (refine EvOr.go ?_; conv => whnf))
    repeat (intro c hc; simp [] at hc; subst hc; (conv => whnf); repeat (first | (refine ⟨(by kernel_rfl : chkR _ _ _ _ = true), ?_⟩; (conv => whnf)) | (refine EvOr.go ?_; (conv => whnf))))
    refine CallG.use gF c48 [0, 1, 2, 3, 4] [0] ?_ ?_ ?_ ?_ ?_ ?_; rfl; rfl; kernel_rfl; rfl; rfl
    conv => whnf
    repeat (first | (refine ⟨(by kernel_rfl : chkR _ _ _ _ = true), ?_⟩; conv => whnf) | (refine EvOr.go ?_; conv => whnf))
    exact retQ.oneS [0, 1, 2, 3, 4, 5, 6, 7, 8, 9, 10, 1, 2, 3, 4, 4] rfl (by first | exact .inr rfl | exact .inl rfl) rfl (by kernel_rfl) (by first | rfl | kernel_rfl)
theorem do_none (hm : MkB mk X Y) (hr : arithI .and .i64 aD 15 = some r) (h5 : 12 ≤ r ∧ r ≤ 15) :
    FunT Try.prog 41 [mpv, ppt, .agg (actSegs (actA aD aI aS ad nn cp aO))] (doH M lg mk d l R X Y (some (famB R0))) (bv true) (doR M lg mk R (.raw d.v) none (.raw l.v) none X Y (some (famB R0))) := by
  have hr5 : r = 12 ∨ r = 13 ∨ r = 14 ∨ r = 15 := by omega
  rcases hr5 with rfl | rfl | rfl | rfl <;> rcases hm with ⟨rfl, rfl, rfl⟩ | ⟨B, V, rfl, rfl, rfl⟩ <;> cases lg <;>
  · refine FunT.ev tabOk mixed Try.func41 rfl ?_
    conv => whnf
    repeat (first | (refine ⟨(by kernel_rfl : chkR _ _ _ _ = true), ?_⟩; conv => whnf) | (refine EvOr.go ?_; conv => whnf))
    refine ⟨_, hr, ?_⟩
    conv => whnf
    repeat (first | (refine ⟨(by kernel_rfl : chkR _ _ _ _ = true), ?_⟩; conv => whnf) | (refine EvOr.go ?_; conv => whnf))
    repeat (intro c hc; simp [] at hc; subst hc; (conv => whnf); repeat (first | (refine ⟨(by kernel_rfl : chkR _ _ _ _ = true), ?_⟩; (conv => whnf)) | (refine EvOr.go ?_; (conv => whnf))))
    exact retQ.oneS [0, 1, 2, 3, 4, 5, 6, 7, 8, 9, 10, 1, 2, 3, 4, 4] rfl (by first | exact .inr rfl | exact .inl rfl) rfl (by kernel_rfl) (by first | rfl | kernel_rfl)
end Go.Proofs.Ytdmcbfmpnakdfaa.Eng.Rm
