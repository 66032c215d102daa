/- A member: reads; a sector put into an image. -/
import Derived.Test.YtdmcbfmpnakdfaaMa
namespace Go.Proofs.Ytdmcbfmpnakdfaa.Eng
open Go Go.Proofs
set_option maxRecDepth 20000
set_option maxHeartbeats 4000000
abbrev imB (M : Img) : Option ABlk := some (.map (encM M) [])
abbrev hMs (M : Mem) (lg : Lg) (mk : Mk) : LHp := [some (memB M lg mk), imB M.seen, none, none, none]
abbrev hMd (M : Mem) (lg : Lg) (mk : Mk) : LHp := [some (memB M lg mk), none, imB M.dur, none, none]
theorem look_val (M : Img) (i : Int) : ∃ (a : AV) (found : Bool), ((match (encM M).find? (keyIs i) with
            | some e => found = true ∧ a = e.2
            | none => found = false ∧ a = .agg [.byt 64 (zs 64)]) ∧ a ≠ .junk) ∧ a = secV (getI M i) := by
  rw [find_enc]
  unfold getI
  cases M.find? (fun p => i == p.1) with
  | none => exact ⟨_, false, ⟨⟨rfl, rfl⟩, by simp⟩, rfl⟩
  | some p => exact ⟨_, true, ⟨⟨rfl, rfl⟩, by simp⟩, rfl⟩
theorem read_ok (M : Mem) (lg : Lg) (mk : Mk) (i : Int) (hn : 0 < M.n) (h0 : ioE M i = 0) : FunT Try.prog 33 [mpv, iv i] (hMs M lg mk) (.tup [secV (getI M.seen i), iv 0]) (hMs M lg mk) := by
  have hI := io_ok M lg mk i hn
  rw [h0] at hI
  have hlv := look_val M.seen i
  have hk := keysOk_enc M.seen
  obtain ⟨Mn, Ms, Md, Ml, Mf, Mh⟩ := M
  cases hl : lg <;> cases hm : mk <;> rw [hl, hm] at hI <;>
  · refine FunT.ev tabOk mixed Try.func33 rfl ?_
    conv => whnf
    repeat (first | (refine ⟨(by kernel_rfl : chkR _ _ _ _ = true), ?_⟩; conv => whnf) | (refine EvOr.go ?_; conv => whnf))
    refine CallG.use hI c86 [0, 1, 2, 3, 4] [] ?_ ?_ ?_ ?_ ?_ ?_; rfl; rfl; kernel_rfl; rfl; rfl
    conv => whnf
    repeat (first | (refine ⟨(by kernel_rfl : chkR _ _ _ _ = true), ?_⟩; conv => whnf) | (refine EvOr.go ?_; conv => whnf))
    intro c hc
    obtain rfl : c = false := by rw [hc]; rfl
    conv => whnf
    repeat (first | (refine ⟨(by kernel_rfl : chkR _ _ _ _ = true), ?_⟩; conv => whnf) | (refine EvOr.go ?_; conv => whnf))
    refine ⟨hk, ?_⟩
    obtain ⟨a, fd, h1, rfl⟩ := hlv
    refine ⟨_, fd, h1, ?_⟩
    conv => whnf
    repeat (first | (refine ⟨(by kernel_rfl : chkR _ _ _ _ = true), ?_⟩; conv => whnf) | (refine EvOr.go ?_; conv => whnf))
    exact retQ.all tabOk _ [.agg [.byt 64 (getI Ms i)], iv 0] rfl (by first | exact .inr rfl | exact .inl rfl) (by repeat' (first | exact trivial | rfl | (intro h; cases h; done) | (refine ⟨?_, ?_⟩))) rfl (by rfl) (Nat.le_of_ble_eq_true rfl) (by rfl)
theorem read_err (M : Mem) (lg : Lg) (mk : Mk) (i : Int) (hn : 0 < M.n) (h0 : ioE M i ≠ 0) : FunT Try.prog 33 [mpv, iv i] (hM M lg mk) (.tup [secV (zs 64), iv (ioE M i)]) (hM M lg mk) := by
  have hI := io_ok M lg mk i hn
  generalize ioE M i = ie at hI h0
  obtain ⟨Mn, Ms, Md, Ml, Mf, Mh⟩ := M
  cases hl : lg <;> cases hm : mk <;> rw [hl, hm] at hI <;>
  · refine FunT.ev tabOk mixed Try.func33 rfl ?_
    conv => whnf
    repeat (first | (refine ⟨(by kernel_rfl : chkR _ _ _ _ = true), ?_⟩; conv => whnf) | (refine EvOr.go ?_; conv => whnf))
    refine CallG.use hI c86 [0, 1, 2, 3, 4] [] ?_ ?_ ?_ ?_ ?_ ?_; rfl; rfl; kernel_rfl; rfl; rfl
    conv => whnf
    repeat (first | (refine ⟨(by kernel_rfl : chkR _ _ _ _ = true), ?_⟩; conv => whnf) | (refine EvOr.go ?_; conv => whnf))
    intro c hc
    obtain rfl : c = true := by rw [hc]; simp [h0]
    conv => whnf
    repeat (first | (refine ⟨(by kernel_rfl : chkR _ _ _ _ = true), ?_⟩; conv => whnf) | (refine EvOr.go ?_; conv => whnf))
    exact retQ.all tabOk _ [.agg [.byt 64 (zs 64)], iv ie] rfl (by first | exact .inr rfl | exact .inl rfl) (by repeat' (first | exact trivial | rfl | (intro h; cases h; done) | (refine ⟨?_, ?_⟩))) rfl (by rfl) (Nat.le_of_ble_eq_true rfl) (by rfl)
theorem look_ok (M : Mem) (lg : Lg) (mk : Mk) (i : Int) (hn : 0 < M.n) (h0 : mayE M i = 0) : FunT Try.prog 39 [mpv, iv i] (hMd M lg mk) (.tup [secV (getI M.dur i), iv 0]) (hMd M lg mk) := by
  have hI := may_ok M lg mk i hn
  rw [h0] at hI
  have hlv := look_val M.dur i
  have hk := keysOk_enc M.dur
  obtain ⟨Mn, Ms, Md, Ml, Mf, Mh⟩ := M
  cases hl : lg <;> cases hm : mk <;> rw [hl, hm] at hI <;>
  · refine FunT.ev tabOk mixed Try.func39 rfl ?_
    conv => whnf
    repeat (first | (refine ⟨(by kernel_rfl : chkR _ _ _ _ = true), ?_⟩; conv => whnf) | (refine EvOr.go ?_; conv => whnf))
    refine CallG.use hI c95 [0, 1, 2, 3, 4] [] ?_ ?_ ?_ ?_ ?_ ?_; rfl; rfl; kernel_rfl; rfl; rfl
    conv => whnf
    repeat (first | (refine ⟨(by kernel_rfl : chkR _ _ _ _ = true), ?_⟩; conv => whnf) | (refine EvOr.go ?_; conv => whnf))
    intro c hc
    obtain rfl : c = false := by rw [hc]; rfl
    conv => whnf
    repeat (first | (refine ⟨(by kernel_rfl : chkR _ _ _ _ = true), ?_⟩; conv => whnf) | (refine EvOr.go ?_; conv => whnf))
    refine ⟨hk, ?_⟩
    obtain ⟨a, fd, h1, rfl⟩ := hlv
    refine ⟨_, fd, h1, ?_⟩
    conv => whnf
    repeat (first | (refine ⟨(by kernel_rfl : chkR _ _ _ _ = true), ?_⟩; conv => whnf) | (refine EvOr.go ?_; conv => whnf))
    exact retQ.all tabOk _ [.agg [.byt 64 (getI Md i)], iv 0] rfl (by first | exact .inr rfl | exact .inl rfl) (by repeat' (first | exact trivial | rfl | (intro h; cases h; done) | (refine ⟨?_, ?_⟩))) rfl (by rfl) (Nat.le_of_ble_eq_true rfl) (by rfl)
def secZ (s : List Nat) : Bool := (List.range 64).all fun i => s.getD i 0 == 0
theorem secZ_iff (s : List Nat) : secZ s = true ↔ bysN 64 s = bysN 64 (zs 64) := by
  rw [← bysN_iff]
  unfold secZ
  have : ∀ i, (zs 64).getD i 0 = 0 := fun i => by unfold zs; simp only [List.getD_eq_getElem?_getD, List.getElem?_replicate]; split <;> rfl
  simp only [this]
def putI (M : Img) (i : Int) (s : List Nat) : Img := if secZ s then delI M i else setI M i s
theorem info5 : ∃ i, Try.prog.info? 5 = some i := by
  cases h : Try.prog.info? 5 with
  | none => have : (Try.prog.info? 5).isSome = true := by kernel_rfl
            rw [h] at this; cases this
  | some i => exact ⟨i, rfl⟩
theorem eq34 : EqArr Try.prog 34 64 := ⟨⟨5, by kernel_rfl, by kernel_rfl, by kernel_rfl, info5⟩, by kernel_rfl⟩
theorem put_ok (M : Img) (i : Int) (s : List Nat) : FunT Try.prog 94 [.sc (.mp 0), iv i, secV s] [imB M] (.tup []) [imB (putI M i s)] := by
  have hk := keysOk_enc M
  refine FunT.ev tabOk mixed Try.func94 rfl ?_
  conv => whnf
  repeat (first | (refine ⟨(by kernel_rfl : chkR _ _ _ _ = true), ?_⟩; conv => whnf) | (refine EvOr.go ?_; conv => whnf))
  refine ⟨rfl, ?_⟩
  refine ⟨eq34, ?_⟩
  conv => whnf
  repeat (first | (refine ⟨(by kernel_rfl : chkR _ _ _ _ = true), ?_⟩; conv => whnf) | (refine EvOr.go ?_; conv => whnf))
  intro c hc
  rw [← secZ_iff] at hc
  have hcz : c = secZ s := by cases c <;> cases hz : secZ s <;> simp_all
  subst hcz
  cases hz : secZ s
  · conv => whnf
    repeat (first | (refine ⟨(by kernel_rfl : chkR _ _ _ _ = true), ?_⟩; conv => whnf) | (refine EvOr.go ?_; conv => whnf))
    refine ⟨⟨hk, fun hj => by cases hj⟩, ?_⟩
    refine ⟨_, (upd_enc M i s).symm, ?_⟩
    conv => whnf
    repeat (first | (refine ⟨(by kernel_rfl : chkR _ _ _ _ = true), ?_⟩; conv => whnf) | (refine EvOr.go ?_; conv => whnf))
    have : putI M i s = setI M i s := by unfold putI; rw [hz]; rfl
    rw [this]
    exact retQ.zero rfl (by first | exact .inl rfl | exact .inr rfl) rfl (Nat.le_of_ble_eq_true rfl) rfl
  · conv => whnf
    repeat (first | (refine ⟨(by kernel_rfl : chkR _ _ _ _ = true), ?_⟩; conv => whnf) | (refine EvOr.go ?_; conv => whnf))
    refine ⟨hk, ?_⟩
    refine ⟨_, (del_enc M i).symm, ?_⟩
    conv => whnf
    repeat (first | (refine ⟨(by kernel_rfl : chkR _ _ _ _ = true), ?_⟩; conv => whnf) | (refine EvOr.go ?_; conv => whnf))
    have : putI M i s = delI M i := by unfold putI; rw [hz]; rfl
    rw [this]
    exact retQ.zero rfl (by first | exact .inl rfl | exact .inr rfl) rfl (Nat.le_of_ble_eq_true rfl) rfl
end Go.Proofs.Ytdmcbfmpnakdfaa.Eng
