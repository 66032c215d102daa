/- A member: New, Unflushed, reads, Copy; a sector of one byte. -/
import Derived.Test.YtdmcbfmpnakdfaaMf
namespace Go.Proofs.Ytdmcbfmpnakdfaa.Eng
open Go Go.Proofs
theorem c46 : Callable Try.prog 46 := ⟨⟨_, Try.func46, by kernel_rfl, by kernel_rfl⟩⟩
theorem c92 : Callable Try.prog 92 := ⟨⟨_, Try.func92, by kernel_rfl, by kernel_rfl⟩⟩
theorem c28 : Callable Try.prog 28 := ⟨⟨_, Try.func28, by kernel_rfl, by kernel_rfl⟩⟩
theorem c26 : Callable Try.prog 26 := ⟨⟨_, Try.func26, by kernel_rfl, by kernel_rfl⟩⟩
theorem c27 : Callable Try.prog 27 := ⟨⟨_, Try.func27, by kernel_rfl, by kernel_rfl⟩⟩
set_option maxRecDepth 20000
set_option maxHeartbeats 4000000
theorem unflushed_ok (M : Mem) (lg : Lg) (mk : Mk) (hlg : lg.ok M.log) (hn : 0 < M.n) : FunT Try.prog 30 [mpv] (hM M lg mk) (iv (M.log.length : Nat)) (hM M lg mk) := by
  have hI := is_ok M lg mk hn
  obtain ⟨Mn, Ms, Md, Ml, Mf, Mh⟩ := M
  cases lg with
  | inx J =>
    cases mk <;>
    · refine FunT.ev tabOk mixed Try.func30 rfl ?_
      conv => whnf
      repeat (first | (refine ⟨(by kernel_rfl : chkR _ _ _ _ = true), ?_⟩; conv => whnf) | (refine EvOr.go ?_; conv => whnf))
      refine CallG.use hI c89 [0, 1, 2, 3, 4] [] ?_ ?_ ?_ ?_ ?_ ?_; rfl; rfl; kernel_rfl; rfl; rfl
      conv => whnf
      repeat (first | (refine ⟨(by kernel_rfl : chkR _ _ _ _ = true), ?_⟩; conv => whnf) | (refine EvOr.go ?_; conv => whnf))
      exact retQ.one rfl (.inr rfl) rfl (Nat.le_of_ble_eq_true rfl) rfl
  | nil =>
    obtain rfl : Ml = [] := hlg
    cases mk <;>
    · refine FunT.ev tabOk mixed Try.func30 rfl ?_
      conv => whnf
      repeat (first | (refine ⟨(by kernel_rfl : chkR _ _ _ _ = true), ?_⟩; conv => whnf) | (refine EvOr.go ?_; conv => whnf))
      refine CallG.use hI c89 [0, 1, 2, 3, 4] [] ?_ ?_ ?_ ?_ ?_ ?_; rfl; rfl; kernel_rfl; rfl; rfl
      conv => whnf
      repeat (first | (refine ⟨(by kernel_rfl : chkR _ _ _ _ = true), ?_⟩; conv => whnf) | (refine EvOr.go ?_; conv => whnf))
      exact retQ.one rfl (.inr rfl) rfl (Nat.le_of_ble_eq_true rfl) rfl
  | ex =>
    obtain rfl : Ml = [] := hlg
    cases mk <;>
    · refine FunT.ev tabOk mixed Try.func30 rfl ?_
      conv => whnf
      repeat (first | (refine ⟨(by kernel_rfl : chkR _ _ _ _ = true), ?_⟩; conv => whnf) | (refine EvOr.go ?_; conv => whnf))
      refine CallG.use hI c89 [0, 1, 2, 3, 4] [] ?_ ?_ ?_ ?_ ?_ ?_; rfl; rfl; kernel_rfl; rfl; rfl
      conv => whnf
      repeat (first | (refine ⟨(by kernel_rfl : chkR _ _ _ _ = true), ?_⟩; conv => whnf) | (refine EvOr.go ?_; conv => whnf))
      exact retQ.one rfl (.inr rfl) rfl (Nat.le_of_ble_eq_true rfl) rfl
abbrev newM (n : Int) : Mem := ⟨n, [], [], [], false, false⟩
theorem new_ok (n : Int) (h1 : 1 ≤ n) (h2 : n ≤ 65536) : FunT Try.prog 27 [iv n] [] (.tup [mpv, iv 0]) [some (memB (newM n) .nil .nil), imB [], imB [], none, none] := by
  refine FunT.ev tabOk mixed Try.func27 rfl ?_
  conv => whnf
  repeat (first | (refine ⟨(by kernel_rfl : chkR _ _ _ _ = true), ?_⟩; conv => whnf) | (refine EvOr.go ?_; conv => whnf))
  intro c hc
  obtain rfl : c = false := by first | (rw [hc]; rfl) | (rw [hc]; simp; done) | (rw [hc]; simp; omega) | (simp at hc; omega)
  conv => whnf
  repeat (first | (refine ⟨(by kernel_rfl : chkR _ _ _ _ = true), ?_⟩; conv => whnf) | (refine EvOr.go ?_; conv => whnf))
  intro c hc
  obtain rfl : c = false := by first | (rw [hc]; rfl) | (rw [hc]; simp; done) | (rw [hc]; simp; omega) | (simp at hc; omega)
  conv => whnf
  repeat (first | (refine ⟨(by kernel_rfl : chkR _ _ _ _ = true), ?_⟩; conv => whnf) | (refine EvOr.go ?_; conv => whnf))
  exact retQ.allS tabOk [2, 0, 1, 3, 4] _ [.sc (.ptr 2 0 7 0), iv 0] rfl (by first | exact .inr rfl | exact .inl rfl) (by repeat' (first | exact trivial | rfl | (intro h; cases h; done) | (refine ⟨?_, ?_⟩))) rfl (by rfl) (by kernel_rfl) (by first | rfl | kernel_rfl)
def bsK (x k : Nat) : List Nat := List.replicate k x ++ List.replicate (64 - k) 0
theorem bsK_set {x k : Nat} (hk : k < 64) : (bsK x k).set k x = bsK x (k + 1) := by
  unfold bsK
  rw [show 64 - k = (64 - (k + 1)) + 1 by omega, List.replicate_succ, List.set_append_right _ _ (by simp)]
  simp [List.replicate_succ']
def fullI (x : Nat) (k : {k : Nat // k ≤ 64}) : LTm × LHp :=
  ([.sc (.raw (.int .u8 (x : Nat))), .junk, .sc (.ptr 0 0 64 0), .sc (.ptr 1 0 64 0), iv (k.1 : Nat), .junk, .junk, .junk, .junk, .junk, .junk, .junk, .junk],
   [some (.row .one 34 64 [[.byt 64 (zs 64)]] []), some (.row .one 34 64 [[.byt 64 (bsK x k.1)]] [])])
theorem full_ok (x : Nat) : FunT Try.prog 46 [.sc (.raw (.int .u8 (x : Nat)))] [] (secV (List.replicate 64 x)) [] := by
  refine FunT.ev tabOk mixed Try.func46 rfl ?_
  conv => whnf
  repeat (first | (refine ⟨(by kernel_rfl : chkR _ _ _ _ = true), ?_⟩; conv => whnf) | (refine EvOr.go ?_; conv => whnf))
  refine CodeT.loopE tabOk mixed (fullI x) (fun k => 64 - k.1) ⟨0, Nat.zero_le _⟩ (fun i => i) (StW.same (Nat.le_of_ble_eq_true rfl) rfl rfl) (fun _ => rfl) ?_
  intro ⟨k, hkl⟩
  conv => whnf
  repeat (first | (refine ⟨(by kernel_rfl : chkR _ _ _ _ = true), ?_⟩; conv => whnf) | (refine EvOr.go ?_; conv => whnf))
  intro c hc
  by_cases hk : k < 64
  · obtain rfl : c = true := by rw [hc]; simp; omega
    have hs := bsK_set (x := x) hk
    conv => whnf
    repeat (first | (refine ⟨(by kernel_rfl : chkR _ _ _ _ = true), ?_⟩; conv => whnf) | (refine EvOr.go ?_; conv => whnf))
    refine ⟨⟨by omega, by show (k : Int) < 64; omega⟩, ?_⟩
    conv => whnf
    repeat (first | (refine ⟨(by kernel_rfl : chkR _ _ _ _ = true), ?_⟩; conv => whnf) | (refine EvOr.go ?_; conv => whnf))
    refine ⟨⟨by show (k : Int).toNat < 64; omega, by show 64 ≤ (bsK x k).length; simp [bsK]; omega, by omega, rfl⟩, ?_⟩
    conv => whnf
    repeat (first | (refine ⟨(by kernel_rfl : chkR _ _ _ _ = true), ?_⟩; conv => whnf) | (refine EvOr.go ?_; conv => whnf))
    refine ⟨((k + 1 : Nat) : Int), inc_nat (by show k < _; omega), ?_⟩
    conv => whnf
    repeat (first | (refine ⟨(by kernel_rfl : chkR _ _ _ _ = true), ?_⟩; conv => whnf) | (refine EvOr.go ?_; conv => whnf))
    refine ⟨⟨k + 1, hk⟩, fun i => i, StW.same (Nat.le_of_ble_eq_true rfl) rfl ?_, by show 64 - (k + 1) < 64 - k; omega⟩
    simp only [fullI, ← hs]; rfl
  · obtain rfl : c = false := by rw [hc]; simp; omega
    conv => whnf
    repeat (first | (refine ⟨(by kernel_rfl : chkR _ _ _ _ = true), ?_⟩; conv => whnf) | (refine EvOr.go ?_; conv => whnf))
    obtain rfl : k = 64 := by omega
    exact retQ.all tabOk _ [secV (bsK x 64)] rfl (.inr rfl) ⟨rfl, trivial⟩ rfl (by unfold bsK; simp [tupV]) (Nat.le_of_ble_eq_true rfl) rfl
theorem reads_ok (M : Mem) (lg : Lg) (mk : Mk) (i : Int) (s : List Nat) (hn : 0 < M.n) (h0 : ioE M i = 0) (b : Bool) (hb : b = true ↔ bysN 64 (getI M.seen i) = bysN 64 s) :
    FunT Try.prog 34 [mpv, iv i, secV s] (hMs M lg mk) (bv b) (hMs M lg mk) := by
  have hI := read_ok M lg mk i hn h0
  obtain ⟨Mn, Ms, Md, Ml, Mf, Mh⟩ := M
  cases lg <;> cases mk <;>
  · refine FunT.ev tabOk mixed Try.func34 rfl ?_
    conv => whnf
    repeat (first | (refine ⟨(by kernel_rfl : chkR _ _ _ _ = true), ?_⟩; conv => whnf) | (refine EvOr.go ?_; conv => whnf))
    refine CallG.use hI c33 [0, 1, 2, 3, 4] [] ?_ ?_ ?_ ?_ ?_ ?_; rfl; rfl; kernel_rfl; rfl; rfl
    conv => whnf
    repeat (first | (refine ⟨(by kernel_rfl : chkR _ _ _ _ = true), ?_⟩; conv => whnf) | (refine EvOr.go ?_; conv => whnf))
    intro c hc
    obtain rfl : c = true := by rw [hc]; rfl
    conv => whnf
    repeat (first | (refine ⟨(by kernel_rfl : chkR _ _ _ _ = true), ?_⟩; conv => whnf) | (refine EvOr.go ?_; conv => whnf))
    refine ⟨rfl, ?_⟩
    refine ⟨eq34, ?_⟩
    conv => whnf
    repeat (first | (refine ⟨(by kernel_rfl : chkR _ _ _ _ = true), ?_⟩; conv => whnf) | (refine EvOr.go ?_; conv => whnf))
    intro c hc
    obtain rfl : c = b := by
      rw [← hb] at hc
      cases c <;> cases b <;> simp_all
    cases c
    · conv => whnf
      repeat (first | (refine ⟨(by kernel_rfl : chkR _ _ _ _ = true), ?_⟩; conv => whnf) | (refine EvOr.go ?_; conv => whnf))
      exact retQ.one rfl (.inr rfl) rfl (Nat.le_of_ble_eq_true rfl) rfl
    · conv => whnf
      repeat (first | (refine ⟨(by kernel_rfl : chkR _ _ _ _ = true), ?_⟩; conv => whnf) | (refine EvOr.go ?_; conv => whnf))
      exact retQ.one rfl (.inr rfl) rfl (Nat.le_of_ble_eq_true rfl) rfl
/-- How a copy's log lies. -/
def Lg.cp (lg : Lg) (l : Img) : Lg := match lg, l with
  | .nil, _ => .nil
  | .ex, _ => .ex
  | .inx _, [] => .ex
  | .inx _, _ :: _ => .inx []
theorem Lg.cp_ok (lg : Lg) (l : Img) (h : lg.ok l) : (lg.cp l).ok l := by
  cases lg <;> cases l <;> first | exact h | trivial | rfl
theorem clone91_nil : FunT Try.prog 91 [.sc nilS] [] (.sc nilS) [] := by
  refine FunT.ev tabOk mixed Try.func91 rfl ?_
  conv => whnf
  repeat (first | (refine ⟨(by kernel_rfl : chkR _ _ _ _ = true), ?_⟩; conv => whnf) | (refine EvOr.go ?_; conv => whnf))
  exact retQ.one rfl (.inr rfl) rfl (Nat.le_of_ble_eq_true rfl) rfl
theorem clone91_ex : FunT Try.prog 91 [.sc (.sl 0 0 65 0 (some 0))] [none] (.sc (.sl 1 0 65 0 (some 0))) [none, none] := by
  refine FunT.ev tabOk mixed Try.func91 rfl ?_
  conv => whnf
  repeat (first | (refine ⟨(by kernel_rfl : chkR _ _ _ _ = true), ?_⟩; conv => whnf) | (refine EvOr.go ?_; conv => whnf))
  refine ⟨rfl, ?_⟩
  conv => whnf
  repeat (first | (refine ⟨(by kernel_rfl : chkR _ _ _ _ = true), ?_⟩; conv => whnf) | (refine EvOr.go ?_; conv => whnf))
  refine ⟨Nat.le_refl _, ?_⟩
  conv => whnf
  repeat (first | (refine ⟨(by kernel_rfl : chkR _ _ _ _ = true), ?_⟩; conv => whnf) | (refine EvOr.go ?_; conv => whnf))
  refine ⟨fun _ => ⟨Nat.le_refl _, ?_⟩, fun h => absurd h (by decide)⟩
  conv => whnf
  repeat (first | (refine ⟨(by kernel_rfl : chkR _ _ _ _ = true), ?_⟩; conv => whnf) | (refine EvOr.go ?_; conv => whnf))
  exact retQ.one rfl (.inr rfl) rfl (Nat.le_of_ble_eq_true rfl) rfl
theorem clone91_0 (J : List Segs) : FunT Try.prog 91 [.sc (.sl 0 0 65 0 none)] [some (.row .inx 127 65 J [])] (.sc (.sl 1 0 65 0 (some 0))) [some (.row .inx 127 65 J []), none] := by
  refine FunT.ev tabOk mixed Try.func91 rfl ?_
  conv => whnf
  repeat (first | (refine ⟨(by kernel_rfl : chkR _ _ _ _ = true), ?_⟩; conv => whnf) | (refine EvOr.go ?_; conv => whnf))
  refine ⟨Nat.zero_le _, ?_⟩
  conv => whnf
  repeat (first | (refine ⟨(by kernel_rfl : chkR _ _ _ _ = true), ?_⟩; conv => whnf) | (refine EvOr.go ?_; conv => whnf))
  refine ⟨Nat.le_refl _, ?_⟩
  conv => whnf
  repeat (first | (refine ⟨(by kernel_rfl : chkR _ _ _ _ = true), ?_⟩; conv => whnf) | (refine EvOr.go ?_; conv => whnf))
  refine ⟨fun _ => ⟨Nat.le_refl _, ?_⟩, fun h => absurd h (by decide)⟩
  conv => whnf
  repeat (first | (refine ⟨(by kernel_rfl : chkR _ _ _ _ = true), ?_⟩; conv => whnf) | (refine EvOr.go ?_; conv => whnf))
  exact retQ.one rfl (.inr rfl) rfl (Nat.le_of_ble_eq_true rfl) rfl
theorem clone91_1 (W : Img) (J : List Segs) (h0 : 0 < W.length) (hb : W.length < 2 ^ 32) : FunT Try.prog 91 [.sc (.sl 0 0 65 W.length none)] [some (.row .inx 127 65 (W.map encW ++ J) [])] (.sc (.sl 1 0 65 W.length none)) [some (.row .inx 127 65 (W.map encW ++ J) []), some (.row .inx 127 65 (W.map encW ++ []) [])] := by
  have e1 : W.map encW ++ [] = List.take W.length (List.drop 0 (W.map encW ++ J)) := by
    rw [List.drop_zero, List.take_left' (by simp)]; simp
  have key : FunT Try.prog 91 [.sc (.sl 0 0 65 W.length none)] [some (.row .inx 127 65 (W.map encW ++ J) [])] (.sc (.sl 1 0 65 (0 + W.length) none)) [some (.row .inx 127 65 (W.map encW ++ J) []), some (.row .inx 127 65 (List.take W.length (List.drop 0 (W.map encW ++ J))) [])] := by
    refine FunT.ev tabOk mixed Try.func91 rfl ?_
    conv => whnf
    repeat (first | (refine ⟨(by kernel_rfl : chkR _ _ _ _ = true), ?_⟩; conv => whnf) | (refine EvOr.go ?_; conv => whnf))
    refine ⟨by show 0 + W.length ≤ (W.map encW ++ J).length; simp, ?_⟩
    conv => whnf
    repeat (first | (refine ⟨(by kernel_rfl : chkR _ _ _ _ = true), ?_⟩; conv => whnf) | (refine EvOr.go ?_; conv => whnf))
    refine ⟨Nat.le_refl _, ?_⟩
    conv => whnf
    repeat (first | (refine ⟨(by kernel_rfl : chkR _ _ _ _ = true), ?_⟩; conv => whnf) | (refine EvOr.go ?_; conv => whnf))
    refine ⟨fun h => absurd h (by show ¬ W.length = 0; omega), fun _ => ⟨⟨by show 0 < 0 + W.length; omega, by show (2 * (0 + W.length) + 192) * 72 ≤ _; omega⟩, ?_⟩⟩
    conv => whnf
    repeat (first | (refine ⟨(by kernel_rfl : chkR _ _ _ _ = true), ?_⟩; conv => whnf) | (refine EvOr.go ?_; conv => whnf))
    exact retQ.oneS [0, 2] rfl (by first | exact .inr rfl | exact .inl rfl) rfl (by kernel_rfl) (by first | rfl | kernel_rfl)
  rw [Nat.zero_add, ← e1] at key
  exact key
theorem clone92_nil : FunT Try.prog 92 [.sc nilS] [] (.sc nilS) [] := by
  refine FunT.ev tabOk mixed Try.func92 rfl ?_
  conv => whnf
  repeat (first | (refine ⟨(by kernel_rfl : chkR _ _ _ _ = true), ?_⟩; conv => whnf) | (refine EvOr.go ?_; conv => whnf))
  exact retQ.one rfl (.inr rfl) rfl (Nat.le_of_ble_eq_true rfl) rfl
/-- Copy, of one without marks. -/
theorem copy_ok (M : Mem) (lg : Lg) (hlg : lg.ok M.log) (hn : 0 < M.n) (hb : M.log.length < 2 ^ 32) :
    FunT Try.prog 31 [mpv] (hM4 M lg .nil) (.sc (.ptr 5 0 7 0)) (hM4 M lg .nil ++ [some (memG M (lg.cp M.log) .nil 6 7 8 9), imB M.seen, imB M.dur, logB M (lg.cp M.log), none]) := by
  have hI := is_ok M lg .nil hn
  have hC1 := clone_ok M.seen
  have hC2 := clone_ok M.dur
  have hC4 := clone92_nil
  obtain ⟨Mn, Ms, Md, Ml, Mf, Mh⟩ := M
  cases lg with
  | nil =>
    obtain rfl : Ml = [] := hlg
    have hC3 := clone91_nil
    refine FunT.ev tabOk mixed Try.func31 rfl ?_
    conv => whnf
    repeat (first | (refine ⟨(by kernel_rfl : chkR _ _ _ _ = true), ?_⟩; conv => whnf) | (refine EvOr.go ?_; conv => whnf))
    refine CallG.use hI c89 [0, 1, 2, 3, 4] [] ?_ ?_ ?_ ?_ ?_ ?_; rfl; rfl; kernel_rfl; rfl; rfl
    conv => whnf
    repeat (first | (refine ⟨(by kernel_rfl : chkR _ _ _ _ = true), ?_⟩; conv => whnf) | (refine EvOr.go ?_; conv => whnf))
    refine CallG.use hC1 c90 [1] [] ?_ ?_ ?_ ?_ ?_ ?_; rfl; rfl; kernel_rfl; rfl; rfl
    conv => whnf
    repeat (first | (refine ⟨(by kernel_rfl : chkR _ _ _ _ = true), ?_⟩; conv => whnf) | (refine EvOr.go ?_; conv => whnf))
    refine CallG.use hC2 c90 [2] [] ?_ ?_ ?_ ?_ ?_ ?_; rfl; rfl; kernel_rfl; rfl; rfl
    conv => whnf
    repeat (first | (refine ⟨(by kernel_rfl : chkR _ _ _ _ = true), ?_⟩; conv => whnf) | (refine EvOr.go ?_; conv => whnf))
    refine CallG.use hC3 c91 [] [] ?_ ?_ ?_ ?_ ?_ ?_; rfl; rfl; kernel_rfl; rfl; rfl
    conv => whnf
    repeat (first | (refine ⟨(by kernel_rfl : chkR _ _ _ _ = true), ?_⟩; conv => whnf) | (refine EvOr.go ?_; conv => whnf))
    refine CallG.use hC4 c92 [] [] ?_ ?_ ?_ ?_ ?_ ?_; rfl; rfl; kernel_rfl; rfl; rfl
    conv => whnf
    repeat (first | (refine ⟨(by kernel_rfl : chkR _ _ _ _ = true), ?_⟩; conv => whnf) | (refine EvOr.go ?_; conv => whnf))
    exact retQ.one rfl (.inr rfl) rfl (Nat.le_of_ble_eq_true rfl) rfl
  | ex =>
    obtain rfl : Ml = [] := hlg
    have hC3 := clone91_ex
    refine FunT.ev tabOk mixed Try.func31 rfl ?_
    conv => whnf
    repeat (first | (refine ⟨(by kernel_rfl : chkR _ _ _ _ = true), ?_⟩; conv => whnf) | (refine EvOr.go ?_; conv => whnf))
    refine CallG.use hI c89 [0, 1, 2, 3, 4] [] ?_ ?_ ?_ ?_ ?_ ?_; rfl; rfl; kernel_rfl; rfl; rfl
    conv => whnf
    repeat (first | (refine ⟨(by kernel_rfl : chkR _ _ _ _ = true), ?_⟩; conv => whnf) | (refine EvOr.go ?_; conv => whnf))
    refine CallG.use hC1 c90 [1] [] ?_ ?_ ?_ ?_ ?_ ?_; rfl; rfl; kernel_rfl; rfl; rfl
    conv => whnf
    repeat (first | (refine ⟨(by kernel_rfl : chkR _ _ _ _ = true), ?_⟩; conv => whnf) | (refine EvOr.go ?_; conv => whnf))
    refine CallG.use hC2 c90 [2] [] ?_ ?_ ?_ ?_ ?_ ?_; rfl; rfl; kernel_rfl; rfl; rfl
    conv => whnf
    repeat (first | (refine ⟨(by kernel_rfl : chkR _ _ _ _ = true), ?_⟩; conv => whnf) | (refine EvOr.go ?_; conv => whnf))
    refine CallG.use hC3 c91 [3] [] ?_ ?_ ?_ ?_ ?_ ?_; rfl; rfl; kernel_rfl; rfl; rfl
    conv => whnf
    repeat (first | (refine ⟨(by kernel_rfl : chkR _ _ _ _ = true), ?_⟩; conv => whnf) | (refine EvOr.go ?_; conv => whnf))
    refine CallG.use hC4 c92 [] [] ?_ ?_ ?_ ?_ ?_ ?_; rfl; rfl; kernel_rfl; rfl; rfl
    conv => whnf
    repeat (first | (refine ⟨(by kernel_rfl : chkR _ _ _ _ = true), ?_⟩; conv => whnf) | (refine EvOr.go ?_; conv => whnf))
    exact retQ.one rfl (.inr rfl) rfl (Nat.le_of_ble_eq_true rfl) rfl
  | inx J =>
    cases Ml with
    | nil =>
      have hC3 := clone91_0 J
      refine FunT.ev tabOk mixed Try.func31 rfl ?_
      conv => whnf
      repeat (first | (refine ⟨(by kernel_rfl : chkR _ _ _ _ = true), ?_⟩; conv => whnf) | (refine EvOr.go ?_; conv => whnf))
      refine CallG.use hI c89 [0, 1, 2, 3, 4] [] ?_ ?_ ?_ ?_ ?_ ?_; rfl; rfl; kernel_rfl; rfl; rfl
      conv => whnf
      repeat (first | (refine ⟨(by kernel_rfl : chkR _ _ _ _ = true), ?_⟩; conv => whnf) | (refine EvOr.go ?_; conv => whnf))
      refine CallG.use hC1 c90 [1] [] ?_ ?_ ?_ ?_ ?_ ?_; rfl; rfl; kernel_rfl; rfl; rfl
      conv => whnf
      repeat (first | (refine ⟨(by kernel_rfl : chkR _ _ _ _ = true), ?_⟩; conv => whnf) | (refine EvOr.go ?_; conv => whnf))
      refine CallG.use hC2 c90 [2] [] ?_ ?_ ?_ ?_ ?_ ?_; rfl; rfl; kernel_rfl; rfl; rfl
      conv => whnf
      repeat (first | (refine ⟨(by kernel_rfl : chkR _ _ _ _ = true), ?_⟩; conv => whnf) | (refine EvOr.go ?_; conv => whnf))
      refine CallG.use hC3 c91 [3] [] ?_ ?_ ?_ ?_ ?_ ?_; rfl; rfl; kernel_rfl; rfl; rfl
      conv => whnf
      repeat (first | (refine ⟨(by kernel_rfl : chkR _ _ _ _ = true), ?_⟩; conv => whnf) | (refine EvOr.go ?_; conv => whnf))
      refine CallG.use hC4 c92 [] [] ?_ ?_ ?_ ?_ ?_ ?_; rfl; rfl; kernel_rfl; rfl; rfl
      conv => whnf
      repeat (first | (refine ⟨(by kernel_rfl : chkR _ _ _ _ = true), ?_⟩; conv => whnf) | (refine EvOr.go ?_; conv => whnf))
      exact retQ.one rfl (.inr rfl) rfl (Nat.le_of_ble_eq_true rfl) rfl
    | cons p r =>
      have hC3 := clone91_1 (p :: r) J (by simp) hb
      refine FunT.ev tabOk mixed Try.func31 rfl ?_
      conv => whnf
      repeat (first | (refine ⟨(by kernel_rfl : chkR _ _ _ _ = true), ?_⟩; conv => whnf) | (refine EvOr.go ?_; conv => whnf))
      refine CallG.use hI c89 [0, 1, 2, 3, 4] [] ?_ ?_ ?_ ?_ ?_ ?_; rfl; rfl; kernel_rfl; rfl; rfl
      conv => whnf
      repeat (first | (refine ⟨(by kernel_rfl : chkR _ _ _ _ = true), ?_⟩; conv => whnf) | (refine EvOr.go ?_; conv => whnf))
      refine CallG.use hC1 c90 [1] [] ?_ ?_ ?_ ?_ ?_ ?_; rfl; rfl; kernel_rfl; rfl; rfl
      conv => whnf
      repeat (first | (refine ⟨(by kernel_rfl : chkR _ _ _ _ = true), ?_⟩; conv => whnf) | (refine EvOr.go ?_; conv => whnf))
      refine CallG.use hC2 c90 [2] [] ?_ ?_ ?_ ?_ ?_ ?_; rfl; rfl; kernel_rfl; rfl; rfl
      conv => whnf
      repeat (first | (refine ⟨(by kernel_rfl : chkR _ _ _ _ = true), ?_⟩; conv => whnf) | (refine EvOr.go ?_; conv => whnf))
      refine CallG.use hC3 c91 [3] [] ?_ ?_ ?_ ?_ ?_ ?_; rfl; rfl; kernel_rfl; rfl; rfl
      conv => whnf
      repeat (first | (refine ⟨(by kernel_rfl : chkR _ _ _ _ = true), ?_⟩; conv => whnf) | (refine EvOr.go ?_; conv => whnf))
      refine CallG.use hC4 c92 [] [] ?_ ?_ ?_ ?_ ?_ ?_; rfl; rfl; kernel_rfl; rfl; rfl
      conv => whnf
      repeat (first | (refine ⟨(by kernel_rfl : chkR _ _ _ _ = true), ?_⟩; conv => whnf) | (refine EvOr.go ?_; conv => whnf))
      exact retQ.one rfl (.inr rfl) rfl (Nat.le_of_ble_eq_true rfl) rfl
end Go.Proofs.Ytdmcbfmpnakdfaa.Eng
