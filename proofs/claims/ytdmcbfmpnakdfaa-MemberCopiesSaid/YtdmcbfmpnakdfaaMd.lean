/- A member: a log settled. -/
import Derived.Test.YtdmcbfmpnakdfaaMc
namespace Go.Proofs.Ytdmcbfmpnakdfaa.Eng
open Go Go.Proofs
set_option maxRecDepth 20000
set_option maxHeartbeats 4000000
def settIF  (Mn : Int) (Ms Md Ml : Img) (Mf Mh : Bool) (J : List Segs) (mk : Mk) (x : {k : Nat // k ≤ Ml.length}) : LTm × LHp :=
  ([mpv, .sc (.fn (.func 88) [] []), .junk, .junk, .junk, .junk, .junk, .junk, .junk, .sc (.sl 3 0 65 Ml.length none), iv (Ml.length : Nat), iv (x.1 : Nat), .junk, .junk, .junk, .junk, .junk, .junk, .junk, .junk, .junk, .junk, .junk, .junk, .junk, .junk, .junk, .junk, .junk, .junk, .junk, .junk, .junk, .junk, .junk, .junk, .junk, .junk, .junk, .junk],
   [some (memB ⟨Mn, Ms, Md, Ml, Mf, Mh⟩ (.inx J) mk), imB Ms, imB (kept Md Ml (allPick) x.1), logB ⟨Mn, Ms, Md, Ml, Mf, Mh⟩ (.inx J), none])
theorem settleF (M : Mem) (lg : Lg) (mk : Mk)  (hlg : lg.ok M.log) (hb : M.log.length < 2 ^ 62) :
    FunT Try.prog 87 [mpv, .sc (.fn (.func 88) [] [])] [some (memB M lg mk), imB M.seen, imB M.dur, logB M lg, none] (.tup []) [cB M mk (allPick) 5, none, cD M (allPick), none, none, cD M (allPick)] := by
  obtain ⟨Mn, Ms, Md, Ml, Mf, Mh⟩ := M
  cases lg with
  | nil =>
    obtain rfl : Ml = [] := hlg
    have hC := clone_ok Md
    cases mk <;>
    · refine FunT.ev tabOk mixed Try.func87 rfl ?_
      conv => whnf
      repeat (first | (refine ⟨(by kernel_rfl : chkR _ _ _ _ = true), ?_⟩; conv => whnf) | (refine EvOr.go ?_; conv => whnf))
      refine CodeS.loop0 tabOk mixed (Nat.le_of_ble_eq_true rfl) ?_
      conv => whnf
      repeat (first | (refine ⟨(by kernel_rfl : chkR _ _ _ _ = true), ?_⟩; conv => whnf) | (refine EvOr.go ?_; conv => whnf))
      intro c hc
      obtain rfl : c = false := by rw [hc]; rfl
      conv => whnf
      repeat (first | (refine ⟨(by kernel_rfl : chkR _ _ _ _ = true), ?_⟩; conv => whnf) | (refine EvOr.go ?_; conv => whnf))
      refine CallG.use hC c90 [2] [] ?_ ?_ ?_ ?_ ?_ ?_; rfl; rfl; kernel_rfl; rfl; rfl
      conv => whnf
      repeat (first | (refine ⟨(by kernel_rfl : chkR _ _ _ _ = true), ?_⟩; conv => whnf) | (refine EvOr.go ?_; conv => whnf))
      exact retQ.zero rfl (by first | exact .inl rfl | exact .inr rfl) rfl (Nat.le_of_ble_eq_true rfl) rfl
  | ex =>
    obtain rfl : Ml = [] := hlg
    have hC := clone_ok Md
    cases mk <;>
    · refine FunT.ev tabOk mixed Try.func87 rfl ?_
      conv => whnf
      repeat (first | (refine ⟨(by kernel_rfl : chkR _ _ _ _ = true), ?_⟩; conv => whnf) | (refine EvOr.go ?_; conv => whnf))
      refine CodeS.loop0 tabOk mixed (Nat.le_of_ble_eq_true rfl) ?_
      conv => whnf
      repeat (first | (refine ⟨(by kernel_rfl : chkR _ _ _ _ = true), ?_⟩; conv => whnf) | (refine EvOr.go ?_; conv => whnf))
      intro c hc
      obtain rfl : c = false := by rw [hc]; rfl
      conv => whnf
      repeat (first | (refine ⟨(by kernel_rfl : chkR _ _ _ _ = true), ?_⟩; conv => whnf) | (refine EvOr.go ?_; conv => whnf))
      refine CallG.use hC c90 [2] [] ?_ ?_ ?_ ?_ ?_ ?_; rfl; rfl; kernel_rfl; rfl; rfl
      conv => whnf
      repeat (first | (refine ⟨(by kernel_rfl : chkR _ _ _ _ = true), ?_⟩; conv => whnf) | (refine EvOr.go ?_; conv => whnf))
      exact retQ.zero rfl (by first | exact .inl rfl | exact .inr rfl) rfl (Nat.le_of_ble_eq_true rfl) rfl
  | inx J =>
    have hb : Ml.length < 2 ^ 62 := hb
    cases hmk : mk <;>
    · refine FunT.ev tabOk mixed Try.func87 rfl ?_
      conv => whnf
      repeat (first | (refine ⟨(by kernel_rfl : chkR _ _ _ _ = true), ?_⟩; conv => whnf) | (refine EvOr.go ?_; conv => whnf))
      refine CodeT.loopE tabOk mixed (settIF  Mn Ms Md Ml Mf Mh J mk) (fun x => Ml.length - x.1) ⟨0, Nat.zero_le _⟩ (fun i => i) (StW.same (Nat.le_of_ble_eq_true rfl) rfl (by rw [hmk]; rfl)) (fun _ => rfl) ?_
      rw [hmk]
      intro ⟨k, hkl⟩
      have hK := keepF_ok k
      have hP := fun hk : k < Ml.length => put_ok (kept Md Ml (allPick) k) Ml[k].1 Ml[k].2
      have hC := clone_ok (kept Md Ml (allPick) k)
      conv => whnf
      repeat (first | (refine ⟨(by kernel_rfl : chkR _ _ _ _ = true), ?_⟩; conv => whnf) | (refine EvOr.go ?_; conv => whnf))
      intro c hc
      by_cases hk : k < Ml.length
      · obtain rfl : c = true := by rw [hc]; simp; exact hk
        replace hP := hP hk
        have hs := kept_succ (D := Md) (keep := allPick) hk
        conv => whnf
        repeat (first | (refine ⟨(by kernel_rfl : chkR _ _ _ _ = true), ?_⟩; conv => whnf) | (refine EvOr.go ?_; conv => whnf))
        refine ⟨⟨by omega, by show (k : Int) < _; omega⟩, ?_⟩
        conv => whnf
        repeat (first | (refine ⟨(by kernel_rfl : chkR _ _ _ _ = true), ?_⟩; conv => whnf) | (refine EvOr.go ?_; conv => whnf))
        refine ⟨_, log_get hk, ?_⟩
        conv => whnf
        repeat (first | (refine ⟨(by kernel_rfl : chkR _ _ _ _ = true), ?_⟩; conv => whnf) | (refine EvOr.go ?_; conv => whnf))
        cases hp : (allPick) k
        · rw [hp] at hK hs
          refine CallG.use hK c88 [] [] ?_ ?_ ?_ ?_ ?_ ?_; rfl; rfl; kernel_rfl; rfl; rfl
          conv => whnf
          repeat (first | (refine ⟨(by kernel_rfl : chkR _ _ _ _ = true), ?_⟩; conv => whnf) | (refine EvOr.go ?_; conv => whnf))
          refine ⟨((k + 1 : Nat) : Int), inc_nat (by show k < _; omega), ?_⟩
          conv => whnf
          repeat (first | (refine ⟨(by kernel_rfl : chkR _ _ _ _ = true), ?_⟩; conv => whnf) | (refine EvOr.go ?_; conv => whnf))
          exact ⟨⟨k + 1, hk⟩, fun i => i, StW.same (Nat.le_of_ble_eq_true rfl) rfl (by simp only [settIF, hs]; rfl), by show Ml.length - (k + 1) < Ml.length - k; omega⟩
        · rw [hp] at hK hs
          refine CallG.use hK c88 [] [] ?_ ?_ ?_ ?_ ?_ ?_; rfl; rfl; kernel_rfl; rfl; rfl
          conv => whnf
          repeat (first | (refine ⟨(by kernel_rfl : chkR _ _ _ _ = true), ?_⟩; conv => whnf) | (refine EvOr.go ?_; conv => whnf))
          refine CallG.use hP c94 [2] [0] ?_ ?_ ?_ ?_ ?_ ?_; rfl; rfl; kernel_rfl; rfl; rfl
          conv => whnf
          repeat (first | (refine ⟨(by kernel_rfl : chkR _ _ _ _ = true), ?_⟩; conv => whnf) | (refine EvOr.go ?_; conv => whnf))
          refine ⟨((k + 1 : Nat) : Int), inc_nat (by show k < _; omega), ?_⟩
          conv => whnf
          repeat (first | (refine ⟨(by kernel_rfl : chkR _ _ _ _ = true), ?_⟩; conv => whnf) | (refine EvOr.go ?_; conv => whnf))
          exact ⟨⟨k + 1, hk⟩, fun i => i, StW.same (Nat.le_of_ble_eq_true rfl) rfl (by simp only [settIF, hs]; rfl), by show Ml.length - (k + 1) < Ml.length - k; omega⟩
      · obtain rfl : c = false := by rw [hc]; simp; omega
        conv => whnf
        repeat (first | (refine ⟨(by kernel_rfl : chkR _ _ _ _ = true), ?_⟩; conv => whnf) | (refine EvOr.go ?_; conv => whnf))
        obtain rfl : k = Ml.length := by omega
        refine CallG.use hC c90 [2] [] ?_ ?_ ?_ ?_ ?_ ?_; rfl; rfl; kernel_rfl; rfl; rfl
        conv => whnf
        repeat (first | (refine ⟨(by kernel_rfl : chkR _ _ _ _ = true), ?_⟩; conv => whnf) | (refine EvOr.go ?_; conv => whnf))
        exact retQ.zero rfl (by first | exact .inl rfl | exact .inr rfl) rfl (Nat.le_of_ble_eq_true rfl) rfl
def settIR (pk : List Int) (Mn : Int) (Ms Md Ml : Img) (Mf Mh : Bool) (J : List Segs) (mk : Mk) (x : {k : Nat // k ≤ Ml.length}) : LTm × LHp :=
  ([mpv, .sc (.fn (.func 93) [] [.ptr 5 0 1 0]), .junk, .junk, .junk, .junk, .junk, .junk, .junk, .sc (.sl 3 0 65 Ml.length none), iv (Ml.length : Nat), iv (x.1 : Nat), .junk, .junk, .junk, .junk, .junk, .junk, .junk, .junk, .junk, .junk, .junk, .junk, .junk, .junk, .junk, .junk, .junk, .junk, .junk, .junk, .junk, .junk, .junk, .junk, .junk, .junk, .junk, .junk],
   [some (memB ⟨Mn, Ms, Md, Ml, Mf, Mh⟩ (.inx J) mk), imB Ms, imB (kept Md Ml (picked pk) x.1), logB ⟨Mn, Ms, Md, Ml, Mf, Mh⟩ (.inx J), none, boxR pk 6, pkR pk])
theorem settleR (M : Mem) (lg : Lg) (mk : Mk) (pk : List Int) (hlg : lg.ok M.log) (hb : M.log.length < 2 ^ 62) :
    FunT Try.prog 87 [mpv, .sc (.fn (.func 93) [] [.ptr 5 0 1 0])] [some (memB M lg mk), imB M.seen, imB M.dur, logB M lg, none, boxR pk 6, pkR pk] (.tup []) [cB M mk (picked pk) 7, none, cD M (picked pk), none, none, boxR pk 6, pkR pk, cD M (picked pk)] := by
  obtain ⟨Mn, Ms, Md, Ml, Mf, Mh⟩ := M
  cases lg with
  | nil =>
    obtain rfl : Ml = [] := hlg
    have hC := clone_ok Md
    cases mk <;>
    · refine FunT.ev tabOk mixed Try.func87 rfl ?_
      conv => whnf
      repeat (first | (refine ⟨(by kernel_rfl : chkR _ _ _ _ = true), ?_⟩; conv => whnf) | (refine EvOr.go ?_; conv => whnf))
      refine CodeS.loop0 tabOk mixed (Nat.le_of_ble_eq_true rfl) ?_
      conv => whnf
      repeat (first | (refine ⟨(by kernel_rfl : chkR _ _ _ _ = true), ?_⟩; conv => whnf) | (refine EvOr.go ?_; conv => whnf))
      intro c hc
      obtain rfl : c = false := by rw [hc]; rfl
      conv => whnf
      repeat (first | (refine ⟨(by kernel_rfl : chkR _ _ _ _ = true), ?_⟩; conv => whnf) | (refine EvOr.go ?_; conv => whnf))
      refine CallG.use hC c90 [2] [] ?_ ?_ ?_ ?_ ?_ ?_; rfl; rfl; kernel_rfl; rfl; rfl
      conv => whnf
      repeat (first | (refine ⟨(by kernel_rfl : chkR _ _ _ _ = true), ?_⟩; conv => whnf) | (refine EvOr.go ?_; conv => whnf))
      exact retQ.zero rfl (by first | exact .inl rfl | exact .inr rfl) rfl (Nat.le_of_ble_eq_true rfl) rfl
  | ex =>
    obtain rfl : Ml = [] := hlg
    have hC := clone_ok Md
    cases mk <;>
    · refine FunT.ev tabOk mixed Try.func87 rfl ?_
      conv => whnf
      repeat (first | (refine ⟨(by kernel_rfl : chkR _ _ _ _ = true), ?_⟩; conv => whnf) | (refine EvOr.go ?_; conv => whnf))
      refine CodeS.loop0 tabOk mixed (Nat.le_of_ble_eq_true rfl) ?_
      conv => whnf
      repeat (first | (refine ⟨(by kernel_rfl : chkR _ _ _ _ = true), ?_⟩; conv => whnf) | (refine EvOr.go ?_; conv => whnf))
      intro c hc
      obtain rfl : c = false := by rw [hc]; rfl
      conv => whnf
      repeat (first | (refine ⟨(by kernel_rfl : chkR _ _ _ _ = true), ?_⟩; conv => whnf) | (refine EvOr.go ?_; conv => whnf))
      refine CallG.use hC c90 [2] [] ?_ ?_ ?_ ?_ ?_ ?_; rfl; rfl; kernel_rfl; rfl; rfl
      conv => whnf
      repeat (first | (refine ⟨(by kernel_rfl : chkR _ _ _ _ = true), ?_⟩; conv => whnf) | (refine EvOr.go ?_; conv => whnf))
      exact retQ.zero rfl (by first | exact .inl rfl | exact .inr rfl) rfl (Nat.le_of_ble_eq_true rfl) rfl
  | inx J =>
    have hb : Ml.length < 2 ^ 62 := hb
    cases hmk : mk <;>
    · refine FunT.ev tabOk mixed Try.func87 rfl ?_
      conv => whnf
      repeat (first | (refine ⟨(by kernel_rfl : chkR _ _ _ _ = true), ?_⟩; conv => whnf) | (refine EvOr.go ?_; conv => whnf))
      refine CodeT.loopE tabOk mixed (settIR pk Mn Ms Md Ml Mf Mh J mk) (fun x => Ml.length - x.1) ⟨0, Nat.zero_le _⟩ (fun i => i) (StW.same (Nat.le_of_ble_eq_true rfl) rfl (by rw [hmk]; rfl)) (fun _ => rfl) ?_
      rw [hmk]
      intro ⟨k, hkl⟩
      have hK := keepR_ok pk k
      have hP := fun hk : k < Ml.length => put_ok (kept Md Ml (picked pk) k) Ml[k].1 Ml[k].2
      have hC := clone_ok (kept Md Ml (picked pk) k)
      conv => whnf
      repeat (first | (refine ⟨(by kernel_rfl : chkR _ _ _ _ = true), ?_⟩; conv => whnf) | (refine EvOr.go ?_; conv => whnf))
      intro c hc
      by_cases hk : k < Ml.length
      · obtain rfl : c = true := by rw [hc]; simp; exact hk
        replace hP := hP hk
        have hs := kept_succ (D := Md) (keep := picked pk) hk
        conv => whnf
        repeat (first | (refine ⟨(by kernel_rfl : chkR _ _ _ _ = true), ?_⟩; conv => whnf) | (refine EvOr.go ?_; conv => whnf))
        refine ⟨⟨by omega, by show (k : Int) < _; omega⟩, ?_⟩
        conv => whnf
        repeat (first | (refine ⟨(by kernel_rfl : chkR _ _ _ _ = true), ?_⟩; conv => whnf) | (refine EvOr.go ?_; conv => whnf))
        refine ⟨_, log_get hk, ?_⟩
        conv => whnf
        repeat (first | (refine ⟨(by kernel_rfl : chkR _ _ _ _ = true), ?_⟩; conv => whnf) | (refine EvOr.go ?_; conv => whnf))
        cases hp : (picked pk) k
        · rw [hp] at hK hs
          refine CallG.use hK c93 [5, 6] [] ?_ ?_ ?_ ?_ ?_ ?_; rfl; rfl; kernel_rfl; rfl; rfl
          conv => whnf
          repeat (first | (refine ⟨(by kernel_rfl : chkR _ _ _ _ = true), ?_⟩; conv => whnf) | (refine EvOr.go ?_; conv => whnf))
          refine ⟨((k + 1 : Nat) : Int), inc_nat (by show k < _; omega), ?_⟩
          conv => whnf
          repeat (first | (refine ⟨(by kernel_rfl : chkR _ _ _ _ = true), ?_⟩; conv => whnf) | (refine EvOr.go ?_; conv => whnf))
          exact ⟨⟨k + 1, hk⟩, fun i => i, StW.same (Nat.le_of_ble_eq_true rfl) rfl (by simp only [settIR, hs]; rfl), by show Ml.length - (k + 1) < Ml.length - k; omega⟩
        · rw [hp] at hK hs
          refine CallG.use hK c93 [5, 6] [] ?_ ?_ ?_ ?_ ?_ ?_; rfl; rfl; kernel_rfl; rfl; rfl
          conv => whnf
          repeat (first | (refine ⟨(by kernel_rfl : chkR _ _ _ _ = true), ?_⟩; conv => whnf) | (refine EvOr.go ?_; conv => whnf))
          refine CallG.use hP c94 [2] [0] ?_ ?_ ?_ ?_ ?_ ?_; rfl; rfl; kernel_rfl; rfl; rfl
          conv => whnf
          repeat (first | (refine ⟨(by kernel_rfl : chkR _ _ _ _ = true), ?_⟩; conv => whnf) | (refine EvOr.go ?_; conv => whnf))
          refine ⟨((k + 1 : Nat) : Int), inc_nat (by show k < _; omega), ?_⟩
          conv => whnf
          repeat (first | (refine ⟨(by kernel_rfl : chkR _ _ _ _ = true), ?_⟩; conv => whnf) | (refine EvOr.go ?_; conv => whnf))
          exact ⟨⟨k + 1, hk⟩, fun i => i, StW.same (Nat.le_of_ble_eq_true rfl) rfl (by simp only [settIR, hs]; rfl), by show Ml.length - (k + 1) < Ml.length - k; omega⟩
      · obtain rfl : c = false := by rw [hc]; simp; omega
        conv => whnf
        repeat (first | (refine ⟨(by kernel_rfl : chkR _ _ _ _ = true), ?_⟩; conv => whnf) | (refine EvOr.go ?_; conv => whnf))
        obtain rfl : k = Ml.length := by omega
        refine CallG.use hC c90 [2] [] ?_ ?_ ?_ ?_ ?_ ?_; rfl; rfl; kernel_rfl; rfl; rfl
        conv => whnf
        repeat (first | (refine ⟨(by kernel_rfl : chkR _ _ _ _ = true), ?_⟩; conv => whnf) | (refine EvOr.go ?_; conv => whnf))
        exact retQ.zero rfl (by first | exact .inl rfl | exact .inr rfl) rfl (Nat.le_of_ble_eq_true rfl) rfl
def settIN (ad : Option Addr) (cp : Nat) (Mn : Int) (Ms Md Ml : Img) (Mf Mh : Bool) (J : List Segs) (mk : Mk) (x : {k : Nat // k ≤ Ml.length}) : LTm × LHp :=
  ([mpv, .sc (.fn (.func 93) [] [.ptr 5 0 1 0]), .junk, .junk, .junk, .junk, .junk, .junk, .junk, .sc (.sl 3 0 65 Ml.length none), iv (Ml.length : Nat), iv (x.1 : Nat), .junk, .junk, .junk, .junk, .junk, .junk, .junk, .junk, .junk, .junk, .junk, .junk, .junk, .junk, .junk, .junk, .junk, .junk, .junk, .junk, .junk, .junk, .junk, .junk, .junk, .junk, .junk, .junk],
   [some (memB ⟨Mn, Ms, Md, Ml, Mf, Mh⟩ (.inx J) mk), imB Ms, imB (kept Md Ml (noPick) x.1), logB ⟨Mn, Ms, Md, Ml, Mf, Mh⟩ (.inx J), none, boxN ad cp])
theorem settleN (M : Mem) (lg : Lg) (mk : Mk) (ad : Option Addr) (cp : Nat) (hlg : lg.ok M.log) (hb : M.log.length < 2 ^ 62) :
    FunT Try.prog 87 [mpv, .sc (.fn (.func 93) [] [.ptr 5 0 1 0])] [some (memB M lg mk), imB M.seen, imB M.dur, logB M lg, none, boxN ad cp] (.tup []) [cB M mk (noPick) 6, none, cD M (noPick), none, none, boxN ad cp, cD M (noPick)] := by
  obtain ⟨Mn, Ms, Md, Ml, Mf, Mh⟩ := M
  cases lg with
  | nil =>
    obtain rfl : Ml = [] := hlg
    have hC := clone_ok Md
    cases mk <;>
    · refine FunT.ev tabOk mixed Try.func87 rfl ?_
      conv => whnf
      repeat (first | (refine ⟨(by kernel_rfl : chkR _ _ _ _ = true), ?_⟩; conv => whnf) | (refine EvOr.go ?_; conv => whnf))
      refine CodeS.loop0 tabOk mixed (Nat.le_of_ble_eq_true rfl) ?_
      conv => whnf
      repeat (first | (refine ⟨(by kernel_rfl : chkR _ _ _ _ = true), ?_⟩; conv => whnf) | (refine EvOr.go ?_; conv => whnf))
      intro c hc
      obtain rfl : c = false := by rw [hc]; rfl
      conv => whnf
      repeat (first | (refine ⟨(by kernel_rfl : chkR _ _ _ _ = true), ?_⟩; conv => whnf) | (refine EvOr.go ?_; conv => whnf))
      refine CallG.use hC c90 [2] [] ?_ ?_ ?_ ?_ ?_ ?_; rfl; rfl; kernel_rfl; rfl; rfl
      conv => whnf
      repeat (first | (refine ⟨(by kernel_rfl : chkR _ _ _ _ = true), ?_⟩; conv => whnf) | (refine EvOr.go ?_; conv => whnf))
      exact retQ.zero rfl (by first | exact .inl rfl | exact .inr rfl) rfl (Nat.le_of_ble_eq_true rfl) rfl
  | ex =>
    obtain rfl : Ml = [] := hlg
    have hC := clone_ok Md
    cases mk <;>
    · refine FunT.ev tabOk mixed Try.func87 rfl ?_
      conv => whnf
      repeat (first | (refine ⟨(by kernel_rfl : chkR _ _ _ _ = true), ?_⟩; conv => whnf) | (refine EvOr.go ?_; conv => whnf))
      refine CodeS.loop0 tabOk mixed (Nat.le_of_ble_eq_true rfl) ?_
      conv => whnf
      repeat (first | (refine ⟨(by kernel_rfl : chkR _ _ _ _ = true), ?_⟩; conv => whnf) | (refine EvOr.go ?_; conv => whnf))
      intro c hc
      obtain rfl : c = false := by rw [hc]; rfl
      conv => whnf
      repeat (first | (refine ⟨(by kernel_rfl : chkR _ _ _ _ = true), ?_⟩; conv => whnf) | (refine EvOr.go ?_; conv => whnf))
      refine CallG.use hC c90 [2] [] ?_ ?_ ?_ ?_ ?_ ?_; rfl; rfl; kernel_rfl; rfl; rfl
      conv => whnf
      repeat (first | (refine ⟨(by kernel_rfl : chkR _ _ _ _ = true), ?_⟩; conv => whnf) | (refine EvOr.go ?_; conv => whnf))
      exact retQ.zero rfl (by first | exact .inl rfl | exact .inr rfl) rfl (Nat.le_of_ble_eq_true rfl) rfl
  | inx J =>
    have hb : Ml.length < 2 ^ 62 := hb
    cases hmk : mk <;>
    · refine FunT.ev tabOk mixed Try.func87 rfl ?_
      conv => whnf
      repeat (first | (refine ⟨(by kernel_rfl : chkR _ _ _ _ = true), ?_⟩; conv => whnf) | (refine EvOr.go ?_; conv => whnf))
      refine CodeT.loopE tabOk mixed (settIN ad cp Mn Ms Md Ml Mf Mh J mk) (fun x => Ml.length - x.1) ⟨0, Nat.zero_le _⟩ (fun i => i) (StW.same (Nat.le_of_ble_eq_true rfl) rfl (by rw [hmk]; rfl)) (fun _ => rfl) ?_
      rw [hmk]
      intro ⟨k, hkl⟩
      have hK := keepN_ok ad cp k
      have hP := fun hk : k < Ml.length => put_ok (kept Md Ml (noPick) k) Ml[k].1 Ml[k].2
      have hC := clone_ok (kept Md Ml (noPick) k)
      conv => whnf
      repeat (first | (refine ⟨(by kernel_rfl : chkR _ _ _ _ = true), ?_⟩; conv => whnf) | (refine EvOr.go ?_; conv => whnf))
      intro c hc
      by_cases hk : k < Ml.length
      · obtain rfl : c = true := by rw [hc]; simp; exact hk
        replace hP := hP hk
        have hs := kept_succ (D := Md) (keep := noPick) hk
        conv => whnf
        repeat (first | (refine ⟨(by kernel_rfl : chkR _ _ _ _ = true), ?_⟩; conv => whnf) | (refine EvOr.go ?_; conv => whnf))
        refine ⟨⟨by omega, by show (k : Int) < _; omega⟩, ?_⟩
        conv => whnf
        repeat (first | (refine ⟨(by kernel_rfl : chkR _ _ _ _ = true), ?_⟩; conv => whnf) | (refine EvOr.go ?_; conv => whnf))
        refine ⟨_, log_get hk, ?_⟩
        conv => whnf
        repeat (first | (refine ⟨(by kernel_rfl : chkR _ _ _ _ = true), ?_⟩; conv => whnf) | (refine EvOr.go ?_; conv => whnf))
        cases hp : (noPick) k
        · rw [hp] at hK hs
          refine CallG.use hK c93 [5] [] ?_ ?_ ?_ ?_ ?_ ?_; rfl; rfl; kernel_rfl; rfl; rfl
          conv => whnf
          repeat (first | (refine ⟨(by kernel_rfl : chkR _ _ _ _ = true), ?_⟩; conv => whnf) | (refine EvOr.go ?_; conv => whnf))
          refine ⟨((k + 1 : Nat) : Int), inc_nat (by show k < _; omega), ?_⟩
          conv => whnf
          repeat (first | (refine ⟨(by kernel_rfl : chkR _ _ _ _ = true), ?_⟩; conv => whnf) | (refine EvOr.go ?_; conv => whnf))
          exact ⟨⟨k + 1, hk⟩, fun i => i, StW.same (Nat.le_of_ble_eq_true rfl) rfl (by simp only [settIN, hs]; rfl), by show Ml.length - (k + 1) < Ml.length - k; omega⟩
        · rw [hp] at hK hs
          refine CallG.use hK c93 [5] [] ?_ ?_ ?_ ?_ ?_ ?_; rfl; rfl; kernel_rfl; rfl; rfl
          conv => whnf
          repeat (first | (refine ⟨(by kernel_rfl : chkR _ _ _ _ = true), ?_⟩; conv => whnf) | (refine EvOr.go ?_; conv => whnf))
          refine CallG.use hP c94 [2] [0] ?_ ?_ ?_ ?_ ?_ ?_; rfl; rfl; kernel_rfl; rfl; rfl
          conv => whnf
          repeat (first | (refine ⟨(by kernel_rfl : chkR _ _ _ _ = true), ?_⟩; conv => whnf) | (refine EvOr.go ?_; conv => whnf))
          refine ⟨((k + 1 : Nat) : Int), inc_nat (by show k < _; omega), ?_⟩
          conv => whnf
          repeat (first | (refine ⟨(by kernel_rfl : chkR _ _ _ _ = true), ?_⟩; conv => whnf) | (refine EvOr.go ?_; conv => whnf))
          exact ⟨⟨k + 1, hk⟩, fun i => i, StW.same (Nat.le_of_ble_eq_true rfl) rfl (by simp only [settIN, hs]; rfl), by show Ml.length - (k + 1) < Ml.length - k; omega⟩
      · obtain rfl : c = false := by rw [hc]; simp; omega
        conv => whnf
        repeat (first | (refine ⟨(by kernel_rfl : chkR _ _ _ _ = true), ?_⟩; conv => whnf) | (refine EvOr.go ?_; conv => whnf))
        obtain rfl : k = Ml.length := by omega
        refine CallG.use hC c90 [2] [] ?_ ?_ ?_ ?_ ?_ ?_; rfl; rfl; kernel_rfl; rfl; rfl
        conv => whnf
        repeat (first | (refine ⟨(by kernel_rfl : chkR _ _ _ _ = true), ?_⟩; conv => whnf) | (refine EvOr.go ?_; conv => whnf))
        exact retQ.zero rfl (by first | exact .inl rfl | exact .inr rfl) rfl (Nat.le_of_ble_eq_true rfl) rfl
end Go.Proofs.Ytdmcbfmpnakdfaa.Eng
