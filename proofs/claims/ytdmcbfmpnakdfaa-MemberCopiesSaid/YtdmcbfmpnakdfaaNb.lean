/- Crash, its picks a slice literal. -/
import Derived.Test.YtdmcbfmpnakdfaaNa
namespace Go.Proofs.Ytdmcbfmpnakdfaa.Eng
open Go Go.Proofs
set_option maxRecDepth 20000
set_option maxHeartbeats 4000000
abbrev boxS (pk : List Int) (id : Nat) : Option ABlk := some (.row .one 44 1 [[.one (.sl id 0 1 pk.length (some pk.length))]] [id])
theorem keepS2_ok (pk : List Int) (k : Nat) : FunT Try.prog 93 [iv (k : Nat), .sc (.ptr 0 0 1 0)] [boxS pk 1, pkR pk] (bv (picked pk k)) [boxS pk 1, pkR pk] := by
  refine FunT.ev tabOk mixed Try.func93 rfl ?_
  conv => whnf
  repeat (first | (refine ⟨(by kernel_rfl : chkR _ _ _ _ = true), ?_⟩; conv => whnf) | (refine EvOr.go ?_; conv => whnf))
  intro c hc
  cases c
  · conv => whnf
    repeat (first | (refine ⟨(by kernel_rfl : chkR _ _ _ _ = true), ?_⟩; conv => whnf) | (refine EvOr.go ?_; conv => whnf))
    refine retQ.one rfl (.inr rfl) ?_ (Nat.le_of_ble_eq_true rfl) rfl
    have : picked pk k = false := by unfold picked; simp at hc; rw [decide_eq_false (by omega)]; rfl
    rw [this]; rfl
  · conv => whnf
    repeat (first | (refine ⟨(by kernel_rfl : chkR _ _ _ _ = true), ?_⟩; conv => whnf) | (refine EvOr.go ?_; conv => whnf))
    have hk : k < pk.length := by simpa using hc
    refine ⟨⟨by omega, by omega⟩, ?_⟩
    conv => whnf
    repeat (first | (refine ⟨(by kernel_rfl : chkR _ _ _ _ = true), ?_⟩; conv => whnf) | (refine EvOr.go ?_; conv => whnf))
    refine ⟨_, by rw [Nat.zero_add, Int.toNat_natCast, List.getElem?_map, List.getElem?_eq_getElem hk]; rfl, ?_⟩
    conv => whnf
    repeat (first | (refine ⟨(by kernel_rfl : chkR _ _ _ _ = true), ?_⟩; conv => whnf) | (refine EvOr.go ?_; conv => whnf))
    intro c hc
    have : picked pk k = c := by
      unfold picked
      rw [decide_eq_true hk, hc]
      simp [hk]
    cases c
    · conv => whnf
      repeat (first | (refine ⟨(by kernel_rfl : chkR _ _ _ _ = true), ?_⟩; conv => whnf) | (refine EvOr.go ?_; conv => whnf))
      refine retQ.one rfl (.inr rfl) ?_ (Nat.le_of_ble_eq_true rfl) rfl
      rw [this]; rfl
    · conv => whnf
      repeat (first | (refine ⟨(by kernel_rfl : chkR _ _ _ _ = true), ?_⟩; conv => whnf) | (refine EvOr.go ?_; conv => whnf))
      refine retQ.one rfl (.inr rfl) ?_ (Nat.le_of_ble_eq_true rfl) rfl
      rw [this]; rfl
def settIS (pk : List Int) (Mn : Int) (Ms Md Ml : Img) (Mf Mh : Bool) (J : List Segs) (mk : Mk) (x : {k : Nat // k ≤ Ml.length}) : LTm × LHp :=
  ([mpv, .sc (.fn (.func 93) [] [.ptr 5 0 1 0]), .junk, .junk, .junk, .junk, .junk, .junk, .junk, .sc (.sl 3 0 65 Ml.length none), iv (Ml.length : Nat), iv (x.1 : Nat), .junk, .junk, .junk, .junk, .junk, .junk, .junk, .junk, .junk, .junk, .junk, .junk, .junk, .junk, .junk, .junk, .junk, .junk, .junk, .junk, .junk, .junk, .junk, .junk, .junk, .junk, .junk, .junk],
   [some (memB ⟨Mn, Ms, Md, Ml, Mf, Mh⟩ (.inx J) mk), imB Ms, imB (kept Md Ml (picked pk) x.1), logB ⟨Mn, Ms, Md, Ml, Mf, Mh⟩ (.inx J), none, boxS pk 6, pkR pk])
theorem settleS (M : Mem) (lg : Lg) (mk : Mk) (pk : List Int) (hlg : lg.ok M.log) (hb : M.log.length < 2 ^ 62) :
    FunT Try.prog 87 [mpv, .sc (.fn (.func 93) [] [.ptr 5 0 1 0])] [some (memB M lg mk), imB M.seen, imB M.dur, logB M lg, none, boxS pk 6, pkR pk] (.tup []) [cB M mk (picked pk) 7, none, cD M (picked pk), none, none, boxS pk 6, pkR pk, cD M (picked pk)] := by
  obtain ⟨Mn, Ms, Md, Ml, Mf, Mh⟩ := M
  cases lg with
  | nil =>
    obtain rfl : Ml = [] := hlg
    have hC := clone_ok Md
    cases mk <;>
    · refine FunT.ev tabOk mixed Try.func87 rfl ?_
      conv => whnf
      repeat (first | (refine ⟨(by kernel_rfl : chkR _ _ _ _ = true), ?_⟩; conv => whnf) | (refine EvOr.go ?_; conv => whnf))
      refine CodeS.loop0 tabOk mixed (Nat.le_of_ble_eq_true rfl) ?_
      conv => whnf
      repeat (first | (refine ⟨(by kernel_rfl : chkR _ _ _ _ = true), ?_⟩; conv => whnf) | (refine EvOr.go ?_; conv => whnf))
      intro c hc
      obtain rfl : c = false := by rw [hc]; rfl
      conv => whnf
      repeat (first | (refine ⟨(by kernel_rfl : chkR _ _ _ _ = true), ?_⟩; conv => whnf) | (refine EvOr.go ?_; conv => whnf))
      refine CallG.use hC c90 [2] [] ?_ ?_ ?_ ?_ ?_ ?_; rfl; rfl; kernel_rfl; rfl; rfl
      conv => whnf
      repeat (first | (refine ⟨(by kernel_rfl : chkR _ _ _ _ = true), ?_⟩; conv => whnf) | (refine EvOr.go ?_; conv => whnf))
      exact retQ.zero rfl (by first | exact .inl rfl | exact .inr rfl) rfl (Nat.le_of_ble_eq_true rfl) rfl
  | ex =>
    obtain rfl : Ml = [] := hlg
    have hC := clone_ok Md
    cases mk <;>
    · refine FunT.ev tabOk mixed Try.func87 rfl ?_
      conv => whnf
      repeat (first | (refine ⟨(by kernel_rfl : chkR _ _ _ _ = true), ?_⟩; conv => whnf) | (refine EvOr.go ?_; conv => whnf))
      refine CodeS.loop0 tabOk mixed (Nat.le_of_ble_eq_true rfl) ?_
      conv => whnf
      repeat (first | (refine ⟨(by kernel_rfl : chkR _ _ _ _ = true), ?_⟩; conv => whnf) | (refine EvOr.go ?_; conv => whnf))
      intro c hc
      obtain rfl : c = false := by rw [hc]; rfl
      conv => whnf
      repeat (first | (refine ⟨(by kernel_rfl : chkR _ _ _ _ = true), ?_⟩; conv => whnf) | (refine EvOr.go ?_; conv => whnf))
      refine CallG.use hC c90 [2] [] ?_ ?_ ?_ ?_ ?_ ?_; rfl; rfl; kernel_rfl; rfl; rfl
      conv => whnf
      repeat (first | (refine ⟨(by kernel_rfl : chkR _ _ _ _ = true), ?_⟩; conv => whnf) | (refine EvOr.go ?_; conv => whnf))
      exact retQ.zero rfl (by first | exact .inl rfl | exact .inr rfl) rfl (Nat.le_of_ble_eq_true rfl) rfl
  | inx J =>
    have hb : Ml.length < 2 ^ 62 := hb
    cases hmk : mk <;>
    · refine FunT.ev tabOk mixed Try.func87 rfl ?_
      conv => whnf
      repeat (first | (refine ⟨(by kernel_rfl : chkR _ _ _ _ = true), ?_⟩; conv => whnf) | (refine EvOr.go ?_; conv => whnf))
      refine CodeT.loopE tabOk mixed (settIS pk Mn Ms Md Ml Mf Mh J mk) (fun x => Ml.length - x.1) ⟨0, Nat.zero_le _⟩ (fun i => i) (StW.same (Nat.le_of_ble_eq_true rfl) rfl (by rw [hmk]; rfl)) (fun _ => rfl) ?_
      rw [hmk]
      intro ⟨k, hkl⟩
      have hK := keepS2_ok pk k
      have hP := fun hk : k < Ml.length => put_ok (kept Md Ml (picked pk) k) Ml[k].1 Ml[k].2
      have hC := clone_ok (kept Md Ml (picked pk) k)
      conv => whnf
      repeat (first | (refine ⟨(by kernel_rfl : chkR _ _ _ _ = true), ?_⟩; conv => whnf) | (refine EvOr.go ?_; conv => whnf))
      intro c hc
      by_cases hk : k < Ml.length
      · obtain rfl : c = true := by rw [hc]; simp; exact hk
        replace hP := hP hk
        have hs := kept_succ (D := Md) (keep := picked pk) hk
        conv => whnf
        repeat (first | (refine ⟨(by kernel_rfl : chkR _ _ _ _ = true), ?_⟩; conv => whnf) | (refine EvOr.go ?_; conv => whnf))
        refine ⟨⟨by omega, by show (k : Int) < _; omega⟩, ?_⟩
        conv => whnf
        repeat (first | (refine ⟨(by kernel_rfl : chkR _ _ _ _ = true), ?_⟩; conv => whnf) | (refine EvOr.go ?_; conv => whnf))
        refine ⟨_, log_get hk, ?_⟩
        conv => whnf
        repeat (first | (refine ⟨(by kernel_rfl : chkR _ _ _ _ = true), ?_⟩; conv => whnf) | (refine EvOr.go ?_; conv => whnf))
        cases hp : (picked pk) k
        · rw [hp] at hK hs
          refine CallG.use hK c93 [5, 6] [] ?_ ?_ ?_ ?_ ?_ ?_; rfl; rfl; kernel_rfl; rfl; rfl
          conv => whnf
          repeat (first | (refine ⟨(by kernel_rfl : chkR _ _ _ _ = true), ?_⟩; conv => whnf) | (refine EvOr.go ?_; conv => whnf))
          refine ⟨((k + 1 : Nat) : Int), inc_nat (by show k < _; omega), ?_⟩
          conv => whnf
          repeat (first | (refine ⟨(by kernel_rfl : chkR _ _ _ _ = true), ?_⟩; conv => whnf) | (refine EvOr.go ?_; conv => whnf))
          exact ⟨⟨k + 1, hk⟩, fun i => i, StW.same (Nat.le_of_ble_eq_true rfl) rfl (by simp only [settIS, hs]; rfl), by show Ml.length - (k + 1) < Ml.length - k; omega⟩
        · rw [hp] at hK hs
          refine CallG.use hK c93 [5, 6] [] ?_ ?_ ?_ ?_ ?_ ?_; rfl; rfl; kernel_rfl; rfl; rfl
          conv => whnf
          repeat (first | (refine ⟨(by kernel_rfl : chkR _ _ _ _ = true), ?_⟩; conv => whnf) | (refine EvOr.go ?_; conv => whnf))
          refine CallG.use hP c94 [2] [0] ?_ ?_ ?_ ?_ ?_ ?_; rfl; rfl; kernel_rfl; rfl; rfl
          conv => whnf
          repeat (first | (refine ⟨(by kernel_rfl : chkR _ _ _ _ = true), ?_⟩; conv => whnf) | (refine EvOr.go ?_; conv => whnf))
          refine ⟨((k + 1 : Nat) : Int), inc_nat (by show k < _; omega), ?_⟩
          conv => whnf
          repeat (first | (refine ⟨(by kernel_rfl : chkR _ _ _ _ = true), ?_⟩; conv => whnf) | (refine EvOr.go ?_; conv => whnf))
          exact ⟨⟨k + 1, hk⟩, fun i => i, StW.same (Nat.le_of_ble_eq_true rfl) rfl (by simp only [settIS, hs]; rfl), by show Ml.length - (k + 1) < Ml.length - k; omega⟩
      · obtain rfl : c = false := by rw [hc]; simp; omega
        conv => whnf
        repeat (first | (refine ⟨(by kernel_rfl : chkR _ _ _ _ = true), ?_⟩; conv => whnf) | (refine EvOr.go ?_; conv => whnf))
        obtain rfl : k = Ml.length := by omega
        refine CallG.use hC c90 [2] [] ?_ ?_ ?_ ?_ ?_ ?_; rfl; rfl; kernel_rfl; rfl; rfl
        conv => whnf
        repeat (first | (refine ⟨(by kernel_rfl : chkR _ _ _ _ = true), ?_⟩; conv => whnf) | (refine EvOr.go ?_; conv => whnf))
        exact retQ.zero rfl (by first | exact .inl rfl | exact .inr rfl) rfl (Nat.le_of_ble_eq_true rfl) rfl
theorem crashS_ok (M : Mem) (lg : Lg) (mk : Mk) (pk : List Int) (hlg : lg.ok M.log) (hn : 0 < M.n) (hb : M.log.length < 2 ^ 62) :
    FunT Try.prog 32 [mpv, .sc (.sl 5 0 1 pk.length (some pk.length))] (hM4 M lg mk ++ [pkR pk]) (iv 0) [cB M mk (picked pk) 6, none, cD M (picked pk), none, none, pkR pk, cD M (picked pk)] := by
  have hI := is_ok M lg mk hn
  have hS := settleS M lg mk pk hlg hb
  obtain ⟨Mn, Ms, Md, Ml, Mf, Mh⟩ := M
  cases lg <;> cases mk <;>
  · refine FunT.ev tabOk mixed Try.func32 rfl ?_
    conv => whnf
    repeat (first | (refine ⟨(by kernel_rfl : chkR _ _ _ _ = true), ?_⟩; conv => whnf) | (refine EvOr.go ?_; conv => whnf))
    refine CallG.use hI c89 [0, 1, 2, 3, 4] [] ?_ ?_ ?_ ?_ ?_ ?_; rfl; rfl; kernel_rfl; rfl; rfl
    conv => whnf
    repeat (first | (refine ⟨(by kernel_rfl : chkR _ _ _ _ = true), ?_⟩; conv => whnf) | (refine EvOr.go ?_; conv => whnf))
    refine CallG.use hS c87 [0, 1, 2, 3, 4, 6, 5] [0, 1, 2, 3] ?_ ?_ ?_ ?_ ?_ ?_; rfl; rfl; kernel_rfl; rfl; rfl
    conv => whnf
    repeat (first | (refine ⟨(by kernel_rfl : chkR _ _ _ _ = true), ?_⟩; conv => whnf) | (refine EvOr.go ?_; conv => whnf))
    exact retQ.oneS [0, 1, 2, 3, 4, 5, 7] rfl (by first | exact .inr rfl | exact .inl rfl) rfl (by kernel_rfl) (by first | rfl | kernel_rfl)
theorem crashS_to (M M' : Mem) (lg : Lg) (mk : Mk) (pk : List Int) (hM : M' = crashed M (picked pk)) (hlg : lg.ok M.log) (hn : 0 < M.n) (hb : M.log.length < 2 ^ 62) :
    FunT Try.prog 32 [mpv, .sc (.sl 5 0 1 pk.length (some pk.length))] (hM4 M lg mk ++ [pkR pk]) (iv 0) [some (memG M' .nil mk 6 2 3 4), none, imB M'.dur, none, none, pkR pk, imB M'.seen] := by
  subst hM; exact crashS_ok M lg mk pk hlg hn hb
end Go.Proofs.Ytdmcbfmpnakdfaa.Eng
