/- Members: what an act does. -/
import Derived.Test.YtdmcbfmpnakdfaaMp
import Derived.Test.YtdmcbfmpnakdfaaMj
import Derived.Test.YtdmcbfmpnakdfaaEq
namespace Go.Proofs.Ytdmcbfmpnakdfaa.Eng
open Go Go.Proofs
set_option maxRecDepth 20000
set_option maxHeartbeats 4000000
theorem c36 : Callable Try.prog 36 := ⟨⟨_, Try.func36, by kernel_rfl, by kernel_rfl⟩⟩
theorem write_err (M : Mem) (lg : Lg) (mk : Mk) (i : Int) (s : List Nat) (hn : 0 < M.n) (h0 : ioE M i ≠ 0) : FunT Try.prog 38 [mpv, iv i, secV s] (hM M lg mk) (iv (ioE M i)) (hM M lg mk) := by
  have hI := io_ok M lg mk i hn
  generalize ioE M i = e at hI h0
  cases lg <;> cases mk <;>
  · refine FunT.ev tabOk mixed Try.func38 rfl ?_
    conv => whnf
    repeat (first | (refine ⟨(by kernel_rfl : chkR _ _ _ _ = true), ?_⟩; conv => whnf) | (refine EvOr.go ?_; conv => whnf))
    refine CallG.use hI c86 [0, 1, 2, 3, 4] [] ?_ ?_ ?_ ?_ ?_ ?_; rfl; rfl; kernel_rfl; rfl; rfl
    conv => whnf
    repeat (first | (refine ⟨(by kernel_rfl : chkR _ _ _ _ = true), ?_⟩; conv => whnf) | (refine EvOr.go ?_; conv => whnf))
    intro c hc
    obtain rfl : c = true := by rw [hc]; simpa using h0
    conv => whnf
    repeat (first | (refine ⟨(by kernel_rfl : chkR _ _ _ _ = true), ?_⟩; conv => whnf) | (refine EvOr.go ?_; conv => whnf))
    exact retQ.one rfl (.inr rfl) rfl (Nat.le_of_ble_eq_true rfl) rfl
theorem flush_to' (M M' : Mem) (lg : Lg) (mk : Mk) (hM : M' = crashed M allPick) (hlg : lg.ok M.log) (hn : 0 < M.n) (hf : M.fails = false) (hb : M.log.length < 2 ^ 62) :
    FunT Try.prog 29 [mpv] (hM4 M lg mk) (iv 0) [some (memG M' .nil mk 5 2 3 4), none, imB M'.dur, none, none, imB M'.seen] := by
  subst hM; exact flush_ok M lg mk hlg hn hf hb
theorem crashE_to (M M' : Mem) (lg : Lg) (mk : Mk) (ad : Option Addr) (cp : Nat) (hM : M' = crashed M noPick) (hlg : lg.ok M.log) (hn : 0 < M.n) (hb : M.log.length < 2 ^ 62) :
    FunT Try.prog 32 [mpv, .sc (.raw (.slice ad 0 cp))] (hM4 M lg mk) (iv 0) [some (memG M' .nil mk 5 2 3 4), none, imB M'.dur, none, none, imB M'.seen] := by
  subst hM; exact crashN_ok M lg mk ad cp hlg hn hb
theorem crashR_to (M M' : Mem) (lg : Lg) (mk : Mk) (pk : List Int) (hM : M' = crashed M (picked pk)) (hlg : lg.ok M.log) (hn : 0 < M.n) (hb : M.log.length < 2 ^ 62) :
    FunT Try.prog 32 [mpv, .sc (.sl 5 0 1 pk.length none)] (hM4 M lg mk ++ [pkR pk]) (iv 0) [some (memG M' .nil mk 6 2 3 4), none, imB M'.dur, none, none, pkR pk, imB M'.seen] := by
  subst hM; exact crashR_ok M lg mk pk hlg hn hb
theorem set_to (M M' : Mem) (lg : Lg) (mk : Mk) (i : Int) (s : List Nat) (hM : M' = setM M i s) (hlg : lg.ok M.log) (hn : 0 < M.n) (h0 : mayE M i = 0) (hb : M.log.length < 2 ^ 62) :
    FunT Try.prog 47 [mpv, iv i, secV s] (hM4 M lg mk) (iv 0) (hM4 M' (lg.set M.log i) mk) := by
  subst hM; exact set_ok M lg mk i s hlg hn h0 hb
theorem clean_to (M M' : Mem) (lg : Lg) (mk : Mk) (he : M' = { M with hurt := false }) (hn : 0 < M.n) : FunT Try.prog 48 [mpv] (hM M lg mk) (.tup []) (hM M' lg mk) := by
  subst he; exact clean_ok M lg mk hn
/-- What an act does, r: its kind. -/
def doesM (M : Mem) (a : ActV) (pk : List Int) (r : Int) : Mem :=
  if 0 ≤ r ∧ r ≤ 4 then (if ioE M a.i = 0 then wrote M a.i a.s else M)
  else if r = 5 then crashed M allPick
  else if r = 6 then crashed M (picked pk)
  else if r = 7 then (if mayE M a.i = 0 then setM M a.i a.s else M)
  else if r = 11 then { M with hurt := false } else M
def doesL (M : Mem) (lg : Lg) (a : ActV) (r : Int) : Lg :=
  if 0 ≤ r ∧ r ≤ 4 then (if ioE M a.i = 0 then .inx [] else lg)
  else if r = 5 then .nil
  else if r = 6 then .nil
  else if r = 7 then (if mayE M a.i = 0 then lg.set M.log a.i else lg)
  else lg
theorem noPick_eq : noPick = picked [] := by funext k; unfold picked noPick; simp
def actP (a : ActV) (p : SV) : Segs := [.one (.raw (.int .i64 a.d)), .one (.raw (.int .i64 a.i)), .byt 64 a.s, .one p, .one (.raw (.bool a.on))]
theorem doesE (M M' : Mem) (lg lg' : Lg) (mk : Mk) (a : ActV) (ad : Option Addr) (cp : Nat) (R : List (Nat × Obj)) (r : Int) (hr : arithI .and .i64 a.d 15 = some r) (hM : M' = doesM M a [] r) (hL : lg' = doesL M lg a r) (hlg : lg.ok M.log) (hn : 0 < M.n) (hf : M.fails = false) (hb : M.log.length < 2 ^ 32) :
    FunT Try.prog 36 [mpv, .agg (actP a (.raw (.slice ad 0 cp)))] (hM4 M lg mk ++ [some (famB R)]) (.tup []) [some (memG M' lg' mk 6 2 7 4), none, imB M'.dur, none, none, some (famB R), imB M'.seen, logB M' lg'] := by
  have hb2 : M.log.length < 2 ^ 62 := by omega
  have gW := fun h => write_to M M' lg mk a.i a.s h hlg hn
  have gE := write_err M lg mk a.i a.s hn
  have gF := fun h => flush_to' M M' lg mk h hlg hn hf hb2
  have gC := fun h => crashE_to M M' lg mk ad cp h hlg hn hb2
  have gS := fun h => set_to M M' lg mk a.i a.s h hlg hn
  have gT := set_err M lg mk a.i a.s hn
  have gN := fun h => clean_to M M' lg mk h hn
  unfold doesM at hM
  unfold doesL at hL
  obtain ⟨ie, hie⟩ : ∃ e, e = ioE M a.i := ⟨_, rfl⟩
  obtain ⟨me, hme⟩ : ∃ e, e = mayE M a.i := ⟨_, rfl⟩
  rw [← hie] at hM hL gE gW
  rw [← hme] at hM hL gS gT
  obtain ⟨aD, aI, aS, aP, aO⟩ := a
  by_cases k0 : 0 ≤ r ∧ r ≤ 4
  · rw [if_pos k0] at hM hL
    have hr5 : r = 0 ∨ r = 1 ∨ r = 2 ∨ r = 3 ∨ r = 4 := by omega
    by_cases hi0 : ie = 0
    · rw [if_pos hi0] at hM hL
      subst hL
      replace gW := gW hM hi0 hb
      have hd : M'.dur = M.dur := by rw [hM]
      rw [hd]
      clear gE gF gC gS gT gN hM hie hme
      rcases hr5 with rfl | rfl | rfl | rfl | rfl <;> cases lg <;> cases mk <;>
      · refine FunT.ev tabOk mixed Try.func36 rfl ?_
        conv => whnf
        repeat (first | (refine ⟨(by kernel_rfl : chkR _ _ _ _ = true), ?_⟩; conv => whnf) | (refine EvOr.go ?_; conv => whnf))
        refine ⟨_, hr, ?_⟩
        conv => whnf
        repeat (first | (refine ⟨(by kernel_rfl : chkR _ _ _ _ = true), ?_⟩; conv => whnf) | (refine EvOr.go ?_; conv => whnf))
        repeat (intro c hc; simp [] at hc; subst hc; (conv => whnf); repeat (first | (refine ⟨(by kernel_rfl : chkR _ _ _ _ = true), ?_⟩; (conv => whnf)) | (refine EvOr.go ?_; (conv => whnf))))
        refine CallG.use gW c38 [0, 1, 2, 3, 4] [0, 1, 3] ?_ ?_ ?_ ?_ ?_ ?_; rfl; rfl; kernel_rfl; rfl; rfl
        conv => whnf
        repeat (first | (refine ⟨(by kernel_rfl : chkR _ _ _ _ = true), ?_⟩; conv => whnf) | (refine EvOr.go ?_; conv => whnf))
        exact retQ.zeroS [0, 1, 2, 3, 4, 5, 1, 7] rfl (by first | exact .inr rfl | exact .inl rfl) rfl (by kernel_rfl) (by first | rfl | kernel_rfl)
    · rw [if_neg hi0] at hM hL
      subst hL
      replace gE := gE hi0
      subst hM
      clear gW gF gC gS gT gN hie hme
      rcases hr5 with rfl | rfl | rfl | rfl | rfl <;> cases lg' <;> cases mk <;>
      · refine FunT.ev tabOk mixed Try.func36 rfl ?_
        conv => whnf
        repeat (first | (refine ⟨(by kernel_rfl : chkR _ _ _ _ = true), ?_⟩; conv => whnf) | (refine EvOr.go ?_; conv => whnf))
        refine ⟨_, hr, ?_⟩
        conv => whnf
        repeat (first | (refine ⟨(by kernel_rfl : chkR _ _ _ _ = true), ?_⟩; conv => whnf) | (refine EvOr.go ?_; conv => whnf))
        repeat (intro c hc; simp [] at hc; subst hc; (conv => whnf); repeat (first | (refine ⟨(by kernel_rfl : chkR _ _ _ _ = true), ?_⟩; (conv => whnf)) | (refine EvOr.go ?_; (conv => whnf))))
        refine CallG.use gE c38 [0, 1, 2, 3, 4] [] ?_ ?_ ?_ ?_ ?_ ?_; rfl; rfl; kernel_rfl; rfl; rfl
        conv => whnf
        repeat (first | (refine ⟨(by kernel_rfl : chkR _ _ _ _ = true), ?_⟩; conv => whnf) | (refine EvOr.go ?_; conv => whnf))
        exact retQ.zeroS [0, 1, 2, 3, 4, 5, 1, 3] rfl (by first | exact .inr rfl | exact .inl rfl) rfl (by kernel_rfl) (by first | rfl | kernel_rfl)
  rw [if_neg k0] at hM hL
  by_cases k5 : r = 5
  · rw [if_pos k5] at hM hL
    subst hL k5
    replace gF := gF hM
    clear gW gE gC gS gT gN hM hie hme
    cases lg <;> cases mk <;>
    · refine FunT.ev tabOk mixed Try.func36 rfl ?_
      conv => whnf
      repeat (first | (refine ⟨(by kernel_rfl : chkR _ _ _ _ = true), ?_⟩; conv => whnf) | (refine EvOr.go ?_; conv => whnf))
      refine ⟨_, hr, ?_⟩
      conv => whnf
      repeat (first | (refine ⟨(by kernel_rfl : chkR _ _ _ _ = true), ?_⟩; conv => whnf) | (refine EvOr.go ?_; conv => whnf))
      repeat (intro c hc; simp [] at hc; subst hc; (conv => whnf); repeat (first | (refine ⟨(by kernel_rfl : chkR _ _ _ _ = true), ?_⟩; (conv => whnf)) | (refine EvOr.go ?_; (conv => whnf))))
      refine CallG.use gF c29 [0, 1, 2, 3, 4] [0, 1, 2, 3] ?_ ?_ ?_ ?_ ?_ ?_; rfl; rfl; kernel_rfl; rfl; rfl
      conv => whnf
      repeat (first | (refine ⟨(by kernel_rfl : chkR _ _ _ _ = true), ?_⟩; conv => whnf) | (refine EvOr.go ?_; conv => whnf))
      exact retQ.zeroS [0, 1, 2, 3, 4, 5, 7, 3] rfl (by first | exact .inr rfl | exact .inl rfl) rfl (by kernel_rfl) (by first | rfl | kernel_rfl)
  rw [if_neg k5] at hM hL
  by_cases k6 : r = 6
  · rw [if_pos k6] at hM hL
    subst hL k6
    replace gC := gC (noPick_eq ▸ hM)
    clear gW gE gF gS gT gN hM hie hme
    cases lg <;> cases mk <;>
    · refine FunT.ev tabOk mixed Try.func36 rfl ?_
      conv => whnf
      repeat (first | (refine ⟨(by kernel_rfl : chkR _ _ _ _ = true), ?_⟩; conv => whnf) | (refine EvOr.go ?_; conv => whnf))
      refine ⟨_, hr, ?_⟩
      conv => whnf
      repeat (first | (refine ⟨(by kernel_rfl : chkR _ _ _ _ = true), ?_⟩; conv => whnf) | (refine EvOr.go ?_; conv => whnf))
      repeat (intro c hc; simp [] at hc; subst hc; (conv => whnf); repeat (first | (refine ⟨(by kernel_rfl : chkR _ _ _ _ = true), ?_⟩; (conv => whnf)) | (refine EvOr.go ?_; (conv => whnf))))
      refine CallG.use gC c32 [0, 1, 2, 3, 4] [0, 1, 2, 3] ?_ ?_ ?_ ?_ ?_ ?_; rfl; rfl; kernel_rfl; rfl; rfl
      conv => whnf
      repeat (first | (refine ⟨(by kernel_rfl : chkR _ _ _ _ = true), ?_⟩; conv => whnf) | (refine EvOr.go ?_; conv => whnf))
      exact retQ.zeroS [0, 1, 2, 3, 4, 5, 7, 3] rfl (by first | exact .inr rfl | exact .inl rfl) rfl (by kernel_rfl) (by first | rfl | kernel_rfl)
  rw [if_neg k6] at hM hL
  by_cases k7 : r = 7
  · rw [if_pos k7] at hM hL
    by_cases hm0 : me = 0
    · rw [if_pos hm0] at hM hL
      subst hL k7
      replace gS := gS hM hm0 hb2
      clear gW gE gF gC gT gN hM hie hme
      cases lg <;> cases mk <;>
      · refine FunT.ev tabOk mixed Try.func36 rfl ?_
        conv => whnf
        repeat (first | (refine ⟨(by kernel_rfl : chkR _ _ _ _ = true), ?_⟩; conv => whnf) | (refine EvOr.go ?_; conv => whnf))
        refine ⟨_, hr, ?_⟩
        conv => whnf
        repeat (first | (refine ⟨(by kernel_rfl : chkR _ _ _ _ = true), ?_⟩; conv => whnf) | (refine EvOr.go ?_; conv => whnf))
        repeat (intro c hc; simp [] at hc; subst hc; (conv => whnf); repeat (first | (refine ⟨(by kernel_rfl : chkR _ _ _ _ = true), ?_⟩; (conv => whnf)) | (refine EvOr.go ?_; (conv => whnf))))
        refine CallG.use gS c47 [0, 1, 2, 3, 4] [0, 1, 2, 3] ?_ ?_ ?_ ?_ ?_ ?_; rfl; rfl; kernel_rfl; rfl; rfl
        conv => whnf
        repeat (first | (refine ⟨(by kernel_rfl : chkR _ _ _ _ = true), ?_⟩; conv => whnf) | (refine EvOr.go ?_; conv => whnf))
        exact retQ.zeroS [0, 1, 2, 3, 4, 5, 1, 3] rfl (by first | exact .inr rfl | exact .inl rfl) rfl (by kernel_rfl) (by first | rfl | kernel_rfl)
    · rw [if_neg hm0] at hM hL
      subst hL k7
      replace gT := gT hm0
      subst hM
      clear gW gE gF gC gS gN hie hme
      cases lg' <;> cases mk <;>
      · refine FunT.ev tabOk mixed Try.func36 rfl ?_
        conv => whnf
        repeat (first | (refine ⟨(by kernel_rfl : chkR _ _ _ _ = true), ?_⟩; conv => whnf) | (refine EvOr.go ?_; conv => whnf))
        refine ⟨_, hr, ?_⟩
        conv => whnf
        repeat (first | (refine ⟨(by kernel_rfl : chkR _ _ _ _ = true), ?_⟩; conv => whnf) | (refine EvOr.go ?_; conv => whnf))
        repeat (intro c hc; simp [] at hc; subst hc; (conv => whnf); repeat (first | (refine ⟨(by kernel_rfl : chkR _ _ _ _ = true), ?_⟩; (conv => whnf)) | (refine EvOr.go ?_; (conv => whnf))))
        refine CallG.use gT c47 [0, 1, 2, 3, 4] [] ?_ ?_ ?_ ?_ ?_ ?_; rfl; rfl; kernel_rfl; rfl; rfl
        conv => whnf
        repeat (first | (refine ⟨(by kernel_rfl : chkR _ _ _ _ = true), ?_⟩; conv => whnf) | (refine EvOr.go ?_; conv => whnf))
        exact retQ.zeroS [0, 1, 2, 3, 4, 5, 1, 3] rfl (by first | exact .inr rfl | exact .inl rfl) rfl (by kernel_rfl) (by first | rfl | kernel_rfl)
  rw [if_neg k7] at hM hL
  by_cases k11 : r = 11
  · rw [if_pos k11] at hM
    subst k11
    subst hL
    replace gN := gN hM
    have e1 : M'.dur = M.dur := by rw [hM]
    have e2 : M'.seen = M.seen := by rw [hM]
    have e3 : logB M' lg' = logB M lg' := by rw [hM]; rfl
    rw [e1, e2, e3]
    clear gW gE gF gC gS gT hM hie hme
    cases lg' <;> cases mk <;>
    · refine FunT.ev tabOk mixed Try.func36 rfl ?_
      conv => whnf
      repeat (first | (refine ⟨(by kernel_rfl : chkR _ _ _ _ = true), ?_⟩; conv => whnf) | (refine EvOr.go ?_; conv => whnf))
      refine ⟨_, hr, ?_⟩
      conv => whnf
      repeat (first | (refine ⟨(by kernel_rfl : chkR _ _ _ _ = true), ?_⟩; conv => whnf) | (refine EvOr.go ?_; conv => whnf))
      repeat (intro c hc; simp [] at hc; subst hc; (conv => whnf); repeat (first | (refine ⟨(by kernel_rfl : chkR _ _ _ _ = true), ?_⟩; (conv => whnf)) | (refine EvOr.go ?_; (conv => whnf))))
      refine CallG.use gN c48 [0, 1, 2, 3, 4] [0] ?_ ?_ ?_ ?_ ?_ ?_; rfl; rfl; kernel_rfl; rfl; rfl
      conv => whnf
      repeat (first | (refine ⟨(by kernel_rfl : chkR _ _ _ _ = true), ?_⟩; conv => whnf) | (refine EvOr.go ?_; conv => whnf))
      exact retQ.zeroS [0, 1, 2, 3, 4, 5, 1, 3] rfl (by first | exact .inr rfl | exact .inl rfl) rfl (by kernel_rfl) (by first | rfl | kernel_rfl)
  · rw [if_neg k11] at hM
    subst hM hL
    clear gW gE gF gC gS gT gN hie hme
    have e0 : (r == 0) = false := by simp; omega
    have e1 : (r == 1) = false := by simp; omega
    have e2 : (r == 2) = false := by simp; omega
    have e3 : (r == 3) = false := by simp; omega
    have e4 : (r == 4) = false := by simp; omega
    have e5 : (r == 5) = false := by simp; omega
    have e6 : (r == 6) = false := by simp; omega
    have e7 : (r == 7) = false := by simp; omega
    have e11 : (r == 11) = false := by simp; omega
    cases lg' <;> cases mk <;>
    · refine FunT.ev tabOk mixed Try.func36 rfl ?_
      conv => whnf
      repeat (first | (refine ⟨(by kernel_rfl : chkR _ _ _ _ = true), ?_⟩; conv => whnf) | (refine EvOr.go ?_; conv => whnf))
      refine ⟨_, hr, ?_⟩
      conv => whnf
      repeat (first | (refine ⟨(by kernel_rfl : chkR _ _ _ _ = true), ?_⟩; conv => whnf) | (refine EvOr.go ?_; conv => whnf))
      repeat (intro c hc; simp [e0, e1, e2, e3, e4, e5, e6, e7, e11] at hc; subst hc; (conv => whnf); repeat (first | (refine ⟨(by kernel_rfl : chkR _ _ _ _ = true), ?_⟩; (conv => whnf)) | (refine EvOr.go ?_; (conv => whnf))))
      exact retQ.zeroS [0, 1, 2, 3, 4, 5, 1, 3] rfl (by first | exact .inr rfl | exact .inl rfl) rfl (by kernel_rfl) (by first | rfl | kernel_rfl)
theorem doesR (M M' : Mem) (lg lg' : Lg) (mk : Mk) (a : ActV) (pk : List Int) (r : Int) (hr : arithI .and .i64 a.d 15 = some r) (hM : M' = doesM M a pk r) (hL : lg' = doesL M lg a r) (hlg : lg.ok M.log) (hn : 0 < M.n) (hf : M.fails = false) (hb : M.log.length < 2 ^ 32) :
    FunT Try.prog 36 [mpv, .agg (actP a (.sl 5 0 1 pk.length none))] (hM4 M lg mk ++ [pkR pk]) (.tup []) [some (memG M' lg' mk 6 2 7 4), none, imB M'.dur, none, none, pkR pk, imB M'.seen, logB M' lg'] := by
  have hb2 : M.log.length < 2 ^ 62 := by omega
  have gW := fun h => write_to M M' lg mk a.i a.s h hlg hn
  have gE := write_err M lg mk a.i a.s hn
  have gF := fun h => flush_to' M M' lg mk h hlg hn hf hb2
  have gC := fun h => crashR_to M M' lg mk pk h hlg hn hb2
  have gS := fun h => set_to M M' lg mk a.i a.s h hlg hn
  have gT := set_err M lg mk a.i a.s hn
  have gN := fun h => clean_to M M' lg mk h hn
  unfold doesM at hM
  unfold doesL at hL
  obtain ⟨ie, hie⟩ : ∃ e, e = ioE M a.i := ⟨_, rfl⟩
  obtain ⟨me, hme⟩ : ∃ e, e = mayE M a.i := ⟨_, rfl⟩
  rw [← hie] at hM hL gE gW
  rw [← hme] at hM hL gS gT
  obtain ⟨aD, aI, aS, aP, aO⟩ := a
  by_cases k0 : 0 ≤ r ∧ r ≤ 4
  · rw [if_pos k0] at hM hL
    have hr5 : r = 0 ∨ r = 1 ∨ r = 2 ∨ r = 3 ∨ r = 4 := by omega
    by_cases hi0 : ie = 0
    · rw [if_pos hi0] at hM hL
      subst hL
      replace gW := gW hM hi0 hb
      have hd : M'.dur = M.dur := by rw [hM]
      rw [hd]
      clear gE gF gC gS gT gN hM hie hme
      rcases hr5 with rfl | rfl | rfl | rfl | rfl <;> cases lg <;> cases mk <;>
      · refine FunT.ev tabOk mixed Try.func36 rfl ?_
        conv => whnf
        repeat (first | (refine ⟨(by kernel_rfl : chkR _ _ _ _ = true), ?_⟩; conv => whnf) | (refine EvOr.go ?_; conv => whnf))
        refine ⟨_, hr, ?_⟩
        conv => whnf
        repeat (first | (refine ⟨(by kernel_rfl : chkR _ _ _ _ = true), ?_⟩; conv => whnf) | (refine EvOr.go ?_; conv => whnf))
        repeat (intro c hc; simp [] at hc; subst hc; (conv => whnf); repeat (first | (refine ⟨(by kernel_rfl : chkR _ _ _ _ = true), ?_⟩; (conv => whnf)) | (refine EvOr.go ?_; (conv => whnf))))
        refine CallG.use gW c38 [0, 1, 2, 3, 4] [0, 1, 3] ?_ ?_ ?_ ?_ ?_ ?_; rfl; rfl; kernel_rfl; rfl; rfl
        conv => whnf
        repeat (first | (refine ⟨(by kernel_rfl : chkR _ _ _ _ = true), ?_⟩; conv => whnf) | (refine EvOr.go ?_; conv => whnf))
        exact retQ.zeroS [0, 1, 2, 3, 4, 5, 1, 7] rfl (by first | exact .inr rfl | exact .inl rfl) rfl (by kernel_rfl) (by first | rfl | kernel_rfl)
    · rw [if_neg hi0] at hM hL
      subst hL
      replace gE := gE hi0
      subst hM
      clear gW gF gC gS gT gN hie hme
      rcases hr5 with rfl | rfl | rfl | rfl | rfl <;> cases lg' <;> cases mk <;>
      · refine FunT.ev tabOk mixed Try.func36 rfl ?_
        conv => whnf
        repeat (first | (refine ⟨(by kernel_rfl : chkR _ _ _ _ = true), ?_⟩; conv => whnf) | (refine EvOr.go ?_; conv => whnf))
        refine ⟨_, hr, ?_⟩
        conv => whnf
        repeat (first | (refine ⟨(by kernel_rfl : chkR _ _ _ _ = true), ?_⟩; conv => whnf) | (refine EvOr.go ?_; conv => whnf))
        repeat (intro c hc; simp [] at hc; subst hc; (conv => whnf); repeat (first | (refine ⟨(by kernel_rfl : chkR _ _ _ _ = true), ?_⟩; (conv => whnf)) | (refine EvOr.go ?_; (conv => whnf))))
        refine CallG.use gE c38 [0, 1, 2, 3, 4] [] ?_ ?_ ?_ ?_ ?_ ?_; rfl; rfl; kernel_rfl; rfl; rfl
        conv => whnf
        repeat (first | (refine ⟨(by kernel_rfl : chkR _ _ _ _ = true), ?_⟩; conv => whnf) | (refine EvOr.go ?_; conv => whnf))
        exact retQ.zeroS [0, 1, 2, 3, 4, 5, 1, 3] rfl (by first | exact .inr rfl | exact .inl rfl) rfl (by kernel_rfl) (by first | rfl | kernel_rfl)
  rw [if_neg k0] at hM hL
  by_cases k5 : r = 5
  · rw [if_pos k5] at hM hL
    subst hL k5
    replace gF := gF hM
    clear gW gE gC gS gT gN hM hie hme
    cases lg <;> cases mk <;>
    · refine FunT.ev tabOk mixed Try.func36 rfl ?_
      conv => whnf
      repeat (first | (refine ⟨(by kernel_rfl : chkR _ _ _ _ = true), ?_⟩; conv => whnf) | (refine EvOr.go ?_; conv => whnf))
      refine ⟨_, hr, ?_⟩
      conv => whnf
      repeat (first | (refine ⟨(by kernel_rfl : chkR _ _ _ _ = true), ?_⟩; conv => whnf) | (refine EvOr.go ?_; conv => whnf))
      repeat (intro c hc; simp [] at hc; subst hc; (conv => whnf); repeat (first | (refine ⟨(by kernel_rfl : chkR _ _ _ _ = true), ?_⟩; (conv => whnf)) | (refine EvOr.go ?_; (conv => whnf))))
      refine CallG.use gF c29 [0, 1, 2, 3, 4] [0, 1, 2, 3] ?_ ?_ ?_ ?_ ?_ ?_; rfl; rfl; kernel_rfl; rfl; rfl
      conv => whnf
      repeat (first | (refine ⟨(by kernel_rfl : chkR _ _ _ _ = true), ?_⟩; conv => whnf) | (refine EvOr.go ?_; conv => whnf))
      exact retQ.zeroS [0, 1, 2, 3, 4, 5, 7, 3] rfl (by first | exact .inr rfl | exact .inl rfl) rfl (by kernel_rfl) (by first | rfl | kernel_rfl)
  rw [if_neg k5] at hM hL
  by_cases k6 : r = 6
  · rw [if_pos k6] at hM hL
    subst hL k6
    replace gC := gC (hM)
    clear gW gE gF gS gT gN hM hie hme
    cases lg <;> cases mk <;>
    · refine FunT.ev tabOk mixed Try.func36 rfl ?_
      conv => whnf
      repeat (first | (refine ⟨(by kernel_rfl : chkR _ _ _ _ = true), ?_⟩; conv => whnf) | (refine EvOr.go ?_; conv => whnf))
      refine ⟨_, hr, ?_⟩
      conv => whnf
      repeat (first | (refine ⟨(by kernel_rfl : chkR _ _ _ _ = true), ?_⟩; conv => whnf) | (refine EvOr.go ?_; conv => whnf))
      repeat (intro c hc; simp [] at hc; subst hc; (conv => whnf); repeat (first | (refine ⟨(by kernel_rfl : chkR _ _ _ _ = true), ?_⟩; (conv => whnf)) | (refine EvOr.go ?_; (conv => whnf))))
      refine CallG.use gC c32 [0, 1, 2, 3, 4, 5] [0, 1, 2, 3] ?_ ?_ ?_ ?_ ?_ ?_; rfl; rfl; kernel_rfl; rfl; rfl
      conv => whnf
      repeat (first | (refine ⟨(by kernel_rfl : chkR _ _ _ _ = true), ?_⟩; conv => whnf) | (refine EvOr.go ?_; conv => whnf))
      exact retQ.zeroS [0, 1, 2, 3, 4, 5, 7, 3] rfl (by first | exact .inr rfl | exact .inl rfl) rfl (by kernel_rfl) (by first | rfl | kernel_rfl)
  rw [if_neg k6] at hM hL
  by_cases k7 : r = 7
  · rw [if_pos k7] at hM hL
    by_cases hm0 : me = 0
    · rw [if_pos hm0] at hM hL
      subst hL k7
      replace gS := gS hM hm0 hb2
      clear gW gE gF gC gT gN hM hie hme
      cases lg <;> cases mk <;>
      · refine FunT.ev tabOk mixed Try.func36 rfl ?_
        conv => whnf
        repeat (first | (refine ⟨(by kernel_rfl : chkR _ _ _ _ = true), ?_⟩; conv => whnf) | (refine EvOr.go ?_; conv => whnf))
        refine ⟨_, hr, ?_⟩
        conv => whnf
        repeat (first | (refine ⟨(by kernel_rfl : chkR _ _ _ _ = true), ?_⟩; conv => whnf) | (refine EvOr.go ?_; conv => whnf))
        repeat (intro c hc; simp [] at hc; subst hc; (conv => whnf); repeat (first | (refine ⟨(by kernel_rfl : chkR _ _ _ _ = true), ?_⟩; (conv => whnf)) | (refine EvOr.go ?_; (conv => whnf))))
        refine CallG.use gS c47 [0, 1, 2, 3, 4] [0, 1, 2, 3] ?_ ?_ ?_ ?_ ?_ ?_; rfl; rfl; kernel_rfl; rfl; rfl
        conv => whnf
        repeat (first | (refine ⟨(by kernel_rfl : chkR _ _ _ _ = true), ?_⟩; conv => whnf) | (refine EvOr.go ?_; conv => whnf))
        exact retQ.zeroS [0, 1, 2, 3, 4, 5, 1, 3] rfl (by first | exact .inr rfl | exact .inl rfl) rfl (by kernel_rfl) (by first | rfl | kernel_rfl)
    · rw [if_neg hm0] at hM hL
      subst hL k7
      replace gT := gT hm0
      subst hM
      clear gW gE gF gC gS gN hie hme
      cases lg' <;> cases mk <;>
      · refine FunT.ev tabOk mixed Try.func36 rfl ?_
        conv => whnf
        repeat (first | (refine ⟨(by kernel_rfl : chkR _ _ _ _ = true), ?_⟩; conv => whnf) | (refine EvOr.go ?_; conv => whnf))
        refine ⟨_, hr, ?_⟩
        conv => whnf
        repeat (first | (refine ⟨(by kernel_rfl : chkR _ _ _ _ = true), ?_⟩; conv => whnf) | (refine EvOr.go ?_; conv => whnf))
        repeat (intro c hc; simp [] at hc; subst hc; (conv => whnf); repeat (first | (refine ⟨(by kernel_rfl : chkR _ _ _ _ = true), ?_⟩; (conv => whnf)) | (refine EvOr.go ?_; (conv => whnf))))
        refine CallG.use gT c47 [0, 1, 2, 3, 4] [] ?_ ?_ ?_ ?_ ?_ ?_; rfl; rfl; kernel_rfl; rfl; rfl
        conv => whnf
        repeat (first | (refine ⟨(by kernel_rfl : chkR _ _ _ _ = true), ?_⟩; conv => whnf) | (refine EvOr.go ?_; conv => whnf))
        exact retQ.zeroS [0, 1, 2, 3, 4, 5, 1, 3] rfl (by first | exact .inr rfl | exact .inl rfl) rfl (by kernel_rfl) (by first | rfl | kernel_rfl)
  rw [if_neg k7] at hM hL
  by_cases k11 : r = 11
  · rw [if_pos k11] at hM
    subst k11
    subst hL
    replace gN := gN hM
    have e1 : M'.dur = M.dur := by rw [hM]
    have e2 : M'.seen = M.seen := by rw [hM]
    have e3 : logB M' lg' = logB M lg' := by rw [hM]; rfl
    rw [e1, e2, e3]
    clear gW gE gF gC gS gT hM hie hme
    cases lg' <;> cases mk <;>
    · refine FunT.ev tabOk mixed Try.func36 rfl ?_
      conv => whnf
      repeat (first | (refine ⟨(by kernel_rfl : chkR _ _ _ _ = true), ?_⟩; conv => whnf) | (refine EvOr.go ?_; conv => whnf))
      refine ⟨_, hr, ?_⟩
      conv => whnf
      repeat (first | (refine ⟨(by kernel_rfl : chkR _ _ _ _ = true), ?_⟩; conv => whnf) | (refine EvOr.go ?_; conv => whnf))
      repeat (intro c hc; simp [] at hc; subst hc; (conv => whnf); repeat (first | (refine ⟨(by kernel_rfl : chkR _ _ _ _ = true), ?_⟩; (conv => whnf)) | (refine EvOr.go ?_; (conv => whnf))))
      refine CallG.use gN c48 [0, 1, 2, 3, 4] [0] ?_ ?_ ?_ ?_ ?_ ?_; rfl; rfl; kernel_rfl; rfl; rfl
      conv => whnf
      repeat (first | (refine ⟨(by kernel_rfl : chkR _ _ _ _ = true), ?_⟩; conv => whnf) | (refine EvOr.go ?_; conv => whnf))
      exact retQ.zeroS [0, 1, 2, 3, 4, 5, 1, 3] rfl (by first | exact .inr rfl | exact .inl rfl) rfl (by kernel_rfl) (by first | rfl | kernel_rfl)
  · rw [if_neg k11] at hM
    subst hM hL
    clear gW gE gF gC gS gT gN hie hme
    have e0 : (r == 0) = false := by simp; omega
    have e1 : (r == 1) = false := by simp; omega
    have e2 : (r == 2) = false := by simp; omega
    have e3 : (r == 3) = false := by simp; omega
    have e4 : (r == 4) = false := by simp; omega
    have e5 : (r == 5) = false := by simp; omega
    have e6 : (r == 6) = false := by simp; omega
    have e7 : (r == 7) = false := by simp; omega
    have e11 : (r == 11) = false := by simp; omega
    cases lg' <;> cases mk <;>
    · refine FunT.ev tabOk mixed Try.func36 rfl ?_
      conv => whnf
      repeat (first | (refine ⟨(by kernel_rfl : chkR _ _ _ _ = true), ?_⟩; conv => whnf) | (refine EvOr.go ?_; conv => whnf))
      refine ⟨_, hr, ?_⟩
      conv => whnf
      repeat (first | (refine ⟨(by kernel_rfl : chkR _ _ _ _ = true), ?_⟩; conv => whnf) | (refine EvOr.go ?_; conv => whnf))
      repeat (intro c hc; simp [e0, e1, e2, e3, e4, e5, e6, e7, e11] at hc; subst hc; (conv => whnf); repeat (first | (refine ⟨(by kernel_rfl : chkR _ _ _ _ = true), ?_⟩; (conv => whnf)) | (refine EvOr.go ?_; (conv => whnf))))
      exact retQ.zeroS [0, 1, 2, 3, 4, 5, 1, 3] rfl (by first | exact .inr rfl | exact .inl rfl) rfl (by kernel_rfl) (by first | rfl | kernel_rfl)
end Go.Proofs.Ytdmcbfmpnakdfaa.Eng
