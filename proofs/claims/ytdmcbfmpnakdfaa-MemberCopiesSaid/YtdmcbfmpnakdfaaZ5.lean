/- What is done to a member and to the document's: crashed, set. -/
import Derived.Test.YtdmcbfmpnakdfaaZ4
import Derived.Test.YtdmcbfmpnakdfaaNb
import Derived.Test.YtdmcbfmpnakdfaaNa
import Derived.Test.YtdmcbfmpnakdfaaMv
namespace Go.Proofs.Ytdmcbfmpnakdfaa.Eng.Rm
open Go Go.Proofs
set_option maxRecDepth 20000
set_option maxHeartbeats 8000000
variable (M M' : Mem) (lg lg' : Lg) (mk : Mk) (d l : Sl) (R : List (Nat × Obj)) (D : Img) (aD aI : Int) (aS : List Nat) (ad : Option Addr) (nn cp : Nat) (aO : Bool) (r : Int) (X Y : Option ABlk) (R0 : List (Nat × Obj))
theorem do_serr (hm : MkB mk X Y) (hr : arithI .and .i64 aD 15 = some 7) (hn : 0 < M.n) (h0 : mayE M aI ≠ 0) :
    FunT Try.prog 41 [mpv, ppt, .agg (actSegs (actA aD aI aS ad nn cp aO))] (doH M lg mk d l R X Y (some (famB R0))) (bv true) (doR M lg mk R (.raw d.v) none (.raw l.v) none X Y (some (famB R0))) := by
  have gE := set_err M lg mk aI aS hn h0
  have hmb : mayB M.n aI = false := by
    cases h : mayB M.n aI with
    | false => rfl
    | true => rw [← may_eq, h] at h0; exact absurd rfl h0
  have gD := rset_err M.n d l mk M.fails M.hurt R aI aS hmb
  have e2 : mayE M aI = 2 := by rw [← may_eq, hmb]; rfl
  rw [e2] at gE
  rcases hm with ⟨rfl, rfl, rfl⟩ | ⟨B, V, rfl, rfl, rfl⟩ <;> cases lg <;>
  · refine FunT.ev tabOk mixed Try.func41 rfl ?_
    conv => whnf
    repeat (first | (refine ⟨(by kernel_rfl : chkR _ _ _ _ = true), ?_⟩; conv => whnf) | (refine EvOr.go ?_; conv => whnf))
    refine ⟨_, hr, ?_⟩
    conv => whnf
    repeat (first | (refine ⟨(by kernel_rfl : chkR _ _ _ _ = true), ?_⟩; conv => whnf) | (refine EvOr.go ?_; conv => whnf))
    repeat (intro c hc; simp [] at hc; subst hc; (conv => whnf); repeat (first | (refine ⟨(by kernel_rfl : chkR _ _ _ _ = true), ?_⟩; (conv => whnf)) | (refine EvOr.go ?_; (conv => whnf))))
    refine CallG.use gE c47 [0, 1, 2, 3, 4] [] ?_ ?_ ?_ ?_ ?_ ?_; rfl; rfl; kernel_rfl; rfl; rfl
    conv => whnf
    repeat (first | (refine ⟨(by kernel_rfl : chkR _ _ _ _ = true), ?_⟩; conv => whnf) | (refine EvOr.go ?_; conv => whnf))
    refine CallG.use gD c99 [5, 6, 7, 9, 8] [] ?_ ?_ ?_ ?_ ?_ ?_; rfl; rfl; kernel_rfl; rfl; rfl
    conv => whnf
    repeat (first | (refine ⟨(by kernel_rfl : chkR _ _ _ _ = true), ?_⟩; conv => whnf) | (refine EvOr.go ?_; conv => whnf))
    intro c hc
    obtain rfl : c = true := by rw [hc]; rfl
    conv => whnf
    repeat (first | (refine ⟨(by kernel_rfl : chkR _ _ _ _ = true), ?_⟩; conv => whnf) | (refine EvOr.go ?_; conv => whnf))
    exact retQ.oneS [0, 1, 2, 3, 4, 5, 6, 7, 8, 9, 10, 1, 2, 3, 4, 4] rfl (by first | exact .inr rfl | exact .inl rfl) rfl (by kernel_rfl) (by first | rfl | kernel_rfl)
theorem do_set (hm : MkB mk X Y) (hr : arithI .and .i64 aD 15 = some 7) (hM : M' = setM M aI aS) (hlg : lg.ok M.log) (hn : 0 < M.n) (h0 : mayE M aI = 0) (hd : RawAt R D d.v) (hl : RawAt R M.log l.v) (hb : D.length < 2 ^ 29) (hb2 : M.log.length < 2 ^ 29) :
    FunT Try.prog 41 [mpv, ppt, .agg (actSegs (actA aD aI aS ad nn cp aO))] (doH M lg mk d l R X Y (some (famB R0))) (bv true) (doR M' (lg.set M.log aI) mk R (.sl 14 0 65 (D.length + 1) none) (rowN (D ++ [(aI, aS)])) (jS (delW aI M.log) 15) (jB (delW aI M.log)) X Y (some (famB R0))) := by
  have gF := set_to M M' lg mk aI aS hM hlg hn h0 (by omega)
  have hmb : mayB M.n aI = true := by
    cases h : mayB M.n aI with
    | true => rfl
    | false => rw [← may_eq, h] at h0; exact absurd h0 (by decide)
  have gD := rset_ok M.n d l mk M.fails M.hurt R D M.log aI aS hmb hd hl (by omega) (by omega)
  have e1 : M'.n = M.n := by rw [hM]; rfl
  have e2 : M'.fails = M.fails := by rw [hM]; rfl
  have e3 : M'.hurt = true := by rw [hM]; rfl
  have e4 : M'.log = delW aI M.log := by rw [hM]; rfl
  unfold doR
  rw [e1, e2, e3]
  clear hM
  generalize delW aI M.log = O at *
  generalize hls : lg.set M.log aI = ls at *
  have hls2 : (lg = .nil ∧ ls = .nil) ∨ (lg = .ex ∧ ls = .ex) ∨ ∃ J J', lg = .inx J ∧ ls = .inx J' := by
    subst hls
    cases lg with
    | nil => exact .inl ⟨rfl, rfl⟩
    | ex => exact .inr (.inl ⟨rfl, rfl⟩)
    | inx J => exact .inr (.inr ⟨J, _, rfl, rfl⟩)
  clear hls
  rcases hm with ⟨rfl, rfl, rfl⟩ | ⟨B, V, rfl, rfl, rfl⟩ <;> rcases hls2 with ⟨rfl, rfl⟩ | ⟨rfl, rfl⟩ | ⟨J, J', rfl, rfl⟩ <;> cases O <;>
  · refine FunT.ev tabOk mixed Try.func41 rfl ?_
    conv => whnf
    repeat (first | (refine ⟨(by kernel_rfl : chkR _ _ _ _ = true), ?_⟩; conv => whnf) | (refine EvOr.go ?_; conv => whnf))
    refine ⟨_, hr, ?_⟩
    conv => whnf
    repeat (first | (refine ⟨(by kernel_rfl : chkR _ _ _ _ = true), ?_⟩; conv => whnf) | (refine EvOr.go ?_; conv => whnf))
    repeat (intro c hc; simp [] at hc; subst hc; (conv => whnf); repeat (first | (refine ⟨(by kernel_rfl : chkR _ _ _ _ = true), ?_⟩; (conv => whnf)) | (refine EvOr.go ?_; (conv => whnf))))
    refine CallG.use gF c47 [0, 1, 2, 3, 4] [0, 1, 2, 3] ?_ ?_ ?_ ?_ ?_ ?_; rfl; rfl; kernel_rfl; rfl; rfl
    conv => whnf
    repeat (first | (refine ⟨(by kernel_rfl : chkR _ _ _ _ = true), ?_⟩; conv => whnf) | (refine EvOr.go ?_; conv => whnf))
    refine CallG.use gD c99 [5, 6, 7, 9, 8] [0] ?_ ?_ ?_ ?_ ?_ ?_; rfl; rfl; kernel_rfl; rfl; rfl
    conv => whnf
    repeat (first | (refine ⟨(by kernel_rfl : chkR _ _ _ _ = true), ?_⟩; conv => whnf) | (refine EvOr.go ?_; conv => whnf))
    intro c hc
    obtain rfl : c = true := by rw [hc]; rfl
    conv => whnf
    repeat (first | (refine ⟨(by kernel_rfl : chkR _ _ _ _ = true), ?_⟩; conv => whnf) | (refine EvOr.go ?_; conv => whnf))
    exact retQ.oneS [0, 1, 2, 3, 4, 5, 6, 7, 8, 9, 10, 1, 2, 3, 13, 12] rfl (by first | exact .inr rfl | exact .inl rfl) rfl (by kernel_rfl) (by first | rfl | kernel_rfl)
abbrev doCr (pk : List Int) : Prop := FunT Try.prog 41 [mpv, ppt, .agg (actP (actA aD aI aS ad nn cp aO) (.sl 10 0 1 pk.length none))] (doH M lg mk d l R X Y (pkR pk)) (bv true) (doR M' .nil mk R (durS d D (keptL pk M.log) 14) (durB D (keptL pk M.log)) nilS none X Y (pkR pk))
theorem by_take (pk : List Int) : List.take pk.length (List.drop 0 (pk.map bySeg)) = pk.map bySeg := by
  rw [List.drop_zero, List.take_of_length_le (by rw [List.length_map]; exact Nat.le_refl _)]
theorem do_crash (hm : MkB mk X Y) (pk : List Int) (hp : 0 < pk.length) (hr : arithI .and .i64 aD 15 = some 6) (hM : M' = crashed M (picked pk)) (hlg : lg.ok M.log) (hn : 0 < M.n) (hd : RawAt R D d.v) (hl : RawAt R M.log l.v) (hb : D.length < 2 ^ 29) (hb2 : M.log.length < 2 ^ 29) (hpb : pk.length ≤ 2 ^ 47 - 4096) :
    doCr M M' lg mk d l R D aD aI aS ad nn cp aO X Y pk := by
  have gF := crashR_to M M' lg mk pk hM hlg hn (by omega)
  have gD := rcrash_ok M.n d l mk M.fails M.hurt R D M.log pk hd hl (by omega) (by omega)
  have e1 : M'.n = M.n := by rw [hM]
  have e2 : M'.fails = M.fails := by rw [hM]
  have e3 : M'.hurt = M.hurt := by rw [hM]
  unfold doCr doR
  rw [e1, e2, e3]
  clear hM
  generalize keptL pk M.log = O at *
  have eT := by_take pk
  have eS : List.take (0 + pk.length) (List.drop 0 (List.take pk.length (List.drop 0 (pk.map bySeg)))) = pk.map bySeg := by rw [Nat.zero_add, eT, eT]
  have gF2 : FunT Try.prog 32 [mpv, .sc (.sl 5 0 1 (0 + pk.length) none)] (hM4 M lg mk ++ [some (.row .ro 5 1 (List.take pk.length (List.drop 0 (pk.map bySeg))) [])]) (iv 0) [some (memG M' .nil mk 6 2 3 4), none, imB M'.dur, none, none, some (.row .ro 5 1 (List.take pk.length (List.drop 0 (pk.map bySeg))) []), imB M'.seen] := by
    rw [eT, Nat.zero_add]; exact gF
  clear gF
  rcases hm with ⟨rfl, rfl, rfl⟩ | ⟨B, V, rfl, rfl, rfl⟩ <;> cases lg <;> cases O <;>
  · refine FunT.ev tabOk mixed Try.func41 rfl ?_
    conv => whnf
    repeat (first | (refine ⟨(by kernel_rfl : chkR _ _ _ _ = true), ?_⟩; conv => whnf) | (refine EvOr.go ?_; conv => whnf))
    refine ⟨_, hr, ?_⟩
    conv => whnf
    repeat (first | (refine ⟨(by kernel_rfl : chkR _ _ _ _ = true), ?_⟩; conv => whnf) | (refine EvOr.go ?_; conv => whnf))
    repeat (intro c hc; simp [] at hc; subst hc; (conv => whnf); repeat (first | (refine ⟨(by kernel_rfl : chkR _ _ _ _ = true), ?_⟩; (conv => whnf)) | (refine EvOr.go ?_; (conv => whnf))))
    refine ⟨by rw [List.length_map]; omega, ?_⟩
    conv => whnf
    repeat (first | (refine ⟨(by kernel_rfl : chkR _ _ _ _ = true), ?_⟩; conv => whnf) | (refine EvOr.go ?_; conv => whnf))
    refine ⟨by decide, fun h => absurd h (by omega), fun _ => ⟨⟨by omega, by show (2 * (0 + pk.length) + 192) * 1 ≤ 2 ^ 48; omega⟩, ?_⟩⟩
    conv => whnf
    repeat (first | (refine ⟨(by kernel_rfl : chkR _ _ _ _ = true), ?_⟩; conv => whnf) | (refine EvOr.go ?_; conv => whnf))
    refine CallG.use gF2 c32 [0, 1, 2, 3, 4, 13] [0, 1, 2, 3] ?_ ?_ ?_ ?_ ?_ ?_; rfl; rfl; kernel_rfl; rfl; rfl
    conv => whnf
    repeat (first | (refine ⟨(by kernel_rfl : chkR _ _ _ _ = true), ?_⟩; conv => whnf) | (refine EvOr.go ?_; conv => whnf))
    refine CallG.use gD c98 [5, 6, 7, 9, 8, 10] [0] ?_ ?_ ?_ ?_ ?_ ?_; rfl; rfl; kernel_rfl; rfl; rfl
    conv => whnf
    repeat (first | (refine ⟨(by kernel_rfl : chkR _ _ _ _ = true), ?_⟩; conv => whnf) | (refine EvOr.go ?_; conv => whnf))
    intro c hc
    obtain rfl : c = true := by rw [hc]; rfl
    conv => whnf
    repeat (first | (refine ⟨(by kernel_rfl : chkR _ _ _ _ = true), ?_⟩; conv => whnf) | (refine EvOr.go ?_; conv => whnf))
    refine ⟨by rw [eT]; show 0 + (0 + pk.length) ≤ (pk.map bySeg).length; rw [List.length_map]; omega, pk, eS, ?_⟩
    conv => whnf
    repeat (first | (refine ⟨(by kernel_rfl : chkR _ _ _ _ = true), ?_⟩; conv => whnf) | (refine EvOr.go ?_; conv => whnf))
    refine ⟨by rw [List.length_map]; omega, pk, eT, ?_⟩
    conv => whnf
    repeat (first | (refine ⟨(by kernel_rfl : chkR _ _ _ _ = true), ?_⟩; conv => whnf) | (refine EvOr.go ?_; conv => whnf))
    intro c hc
    obtain rfl : c = true := by rw [hc]; exact beq_self_eq_true _
    conv => whnf
    repeat (first | (refine ⟨(by kernel_rfl : chkR _ _ _ _ = true), ?_⟩; conv => whnf) | (refine EvOr.go ?_; conv => whnf))
    exact retQ.oneS [0, 1, 2, 3, 4, 5, 6, 7, 8, 9, 10, 14, 2, 3, 15, 4] rfl (by first | exact .inr rfl | exact .inl rfl) rfl (by kernel_rfl) (by first | rfl | kernel_rfl)
theorem do_crash0 (hm : MkB mk X Y) (hr : arithI .and .i64 aD 15 = some 6) (hM : M' = crashed M noPick) (hlg : lg.ok M.log) (hn : 0 < M.n) (hl : RawAt R M.log l.v) (hb2 : M.log.length < 2 ^ 29) :
    FunT Try.prog 41 [mpv, ppt, .agg (actSegs (actA aD aI aS ad 0 cp aO))] (doH M lg mk d l R X Y (some (famB R0))) (bv true) (doR M' .nil mk R (.raw d.v) none nilS none X Y (some (famB R0))) := by
  have gF := crashS_to M M' lg mk [] (noPick_eq ▸ hM) hlg hn (by omega)
  have gD := rcrash_no M.n d l mk M.fails M.hurt R M.log ad cp hl
  have e1 : M'.n = M.n := by rw [hM]
  have e2 : M'.fails = M.fails := by rw [hM]
  have e3 : M'.hurt = M.hurt := by rw [hM]
  unfold doR
  rw [e1, e2, e3]
  clear hM
  rcases hm with ⟨rfl, rfl, rfl⟩ | ⟨B, V, rfl, rfl, rfl⟩ <;> cases lg <;>
  · refine FunT.ev tabOk mixed Try.func41 rfl ?_
    conv => whnf
    repeat (first | (refine ⟨(by kernel_rfl : chkR _ _ _ _ = true), ?_⟩; conv => whnf) | (refine EvOr.go ?_; conv => whnf))
    refine ⟨_, hr, ?_⟩
    conv => whnf
    repeat (first | (refine ⟨(by kernel_rfl : chkR _ _ _ _ = true), ?_⟩; conv => whnf) | (refine EvOr.go ?_; conv => whnf))
    repeat (intro c hc; simp [] at hc; subst hc; (conv => whnf); repeat (first | (refine ⟨(by kernel_rfl : chkR _ _ _ _ = true), ?_⟩; (conv => whnf)) | (refine EvOr.go ?_; (conv => whnf))))
    refine ⟨by decide, fun _ => ?_, fun h => absurd h (by omega)⟩
    conv => whnf
    repeat (first | (refine ⟨(by kernel_rfl : chkR _ _ _ _ = true), ?_⟩; conv => whnf) | (refine EvOr.go ?_; conv => whnf))
    refine ⟨by decide, ?_⟩
    conv => whnf
    repeat (first | (refine ⟨(by kernel_rfl : chkR _ _ _ _ = true), ?_⟩; conv => whnf) | (refine EvOr.go ?_; conv => whnf))
    refine CallG.use gF c32 [0, 1, 2, 3, 4, 12] [0, 1, 2, 3] ?_ ?_ ?_ ?_ ?_ ?_; rfl; rfl; kernel_rfl; rfl; rfl
    conv => whnf
    repeat (first | (refine ⟨(by kernel_rfl : chkR _ _ _ _ = true), ?_⟩; conv => whnf) | (refine EvOr.go ?_; conv => whnf))
    refine CallG.use gD c98 [5, 6, 7, 9, 8] [0] ?_ ?_ ?_ ?_ ?_ ?_; rfl; rfl; kernel_rfl; rfl; rfl
    conv => whnf
    repeat (first | (refine ⟨(by kernel_rfl : chkR _ _ _ _ = true), ?_⟩; conv => whnf) | (refine EvOr.go ?_; conv => whnf))
    intro c hc
    obtain rfl : c = true := by rw [hc]; rfl
    conv => whnf
    repeat (first | (refine ⟨(by kernel_rfl : chkR _ _ _ _ = true), ?_⟩; conv => whnf) | (refine EvOr.go ?_; conv => whnf))
    refine ⟨by decide, [], rfl, ?_⟩
    conv => whnf
    repeat (first | (refine ⟨(by kernel_rfl : chkR _ _ _ _ = true), ?_⟩; conv => whnf) | (refine EvOr.go ?_; conv => whnf))
    refine ⟨[], rfl, ?_⟩
    conv => whnf
    repeat (first | (refine ⟨(by kernel_rfl : chkR _ _ _ _ = true), ?_⟩; conv => whnf) | (refine EvOr.go ?_; conv => whnf))
    intro c hc
    obtain rfl : c = true := by rw [hc]; exact beq_self_eq_true _
    conv => whnf
    repeat (first | (refine ⟨(by kernel_rfl : chkR _ _ _ _ = true), ?_⟩; conv => whnf) | (refine EvOr.go ?_; conv => whnf))
    exact retQ.oneS [0, 1, 2, 3, 4, 5, 6, 7, 8, 9, 10, 13, 2, 3, 4, 4] rfl (by first | exact .inr rfl | exact .inl rfl) rfl (by kernel_rfl) (by first | rfl | kernel_rfl)
end Go.Proofs.Ytdmcbfmpnakdfaa.Eng.Rm
/- What is done to a member and to the document's: marks, the way back. -/
namespace Go.Proofs.Ytdmcbfmpnakdfaa.Eng.Rm
open Go Go.Proofs
set_option maxRecDepth 20000
set_option maxHeartbeats 8000000
variable (M M' : Mem) (lg lg' : Lg) (mk : Mk) (d l : Sl) (R : List (Nat × Obj)) (D : Img) (aD aI : Int) (aS : List Nat) (ad : Option Addr) (nn cp : Nat) (aO : Bool) (r : Int) (X Y : Option ABlk) (R0 : List (Nat × Obj))
theorem backN_err (M : Mem) (lg : Lg) (i : Int) (hn : 0 < M.n) :
    FunT Try.prog 44 [mpv, iv i] (hM M lg .nil) (iv 2) (hM M lg .nil) := by
  have hI := is_ok M lg .nil hn
  by_cases h0 : i < 0
  · cases lg <;>
    · refine FunT.ev tabOk mixed Try.func44 rfl ?_
      conv => whnf
      repeat (first | (refine ⟨(by kernel_rfl : chkR _ _ _ _ = true), ?_⟩; conv => whnf) | (refine EvOr.go ?_; conv => whnf))
      refine CallG.use hI c89 [0, 1, 2, 3, 4] [] ?_ ?_ ?_ ?_ ?_ ?_; rfl; rfl; kernel_rfl; rfl; rfl
      conv => whnf
      repeat (first | (refine ⟨(by kernel_rfl : chkR _ _ _ _ = true), ?_⟩; conv => whnf) | (refine EvOr.go ?_; conv => whnf))
      intro c hc
      obtain rfl : c = true := by rw [hc]; exact decide_eq_true (by omega)
      conv => whnf
      repeat (first | (refine ⟨(by kernel_rfl : chkR _ _ _ _ = true), ?_⟩; conv => whnf) | (refine EvOr.go ?_; conv => whnf))
      exact retQ.one rfl (.inr rfl) rfl (Nat.le_of_ble_eq_true rfl) rfl
  · cases lg <;>
    · refine FunT.ev tabOk mixed Try.func44 rfl ?_
      conv => whnf
      repeat (first | (refine ⟨(by kernel_rfl : chkR _ _ _ _ = true), ?_⟩; conv => whnf) | (refine EvOr.go ?_; conv => whnf))
      refine CallG.use hI c89 [0, 1, 2, 3, 4] [] ?_ ?_ ?_ ?_ ?_ ?_; rfl; rfl; kernel_rfl; rfl; rfl
      conv => whnf
      repeat (first | (refine ⟨(by kernel_rfl : chkR _ _ _ _ = true), ?_⟩; conv => whnf) | (refine EvOr.go ?_; conv => whnf))
      intro c hc
      obtain rfl : c = false := by rw [hc]; exact decide_eq_false (by omega)
      conv => whnf
      repeat (first | (refine ⟨(by kernel_rfl : chkR _ _ _ _ = true), ?_⟩; conv => whnf) | (refine EvOr.go ?_; conv => whnf))
      intro c hc
      obtain rfl : c = true := by rw [hc]; exact decide_eq_true (by show (0 : Int) ≤ i; omega)
      conv => whnf
      repeat (first | (refine ⟨(by kernel_rfl : chkR _ _ _ _ = true), ?_⟩; conv => whnf) | (refine EvOr.go ?_; conv => whnf))
      exact retQ.one rfl (.inr rfl) rfl (Nat.le_of_ble_eq_true rfl) rfl
theorem do_bnil (hr : arithI .and .i64 aD 15 = some 9) (hn : 0 < M.n) :
    FunT Try.prog 41 [mpv, ppt, .agg (actSegs (actA aD aI aS ad nn cp aO))] (doH M lg .nil d l R none none (some (famB R0))) (bv true) (doR M lg .nil R (.raw d.v) none (.raw l.v) none none none (some (famB R0))) := by
  have gE := backN_err M lg aI hn
  have gD := rback_nil M.n d l M.fails M.hurt R aI
  cases lg <;>
  · refine FunT.ev tabOk mixed Try.func41 rfl ?_
    conv => whnf
    repeat (first | (refine ⟨(by kernel_rfl : chkR _ _ _ _ = true), ?_⟩; conv => whnf) | (refine EvOr.go ?_; conv => whnf))
    refine ⟨_, hr, ?_⟩
    conv => whnf
    repeat (first | (refine ⟨(by kernel_rfl : chkR _ _ _ _ = true), ?_⟩; conv => whnf) | (refine EvOr.go ?_; conv => whnf))
    repeat (intro c hc; simp [] at hc; subst hc; (conv => whnf); repeat (first | (refine ⟨(by kernel_rfl : chkR _ _ _ _ = true), ?_⟩; (conv => whnf)) | (refine EvOr.go ?_; (conv => whnf))))
    refine CallG.use gE c44 [0, 1, 2, 3, 4] [] ?_ ?_ ?_ ?_ ?_ ?_; rfl; rfl; kernel_rfl; rfl; rfl
    conv => whnf
    repeat (first | (refine ⟨(by kernel_rfl : chkR _ _ _ _ = true), ?_⟩; conv => whnf) | (refine EvOr.go ?_; conv => whnf))
    refine CallG.use gD c101 [5, 6, 7, 9] [] ?_ ?_ ?_ ?_ ?_ ?_; rfl; rfl; kernel_rfl; rfl; rfl
    conv => whnf
    repeat (first | (refine ⟨(by kernel_rfl : chkR _ _ _ _ = true), ?_⟩; conv => whnf) | (refine EvOr.go ?_; conv => whnf))
    intro c hc
    obtain rfl : c = true := by rw [hc]; rfl
    conv => whnf
    repeat (first | (refine ⟨(by kernel_rfl : chkR _ _ _ _ = true), ?_⟩; conv => whnf) | (refine EvOr.go ?_; conv => whnf))
    exact retQ.oneS [0, 1, 2, 3, 4, 5, 6, 7, 8, 9, 10, 1, 2, 3, 4, 4] rfl (by first | exact .inr rfl | exact .inl rfl) rfl (by kernel_rfl) (by first | rfl | kernel_rfl)
theorem do_berr (B : List Nat) (V : List Sl) (hBV : B.length = V.length) (hr : arithI .and .i64 aD 15 = some 9) (hn : 0 < M.n) (hi : ¬ (0 ≤ aI ∧ aI < (B.length : Nat))) :
    FunT Try.prog 41 [mpv, ppt, .agg (actSegs (actA aD aI aS ad nn cp aO))] (doH M lg (.row B.length) d l R (mkF B) (rowK V) (some (famB R0))) (bv true) (doR M lg (.row B.length) R (.raw d.v) none (.raw l.v) none (mkF B) (rowK V) (some (famB R0))) := by
  have gE := back_errF M lg B aI hn hi
  have gD := rback_err M.n d l V M.fails M.hurt R aI (hBV ▸ hi)
  have gD : FunT Try.prog 101 [rpt, iv aI] [refG M.n d l (.row B.length) M.fails M.hurt, some (famB R), some (famB R), rowK V] (iv 2) [refG M.n d l (.row B.length) M.fails M.hurt, some (famB R), some (famB R), rowK V] := by rw [hBV]; exact gD
  cases lg <;>
  · refine FunT.ev tabOk mixed Try.func41 rfl ?_
    conv => whnf
    repeat (first | (refine ⟨(by kernel_rfl : chkR _ _ _ _ = true), ?_⟩; conv => whnf) | (refine EvOr.go ?_; conv => whnf))
    refine ⟨_, hr, ?_⟩
    conv => whnf
    repeat (first | (refine ⟨(by kernel_rfl : chkR _ _ _ _ = true), ?_⟩; conv => whnf) | (refine EvOr.go ?_; conv => whnf))
    repeat (intro c hc; simp [] at hc; subst hc; (conv => whnf); repeat (first | (refine ⟨(by kernel_rfl : chkR _ _ _ _ = true), ?_⟩; (conv => whnf)) | (refine EvOr.go ?_; (conv => whnf))))
    refine CallG.use gE c44 [0, 1, 2, 3, 4] [] ?_ ?_ ?_ ?_ ?_ ?_; rfl; rfl; kernel_rfl; rfl; rfl
    conv => whnf
    repeat (first | (refine ⟨(by kernel_rfl : chkR _ _ _ _ = true), ?_⟩; conv => whnf) | (refine EvOr.go ?_; conv => whnf))
    refine CallG.use gD c101 [5, 6, 7, 9] [] ?_ ?_ ?_ ?_ ?_ ?_; rfl; rfl; kernel_rfl; rfl; rfl
    conv => whnf
    repeat (first | (refine ⟨(by kernel_rfl : chkR _ _ _ _ = true), ?_⟩; conv => whnf) | (refine EvOr.go ?_; conv => whnf))
    intro c hc
    obtain rfl : c = true := by rw [hc]; rfl
    conv => whnf
    repeat (first | (refine ⟨(by kernel_rfl : chkR _ _ _ _ = true), ?_⟩; conv => whnf) | (refine EvOr.go ?_; conv => whnf))
    exact retQ.oneS [0, 1, 2, 3, 4, 5, 6, 7, 8, 9, 10, 1, 2, 3, 4, 4] rfl (by first | exact .inr rfl | exact .inl rfl) rfl (by kernel_rfl) (by first | rfl | kernel_rfl)
theorem do_back (B : List Nat) (V : List Sl) (k : Nat) (hk : k < B.length) (hk2 : k < V.length) (S : Img) (ob : Obj) (hR : (B[k], ob) ∈ R) (hO : MapObj ob (encM S)) (hBV : B.length = V.length) (hr : arithI .and .i64 aD 15 = some 9) (hI : aI = (k : Nat)) (hM : M' = { M with seen := S, dur := S, log := [], hurt := true }) (hn : 0 < M.n) :
    FunT Try.prog 41 [mpv, ppt, .agg (actSegs (actA aD aI aS ad nn cp aO))] (doH M lg (.row B.length) d l R (mkF B) (rowK V) (some (famB R0))) (bv true) (doR M' .nil (.row B.length) R (.raw V[k].v) none nilS none (mkF B) (rowK V) (some (famB R0))) := by
  subst hI
  have gE := back_any M M' lg B k hk S R ob hR hO hM hn
  have gD := rback_ok M.n d l V M.fails M.hurt R k hk2
  have gD : FunT Try.prog 101 [rpt, iv (k : Nat)] [refG M.n d l (.row B.length) M.fails M.hurt, some (famB R), some (famB R), rowK V] (iv 0) [refS M.n (.raw V[k].v) nilS (.sl 3 0 1 B.length none) M.fails true, some (famB R), some (famB R), rowK V] := by rw [hBV]; exact gD
  have e1 : M'.n = M.n := by rw [hM]
  have e2 : M'.fails = M.fails := by rw [hM]
  have e3 : M'.hurt = true := by rw [hM]
  have e4 : M'.seen = S := by rw [hM]
  have e5 : M'.dur = S := by rw [hM]
  unfold doR
  rw [e1, e2, e3, e4, e5]
  clear hM hR hO
  generalize V[k] = sl at *
  cases lg <;>
  · refine FunT.ev tabOk mixed Try.func41 rfl ?_
    conv => whnf
    repeat (first | (refine ⟨(by kernel_rfl : chkR _ _ _ _ = true), ?_⟩; conv => whnf) | (refine EvOr.go ?_; conv => whnf))
    refine ⟨_, hr, ?_⟩
    conv => whnf
    repeat (first | (refine ⟨(by kernel_rfl : chkR _ _ _ _ = true), ?_⟩; conv => whnf) | (refine EvOr.go ?_; conv => whnf))
    repeat (intro c hc; simp [] at hc; subst hc; (conv => whnf); repeat (first | (refine ⟨(by kernel_rfl : chkR _ _ _ _ = true), ?_⟩; (conv => whnf)) | (refine EvOr.go ?_; (conv => whnf))))
    refine CallG.use gE c44 [0, 1, 2, 3, 4, 6] [0] ?_ ?_ ?_ ?_ ?_ ?_; rfl; rfl; kernel_rfl; rfl; rfl
    conv => whnf
    repeat (first | (refine ⟨(by kernel_rfl : chkR _ _ _ _ = true), ?_⟩; conv => whnf) | (refine EvOr.go ?_; conv => whnf))
    refine CallG.use gD c101 [5, 6, 7, 9] [0] ?_ ?_ ?_ ?_ ?_ ?_; rfl; rfl; kernel_rfl; rfl; rfl
    conv => whnf
    repeat (first | (refine ⟨(by kernel_rfl : chkR _ _ _ _ = true), ?_⟩; conv => whnf) | (refine EvOr.go ?_; conv => whnf))
    intro c hc
    obtain rfl : c = true := by rw [hc]; rfl
    conv => whnf
    repeat (first | (refine ⟨(by kernel_rfl : chkR _ _ _ _ = true), ?_⟩; conv => whnf) | (refine EvOr.go ?_; conv => whnf))
    exact retQ.oneS [0, 1, 2, 3, 4, 5, 6, 7, 8, 9, 10, 12, 13, 3, 4, 4] rfl (by first | exact .inr rfl | exact .inl rfl) rfl (by kernel_rfl) (by first | rfl | kernel_rfl)
theorem do_full (B : List Nat) (V : List Sl) (hBV : B.length = V.length) (hr : arithI .and .i64 aD 15 = some 8) (hn : 0 < M.n) (h64 : B.length = 64) :
    FunT Try.prog 41 [mpv, ppt, .agg (actSegs (actA aD aI aS ad nn cp aO))] (doH M lg (.row B.length) d l R (mkF B) (rowK V) (some (famB R0))) (bv true) (doR M lg (.row B.length) R (.raw d.v) none (.raw l.v) none (mkF B) (rowK V) (some (famB R0))) := by
  have gE := mark_full M lg hn
  rw [← h64] at gE
  have gD := rmark_full M.n d l V M.fails M.hurt R (by omega)
  have gD : FunT Try.prog 100 [rpt] [refG M.n d l (.row B.length) M.fails M.hurt, some (famB R), some (famB R), rowK V] (.tup [iv 0, iv 7]) [refG M.n d l (.row B.length) M.fails M.hurt, some (famB R), some (famB R), rowK V] := by rw [hBV]; exact gD
  generalize B.length = bl at *
  cases lg <;>
  · refine FunT.ev tabOk mixed Try.func41 rfl ?_
    conv => whnf
    repeat (first | (refine ⟨(by kernel_rfl : chkR _ _ _ _ = true), ?_⟩; conv => whnf) | (refine EvOr.go ?_; conv => whnf))
    refine ⟨_, hr, ?_⟩
    conv => whnf
    repeat (first | (refine ⟨(by kernel_rfl : chkR _ _ _ _ = true), ?_⟩; conv => whnf) | (refine EvOr.go ?_; conv => whnf))
    repeat (intro c hc; simp [] at hc; subst hc; (conv => whnf); repeat (first | (refine ⟨(by kernel_rfl : chkR _ _ _ _ = true), ?_⟩; (conv => whnf)) | (refine EvOr.go ?_; (conv => whnf))))
    refine CallG.use gE c43 [0, 1, 2, 3, 4] [] ?_ ?_ ?_ ?_ ?_ ?_; rfl; rfl; kernel_rfl; rfl; rfl
    conv => whnf
    repeat (first | (refine ⟨(by kernel_rfl : chkR _ _ _ _ = true), ?_⟩; conv => whnf) | (refine EvOr.go ?_; conv => whnf))
    refine CallG.use gD c100 [5, 6, 7, 9] [] ?_ ?_ ?_ ?_ ?_ ?_; rfl; rfl; kernel_rfl; rfl; rfl
    conv => whnf
    repeat (first | (refine ⟨(by kernel_rfl : chkR _ _ _ _ = true), ?_⟩; conv => whnf) | (refine EvOr.go ?_; conv => whnf))
    intro c hc
    obtain rfl : c = true := by rw [hc]; rfl
    conv => whnf
    repeat (first | (refine ⟨(by kernel_rfl : chkR _ _ _ _ = true), ?_⟩; conv => whnf) | (refine EvOr.go ?_; conv => whnf))
    intro c hc
    obtain rfl : c = true := by rw [hc]; rfl
    conv => whnf
    repeat (first | (refine ⟨(by kernel_rfl : chkR _ _ _ _ = true), ?_⟩; conv => whnf) | (refine EvOr.go ?_; conv => whnf))
    exact retQ.oneS [0, 1, 2, 3, 4, 5, 6, 7, 8, 9, 10, 1, 2, 3, 4, 4] rfl (by first | exact .inr rfl | exact .inl rfl) rfl (by kernel_rfl) (by first | rfl | kernel_rfl)
/-- Behind a mark. -/
abbrev doM (M : Mem) (lg : Lg) (k : Nat) (d l : Sl) (R R0 : List (Nat × Obj)) (mB vB aB : Option ABlk) : LHp :=
  [some (memG M lg (.row (k + 1)) 1 2 3 11), imB M.seen, imB M.dur, logB M lg, none, refS M.n (.raw d.v) (.raw l.v) (.sl 12 0 1 (k + 1) none) M.fails M.hurt, some (famB R), some (famB R), some (famB R), none, some (famB R0), mB, vB, imB M.seen, aB]
abbrev mB0 (B : List Nat) : Option ABlk := some (.row .inx 73 1 (B.map mapE ++ [[.one (.mp 13)]]) [13])
abbrev vB0 (V : List Sl) (n : Nat) : Option ABlk := some (.row .inx 130 1 (V.map rawK ++ [[.one (.sl 14 0 65 n none)]]) [14])
abbrev vB1 (V : List Sl) : Option ABlk := some (.row .inx 130 1 (V.map rawK ++ [[.one nilS]]) [])
theorem do_mark1 (hr : arithI .and .i64 aD 15 = some 8) (hn : 0 < M.n) (hd : RawAt R D d.v) (hl : RawAt R M.log l.v) (hb : D.length < 2 ^ 29) (hb2 : M.log.length < 2 ^ 29) (h0 : 0 < (D ++ M.log).length) :
    FunT Try.prog 41 [mpv, ppt, .agg (actSegs (actA aD aI aS ad nn cp aO))] (doH M lg .nil d l R none none (some (famB R0))) (bv true) (doM M lg 0 d l R R0 (mB0 []) (vB0 [] (D ++ M.log).length) (rowN (D ++ M.log))) := by
  have gE := mark_ok M lg hn
  have gD := rmark_first M.n d l M.fails M.hurt R D M.log hd hl (by omega) (by omega) h0
  generalize D ++ M.log = A at *
  cases lg <;>
  · refine FunT.ev tabOk mixed Try.func41 rfl ?_
    conv => whnf
    repeat (first | (refine ⟨(by kernel_rfl : chkR _ _ _ _ = true), ?_⟩; conv => whnf) | (refine EvOr.go ?_; conv => whnf))
    refine ⟨_, hr, ?_⟩
    conv => whnf
    repeat (first | (refine ⟨(by kernel_rfl : chkR _ _ _ _ = true), ?_⟩; conv => whnf) | (refine EvOr.go ?_; conv => whnf))
    repeat (intro c hc; simp [] at hc; subst hc; (conv => whnf); repeat (first | (refine ⟨(by kernel_rfl : chkR _ _ _ _ = true), ?_⟩; (conv => whnf)) | (refine EvOr.go ?_; (conv => whnf))))
    refine CallG.use gE c43 [0, 1, 2, 3, 4] [0] ?_ ?_ ?_ ?_ ?_ ?_; rfl; rfl; kernel_rfl; rfl; rfl
    conv => whnf
    repeat (first | (refine ⟨(by kernel_rfl : chkR _ _ _ _ = true), ?_⟩; conv => whnf) | (refine EvOr.go ?_; conv => whnf))
    refine CallG.use gD c100 [5, 6, 7, 9] [0] ?_ ?_ ?_ ?_ ?_ ?_; rfl; rfl; kernel_rfl; rfl; rfl
    conv => whnf
    repeat (first | (refine ⟨(by kernel_rfl : chkR _ _ _ _ = true), ?_⟩; conv => whnf) | (refine EvOr.go ?_; conv => whnf))
    intro c hc
    obtain rfl : c = true := by rw [hc]; rfl
    conv => whnf
    repeat (first | (refine ⟨(by kernel_rfl : chkR _ _ _ _ = true), ?_⟩; conv => whnf) | (refine EvOr.go ?_; conv => whnf))
    intro c hc
    obtain rfl : c = true := by rw [hc]; rfl
    conv => whnf
    repeat (first | (refine ⟨(by kernel_rfl : chkR _ _ _ _ = true), ?_⟩; conv => whnf) | (refine EvOr.go ?_; conv => whnf))
    exact retQ.oneS [0, 1, 2, 3, 4, 5, 6, 7, 8, 9, 10, 13, 15, 12, 14] rfl (by first | exact .inr rfl | exact .inl rfl) rfl (by kernel_rfl) (by first | rfl | kernel_rfl)
theorem do_mark10 (hr : arithI .and .i64 aD 15 = some 8) (hn : 0 < M.n) (hd : RawAt R [] d.v) (hl : RawAt R [] l.v) :
    FunT Try.prog 41 [mpv, ppt, .agg (actSegs (actA aD aI aS ad nn cp aO))] (doH M lg .nil d l R none none (some (famB R0))) (bv true) (doM M lg 0 d l R R0 (mB0 []) (vB1 []) none) := by
  have gE := mark_ok M lg hn
  have gD := rmark_first0 M.n d l M.fails M.hurt R hd hl
  cases lg <;>
  · refine FunT.ev tabOk mixed Try.func41 rfl ?_
    conv => whnf
    repeat (first | (refine ⟨(by kernel_rfl : chkR _ _ _ _ = true), ?_⟩; conv => whnf) | (refine EvOr.go ?_; conv => whnf))
    refine ⟨_, hr, ?_⟩
    conv => whnf
    repeat (first | (refine ⟨(by kernel_rfl : chkR _ _ _ _ = true), ?_⟩; conv => whnf) | (refine EvOr.go ?_; conv => whnf))
    repeat (intro c hc; simp [] at hc; subst hc; (conv => whnf); repeat (first | (refine ⟨(by kernel_rfl : chkR _ _ _ _ = true), ?_⟩; (conv => whnf)) | (refine EvOr.go ?_; (conv => whnf))))
    refine CallG.use gE c43 [0, 1, 2, 3, 4] [0] ?_ ?_ ?_ ?_ ?_ ?_; rfl; rfl; kernel_rfl; rfl; rfl
    conv => whnf
    repeat (first | (refine ⟨(by kernel_rfl : chkR _ _ _ _ = true), ?_⟩; conv => whnf) | (refine EvOr.go ?_; conv => whnf))
    refine CallG.use gD c100 [5, 6, 7, 9] [0] ?_ ?_ ?_ ?_ ?_ ?_; rfl; rfl; kernel_rfl; rfl; rfl
    conv => whnf
    repeat (first | (refine ⟨(by kernel_rfl : chkR _ _ _ _ = true), ?_⟩; conv => whnf) | (refine EvOr.go ?_; conv => whnf))
    intro c hc
    obtain rfl : c = true := by rw [hc]; rfl
    conv => whnf
    repeat (first | (refine ⟨(by kernel_rfl : chkR _ _ _ _ = true), ?_⟩; conv => whnf) | (refine EvOr.go ?_; conv => whnf))
    intro c hc
    obtain rfl : c = true := by rw [hc]; rfl
    conv => whnf
    repeat (first | (refine ⟨(by kernel_rfl : chkR _ _ _ _ = true), ?_⟩; conv => whnf) | (refine EvOr.go ?_; conv => whnf))
    exact retQ.oneS [0, 1, 2, 3, 4, 5, 6, 7, 8, 9, 10, 13, 14, 12, 4] rfl (by first | exact .inr rfl | exact .inl rfl) rfl (by kernel_rfl) (by first | rfl | kernel_rfl)
theorem do_markk (B : List Nat) (V : List Sl) (hBV : B.length = V.length) (hB0 : 0 < B.length) (hB : B.length < 64) (hr : arithI .and .i64 aD 15 = some 8) (hn : 0 < M.n) (hd : RawAt R D d.v) (hl : RawAt R M.log l.v) (hb : D.length < 2 ^ 29) (hb2 : M.log.length < 2 ^ 29) (h0 : 0 < (D ++ M.log).length) :
    FunT Try.prog 41 [mpv, ppt, .agg (actSegs (actA aD aI aS ad nn cp aO))] (doH M lg (.row B.length) d l R (mkF B) (rowK V) (some (famB R0))) (bv true) (doM M lg B.length d l R R0 (mB0 B) (vB0 V (D ++ M.log).length) (rowN (D ++ M.log))) := by
  have gE := mark_any M lg B.length (B.map fun b => .map (some b)) hB (by simp) hn
  have eB : (B.map fun b => Value.map (some b)).map rawE = B.map mapE := by rw [List.map_map]; rfl
  rw [eB] at gE
  have gD := rmark_row M.n d l V M.fails M.hurt R D M.log (by omega) (by omega) hd hl (by omega) (by omega) h0
  have gD : FunT Try.prog 100 [rpt] [refG M.n d l (.row B.length) M.fails M.hurt, some (famB R), some (famB R), rowK V] (.tup [iv (B.length : Nat), iv 0]) [refS M.n (.raw d.v) (.raw l.v) (.sl 5 0 1 (B.length + 1) none) M.fails M.hurt, some (famB R), some (famB R), rowK V, rowN (D ++ M.log), some (.row .inx 130 1 (V.map rawK ++ [[.one (.sl 4 0 65 (D ++ M.log).length none)]]) [4])] := by rw [hBV]; exact gD
  generalize D ++ M.log = A at *
  have hw1 : ABlk.wfB (.row .inx 73 1 (B.map mapE ++ [[.one (.mp 13)]]) [13]) = true := by
    simp only [ABlk.wfB, List.all_append, List.all_map, Bool.and_eq_true]
    exact ⟨List.all_eq_true.2 fun x hx => rfl, rfl⟩
  have hw2 : ABlk.wfB (.row .inx 130 1 (V.map rawK ++ [[.one (.sl 14 0 65 A.length none)]]) [14]) = true := by
    simp only [ABlk.wfB, List.all_append, List.all_map, Bool.and_eq_true]
    exact ⟨List.all_eq_true.2 fun x hx => rfl, rfl⟩
  have eR : ∀ π : Nat → Nat, (V.map rawK).map (Segs.ren π) = V.map rawK := fun π => by rw [List.map_map]; rfl
  have eM : ∀ π : Nat → Nat, (B.map mapE).map (Segs.ren π) = B.map mapE := fun π => by rw [List.map_map]; rfl
  generalize hbl : B.length = bl at *
  cases lg <;>
  · refine FunT.ev tabOk mixed Try.func41 rfl ?_
    conv => whnf
    repeat (first | (refine ⟨(by kernel_rfl : chkR _ _ _ _ = true), ?_⟩; conv => whnf) | (refine EvOr.go ?_; conv => whnf))
    refine ⟨_, hr, ?_⟩
    conv => whnf
    repeat (first | (refine ⟨(by kernel_rfl : chkR _ _ _ _ = true), ?_⟩; conv => whnf) | (refine EvOr.go ?_; conv => whnf))
    repeat (intro c hc; simp [] at hc; subst hc; (conv => whnf); repeat (first | (refine ⟨(by kernel_rfl : chkR _ _ _ _ = true), ?_⟩; (conv => whnf)) | (refine EvOr.go ?_; (conv => whnf))))
    refine CallG.use gE c43 [0, 1, 2, 3, 4] [0, 4] ?_ ?_ ?_ ?_ ?_ ?_; rfl; rfl; kernel_rfl; rfl; rfl
    conv => whnf
    repeat (first | (refine ⟨(by kernel_rfl : chkR _ _ _ _ = true), ?_⟩; conv => whnf) | (refine EvOr.go ?_; conv => whnf))
    refine CallG.use gD c100 [5, 6, 7, 9] [0] ?_ ?_ ?_ ?_ ?_ ?_; rfl; rfl; kernel_rfl; rfl; rfl
    conv => whnf
    repeat (first | (refine ⟨(by kernel_rfl : chkR _ _ _ _ = true), ?_⟩; conv => whnf) | (refine EvOr.go ?_; conv => whnf))
    intro c hc
    obtain rfl : c = true := by rw [hc]; exact decide_eq_true rfl
    conv => whnf
    repeat (first | (refine ⟨(by kernel_rfl : chkR _ _ _ _ = true), ?_⟩; conv => whnf) | (refine EvOr.go ?_; conv => whnf))
    intro c hc
    obtain rfl : c = true := by rw [hc]; rfl
    conv => whnf
    repeat (first | (refine ⟨(by kernel_rfl : chkR _ _ _ _ = true), ?_⟩; conv => whnf) | (refine EvOr.go ?_; conv => whnf))
    refine retQ.of (.inr rfl) (ResT.one rfl) (sL [0, 1, 2, 3, 4, 5, 6, 7, 8, 9, 10, 14, 16, 12, 15]) rfl (StW.ofP2 [0, 1, 2, 3, 4, 5, 6, 7, 8, 9, 10, 14, 16, 12, 15] rfl ?_ rfl rfl ?_)
    · unfold wfH
      simp only [List.all_cons, List.all_nil, hw1, hw2, Bool.and_true]
      rfl
    · show pickH _ _ 0 _ = renH _ _
      simp only [renH, ABlk.ren, List.map_append, eR, eM, doM, mB0, vB0, refS, rowN, imB, logB]
      rfl
theorem do_mark0 (B : List Nat) (V : List Sl) (hBV : B.length = V.length) (hB0 : 0 < B.length) (hB : B.length < 64) (hr : arithI .and .i64 aD 15 = some 8) (hn : 0 < M.n) (hd : RawAt R [] d.v) (hl : RawAt R [] l.v) :
    FunT Try.prog 41 [mpv, ppt, .agg (actSegs (actA aD aI aS ad nn cp aO))] (doH M lg (.row B.length) d l R (mkF B) (rowK V) (some (famB R0))) (bv true) (doM M lg B.length d l R R0 (mB0 B) (vB1 V) none) := by
  have gE := mark_any M lg B.length (B.map fun b => .map (some b)) hB (by simp) hn
  have eB : (B.map fun b => Value.map (some b)).map rawE = B.map mapE := by rw [List.map_map]; rfl
  rw [eB] at gE
  have gD := rmark_row0 M.n d l V M.fails M.hurt R (by omega) (by omega) hd hl
  have gD : FunT Try.prog 100 [rpt] [refG M.n d l (.row B.length) M.fails M.hurt, some (famB R), some (famB R), rowK V] (.tup [iv (B.length : Nat), iv 0]) [refS M.n (.raw d.v) (.raw l.v) (.sl 4 0 1 (B.length + 1) none) M.fails M.hurt, some (famB R), some (famB R), rowK V, some (.row .inx 130 1 (V.map rawK ++ [[.one nilS]]) [])] := by rw [hBV]; exact gD
  have eM : ∀ π : Nat → Nat, (B.map mapE).map (Segs.ren π) = B.map mapE := fun π => by rw [List.map_map]; rfl
  have hw1 : ABlk.wfB (.row .inx 73 1 (B.map mapE ++ [[.one (.mp 13)]]) [13]) = true := by
    simp only [ABlk.wfB, List.all_append, List.all_map, Bool.and_eq_true]
    exact ⟨List.all_eq_true.2 fun x hx => rfl, rfl⟩
  generalize hbl : B.length = bl at *
  cases lg <;>
  · refine FunT.ev tabOk mixed Try.func41 rfl ?_
    conv => whnf
    repeat (first | (refine ⟨(by kernel_rfl : chkR _ _ _ _ = true), ?_⟩; conv => whnf) | (refine EvOr.go ?_; conv => whnf))
    refine ⟨_, hr, ?_⟩
    conv => whnf
    repeat (first | (refine ⟨(by kernel_rfl : chkR _ _ _ _ = true), ?_⟩; conv => whnf) | (refine EvOr.go ?_; conv => whnf))
    repeat (intro c hc; simp [] at hc; subst hc; (conv => whnf); repeat (first | (refine ⟨(by kernel_rfl : chkR _ _ _ _ = true), ?_⟩; (conv => whnf)) | (refine EvOr.go ?_; (conv => whnf))))
    refine CallG.use gE c43 [0, 1, 2, 3, 4] [0, 4] ?_ ?_ ?_ ?_ ?_ ?_; rfl; rfl; kernel_rfl; rfl; rfl
    conv => whnf
    repeat (first | (refine ⟨(by kernel_rfl : chkR _ _ _ _ = true), ?_⟩; conv => whnf) | (refine EvOr.go ?_; conv => whnf))
    refine CallG.use gD c100 [5, 6, 7, 9] [0] ?_ ?_ ?_ ?_ ?_ ?_; rfl; rfl; kernel_rfl; rfl; rfl
    conv => whnf
    repeat (first | (refine ⟨(by kernel_rfl : chkR _ _ _ _ = true), ?_⟩; conv => whnf) | (refine EvOr.go ?_; conv => whnf))
    intro c hc
    obtain rfl : c = true := by rw [hc]; exact decide_eq_true rfl
    conv => whnf
    repeat (first | (refine ⟨(by kernel_rfl : chkR _ _ _ _ = true), ?_⟩; conv => whnf) | (refine EvOr.go ?_; conv => whnf))
    intro c hc
    obtain rfl : c = true := by rw [hc]; rfl
    conv => whnf
    repeat (first | (refine ⟨(by kernel_rfl : chkR _ _ _ _ = true), ?_⟩; conv => whnf) | (refine EvOr.go ?_; conv => whnf))
    refine retQ.of (.inr rfl) (ResT.one rfl) (sL [0, 1, 2, 3, 4, 5, 6, 7, 8, 9, 10, 14, 15, 12, 4]) rfl (StW.ofP2 [0, 1, 2, 3, 4, 5, 6, 7, 8, 9, 10, 14, 15, 12, 4] rfl ?_ rfl rfl ?_)
    · unfold wfH
      simp only [List.all_cons, List.all_nil, hw1, Bool.and_true]
      rfl
    · show pickH _ _ 0 _ = renH _ _
      simp only [renH, ABlk.ren, List.map_append, eM, doM, mB0, vB1, refS, rowN, imB, logB]
      rfl
end Go.Proofs.Ytdmcbfmpnakdfaa.Eng.Rm
