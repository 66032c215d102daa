/- MemberFails, walked from its end. -/
import Derived.Test.YtdmcbfmpnakdfaaMr
namespace Go.Proofs.Ytdmcbfmpnakdfaa.Eng
open Go Go.Proofs
set_option maxRecDepth 20000
set_option maxHeartbeats 4000000
theorem io_six {M : Mem} (hn : M.n = 6) (hf : M.fails = false) {k : Nat} (hk : k < 6) : ioE M (k : Nat) = 0 := by
  unfold ioE; rw [if_neg (by omega), hf]; rfl
theorem may_six {M : Mem} (hn : M.n = 6) {k : Nat} (hk : k < 6) : mayE M (k : Nat) = 0 := by
  unfold mayE; rw [if_neg (by omega)]
abbrev faiH (M W : Mem) (lg lw : Lg) : LHp :=
  [some (memG M lg .nil 4 5 6 7), imB M.seen, imB M.dur, logB M lg, none, some (memG W lw .nil 9 10 11 12), imB W.seen, imB W.dur, logB W lw, none]
def faiI3 (M W : Mem) (lg lw : Lg) (k : Nat) : LTm × LHp :=
  ([.junk, .junk, .junk, .junk, .junk, .sc (.ptr 3 0 7 0), .junk, .junk, .sc (.ptr 8 0 7 0), .junk, .junk, .junk, iv (k : Nat), .junk, .junk, .junk, .junk, .junk, .junk, .junk, .junk, .junk, .junk, .junk, .junk, .junk, .junk, .junk, .junk, .junk, .junk, .junk, .junk, .junk, .junk, .junk, .junk, .junk, .junk, .junk, .junk, .junk, .junk, .junk, .junk, .junk, .junk, .junk, .junk, .junk, .junk, .junk, .junk, .junk, .junk, .junk, .junk, .junk, .junk, .junk, .junk, .junk, .junk, .junk, .junk, .junk, .junk, .junk, .junk, .junk, .junk, .junk, .junk, .junk, .junk, .junk, .junk, .junk, .junk, .junk, .junk, .junk, .junk, .junk, .junk, .junk, .junk, .junk, .junk, .junk, .junk, .junk, .junk, .junk, .junk, .junk, .junk, .junk, .junk, .junk, .junk, .junk, .junk, .junk, .junk, .junk, .junk, .junk, .junk, .junk, .junk, .junk, .junk, .junk, .junk, .junk, .junk, .junk, .junk, .junk, .junk, .junk, .junk, .junk, .junk, .junk, .junk, .junk, .junk, .junk, .junk, .junk, .junk, .junk, .junk, .junk, .junk, .junk, .junk, .junk, .junk, .junk, .junk, .junk, .junk, .junk, .junk, .junk, .junk], [none, none, none] ++ faiH M W lg lw)
theorem fai3 (M W : Mem) (lg lw : Lg) (hM : M.n = 6) (hlg : lg.ok M.log) (hlw : lw.ok W.log) (hW : W.n = 6 ∧ W.fails = false ∧ W.seen = M.seen ∧ W.dur = M.dur ∧ W.log = M.log) :
    CodeT Try.prog 3 (suf 8 (bodyC Try.f6)) ([.junk, .junk, .junk, .junk, .junk, .sc (.ptr 3 0 7 0), .junk, .junk, .sc (.ptr 8 0 7 0), .junk, .junk, .junk, .junk, .junk, .junk, .junk, .junk, .junk, .junk, .junk, .junk, .junk, .junk, .junk, .junk, .junk, .junk, .junk, .junk, .junk, .junk, .junk, .junk, .junk, .junk, .junk, .junk, .junk, .junk, .junk, .junk, .junk, .junk, .junk, .junk, .junk, .junk, .junk, .junk, .junk, .junk, .junk, .junk, .junk, .junk, .junk, .junk, .junk, .junk, .junk, .junk, .junk, .junk, .junk, .junk, .junk, .junk, .junk, .junk, .junk, .junk, .junk, .junk, .junk, .junk, .junk, .junk, .junk, .junk, .junk, .junk, .junk, .junk, .junk, .junk, .junk, .junk, .junk, .junk, .junk, .junk, .junk, .junk, .junk, .junk, .junk, .junk, .junk, .junk, .junk, .junk, .junk, .junk, .junk, .junk, .junk, .junk, .junk, .junk, .junk, .junk, .junk, .junk, .junk, .junk, .junk, .junk, .junk, .junk, .junk, .junk, .junk, .junk, .junk, .junk, .junk, .junk, .junk, .junk, .junk, .junk, .junk, .junk, .junk, .junk, .junk, .junk, .junk, .junk, .junk, .junk, .junk, .junk, .junk, .junk, .junk, .junk, .junk, .junk]) ([none, none, none] ++ faiH { M with fails := true, hurt := true } W lg lw) (retQ Try.prog Try.f6 3 (bv true) [none, none, none]) := by
  obtain ⟨M2, hM2⟩ : ∃ A : Mem, A = { M with fails := true, hurt := true } := ⟨_, rfl⟩
  obtain ⟨M3, hM3⟩ : ∃ A : Mem, A = { M with fails := false, hurt := true } := ⟨_, rfl⟩
  have gF := fail_ok M2 lg .nil false (by rw [hM2]; show 0 < M.n; omega)
  rw [show ({ M2 with fails := false, hurt := M2.hurt || false } : Mem) = M3 by rw [hM2, hM3]; rfl] at gF
  have gT := touched_ok M3 lg .nil (by rw [hM3]; show 0 < M.n; omega)
  rw [show M3.hurt = true by rw [hM3]] at gT
  have gU := unflushed_ok M3 lg .nil (by rw [hM3]; exact hlg) (by rw [hM3]; show 0 < M.n; omega)
  have gV := unflushed_ok W lw .nil hlw (by omega)
  rw [show M3.log.length = W.log.length by rw [hM3, hW.2.2.2.2]] at gU
  have n3 : M3.n = 6 := by rw [hM3]; exact hM
  have f3 : M3.fails = false := by rw [hM3]
  have gR := fun (k : Nat) (hk : k < 6) => read_ok W lw .nil k (by omega) (io_six hW.1 hW.2.1 hk)
  have gL := fun (k : Nat) (hk : k < 6) => look_ok W lw .nil k (by omega) (may_six hW.1 hk)
  have gL2 := fun (k : Nat) (hk : k < 6) => look_ok M3 lg .nil k (by omega) (may_six n3 hk)
  have gS := fun (k : Nat) (hk : k < 6) => reads_ok M3 lg .nil k (getI W.seen k) (by omega) (io_six n3 f3 hk) true ⟨fun _ => by rw [hM3, hW.2.2.1], fun _ => rfl⟩
  have d3 : M3.dur = W.dur := by rw [hM3, hW.2.2.2.1]
  have s2 : M2.seen = M3.seen ∧ M2.dur = M3.dur ∧ logB M2 lg = logB M3 lg := by rw [hM2, hM3]; exact ⟨rfl, rfl, rfl⟩
  rw [← hM2]
  have gZ := awake_ok
  unfold faiH
  rw [s2.1, s2.2.1, s2.2.2]
  obtain ⟨I, hI⟩ : ∃ I, I = faiI3 M3 W lg lw := ⟨_, rfl⟩
  unfold faiI3 faiH at hI
  clear hM2 hM3 s2
  cases lg <;> cases lw <;>
  · refine evC_sound tabOk mixed _ _ _ _ ?_
    conv => whnf
    repeat (first | (refine ⟨(by kernel_rfl : chkR _ _ _ _ = true), ?_⟩; conv => whnf) | (refine EvOr.go ?_; conv => whnf))
    refine CallG.use gF c37 [3, 4, 5, 6, 7] [0] ?_ ?_ ?_ ?_ ?_ ?_; rfl; rfl; kernel_rfl; rfl; rfl
    conv => whnf
    repeat (first | (refine ⟨(by kernel_rfl : chkR _ _ _ _ = true), ?_⟩; conv => whnf) | (refine EvOr.go ?_; conv => whnf))
    refine CodeT.loopN tabOk mixed I 6 _ (StW.ofP [0, 1, 2, 3, 4, 5, 6, 7, 8, 9, 10, 11, 12] ?_ ?_ ?_) (fun k => by subst hI; rfl) ?_
    · subst hI; kernel_rfl
    · subst hI; rfl
    · subst hI; rfl
    intro k hkl
    subst hI
    conv => whnf
    repeat (first | (refine ⟨(by kernel_rfl : chkR _ _ _ _ = true), ?_⟩; conv => whnf) | (refine EvOr.go ?_; conv => whnf))
    intro c hc
    by_cases hk : k < 6
    · obtain rfl : c = true := by rw [hc]; exact decide_eq_true (by omega)
      conv => whnf
      repeat (first | (refine ⟨(by kernel_rfl : chkR _ _ _ _ = true), ?_⟩; conv => whnf) | (refine EvOr.go ?_; conv => whnf))
      refine CallG.use (gR k hk) c33 [8, 9, 10, 11, 12] [] ?_ ?_ ?_ ?_ ?_ ?_; rfl; rfl; kernel_rfl; rfl; rfl
      conv => whnf
      repeat (first | (refine ⟨(by kernel_rfl : chkR _ _ _ _ = true), ?_⟩; conv => whnf) | (refine EvOr.go ?_; conv => whnf))
      refine CallG.use (gL k hk) c39 [8, 9, 10, 11, 12] [] ?_ ?_ ?_ ?_ ?_ ?_; rfl; rfl; kernel_rfl; rfl; rfl
      conv => whnf
      repeat (first | (refine ⟨(by kernel_rfl : chkR _ _ _ _ = true), ?_⟩; conv => whnf) | (refine EvOr.go ?_; conv => whnf))
      refine CallG.use (gL2 k hk) c39 [3, 4, 5, 6, 7] [] ?_ ?_ ?_ ?_ ?_ ?_; rfl; rfl; kernel_rfl; rfl; rfl
      conv => whnf
      repeat (first | (refine ⟨(by kernel_rfl : chkR _ _ _ _ = true), ?_⟩; conv => whnf) | (refine EvOr.go ?_; conv => whnf))
      refine CallG.use (gS k hk) c34 [3, 4, 5, 6, 7] [] ?_ ?_ ?_ ?_ ?_ ?_; rfl; rfl; kernel_rfl; rfl; rfl
      conv => whnf
      repeat (first | (refine ⟨(by kernel_rfl : chkR _ _ _ _ = true), ?_⟩; conv => whnf) | (refine EvOr.go ?_; conv => whnf))
      refine ⟨rfl, ?_⟩
      refine ⟨eq34, ?_⟩
      conv => whnf
      repeat (first | (refine ⟨(by kernel_rfl : chkR _ _ _ _ = true), ?_⟩; conv => whnf) | (refine EvOr.go ?_; conv => whnf))
      intro c hc
      obtain rfl : c = false := by
        rw [d3] at hc
        cases c
        · rfl
        · exact absurd rfl (hc.1 rfl)
      conv => whnf
      repeat (first | (refine ⟨(by kernel_rfl : chkR _ _ _ _ = true), ?_⟩; conv => whnf) | (refine EvOr.go ?_; conv => whnf))
      refine ⟨_, inc_nat (by omega), ?_⟩
      conv => whnf
      repeat (first | (refine ⟨(by kernel_rfl : chkR _ _ _ _ = true), ?_⟩; conv => whnf) | (refine EvOr.go ?_; conv => whnf))
      refine ⟨by first | exact hk | omega, _, StW.ofP [] ?_ ?_ ?_⟩
      · kernel_rfl
      · rfl
      · rfl
    · obtain rfl : c = false := by rw [hc]; exact decide_eq_false (by omega)
      conv => whnf
      repeat (first | (refine ⟨(by kernel_rfl : chkR _ _ _ _ = true), ?_⟩; conv => whnf) | (refine EvOr.go ?_; conv => whnf))
      refine CallG.use gT c35 [3, 4, 5, 6, 7] [] ?_ ?_ ?_ ?_ ?_ ?_; rfl; rfl; kernel_rfl; rfl; rfl
      conv => whnf
      repeat (first | (refine ⟨(by kernel_rfl : chkR _ _ _ _ = true), ?_⟩; conv => whnf) | (refine EvOr.go ?_; conv => whnf))
      refine CallG.use gU c30 [3, 4, 5, 6, 7] [] ?_ ?_ ?_ ?_ ?_ ?_; rfl; rfl; kernel_rfl; rfl; rfl
      conv => whnf
      repeat (first | (refine ⟨(by kernel_rfl : chkR _ _ _ _ = true), ?_⟩; conv => whnf) | (refine EvOr.go ?_; conv => whnf))
      refine CallG.use gV c30 [8, 9, 10, 11, 12] [] ?_ ?_ ?_ ?_ ?_ ?_; rfl; rfl; kernel_rfl; rfl; rfl
      conv => whnf
      repeat (first | (refine ⟨(by kernel_rfl : chkR _ _ _ _ = true), ?_⟩; conv => whnf) | (refine EvOr.go ?_; conv => whnf))
      intro c hc
      obtain rfl : c = true := by rw [hc]; simp
      conv => whnf
      repeat (first | (refine ⟨(by kernel_rfl : chkR _ _ _ _ = true), ?_⟩; conv => whnf) | (refine EvOr.go ?_; conv => whnf))
      refine CallG.use gZ c26 [] [] ?_ ?_ ?_ ?_ ?_ ?_; rfl; rfl; kernel_rfl; rfl; rfl
      conv => whnf
      repeat (first | (refine ⟨(by kernel_rfl : chkR _ _ _ _ = true), ?_⟩; conv => whnf) | (refine EvOr.go ?_; conv => whnf))
      exact retQ.one rfl (.inr rfl) rfl (Nat.le_of_ble_eq_true rfl) rfl
theorem act_get0 {l : List ActV} {k : Nat} (hk : k < l.length) : (l.map actSegs)[0 + (k : Int).toNat]? = some (actSegs l[k]) := act_get hk
def faiI2 (b : Ar) (bl : List ActV) (M W : Mem) (lg lw : Lg) (k : Nat) : LTm × LHp :=
  ([.junk, .sc (b.sv bl.length 1), .junk, .junk, .junk, .sc (.ptr 3 0 7 0), .junk, .junk, .sc (.ptr 8 0 7 0), iv (k : Nat), .junk, .junk, .junk, .junk, .junk, .junk, .junk, .junk, .junk, .junk, .junk, .junk, .junk, .junk, .junk, .junk, .junk, .junk, .junk, .junk, .junk, .junk, .junk, .junk, .junk, .junk, .junk, .junk, .junk, .junk, .junk, .junk, .junk, .junk, .junk, .junk, .junk, .junk, .junk, .junk, .junk, .junk, .junk, .junk, .junk, .junk, .junk, .junk, .junk, .junk, .junk, .junk, .junk, .junk, .junk, .junk, .junk, .junk, .junk, .junk, .junk, .junk, .junk, .junk, .junk, .junk, .junk, .junk, .junk, .junk, .junk, .junk, .junk, .junk, .junk, .junk, .junk, .junk, .junk, .junk, .junk, .junk, .junk, .junk, .junk, .junk, .junk, .junk, .junk, .junk, .junk, .junk, .junk, .junk, .junk, .junk, .junk, .junk, .junk, .junk, .junk, .junk, .junk, .junk, .junk, .junk, .junk, .junk, .junk, .junk, .junk, .junk, .junk, .junk, .junk, .junk, .junk, .junk, .junk, .junk, .junk, .junk, .junk, .junk, .junk, .junk, .junk, .junk, .junk, .junk, .junk, .junk, .junk, .junk, .junk, .junk, .junk, .junk, .junk], [none, arB b bl, none] ++ faiH M W lg lw)
theorem fai2 (b : Ar) (bl : List ActV) (M W : Mem) (lg lw : Lg) (hb : b.ok bl) (hbl : bl.length ≤ 30) (hM : M.n = 6) (hlg : lg.ok M.log) (hlw : lw.ok W.log) (hW : W.n = 6 ∧ W.fails = false ∧ W.seen = M.seen ∧ W.dur = M.dur ∧ W.log = M.log) :
    CodeT Try.prog 3 (suf 7 (bodyC Try.f6)) ([.junk, .sc (b.sv bl.length 1), .junk, .junk, .junk, .sc (.ptr 3 0 7 0), .junk, .junk, .sc (.ptr 8 0 7 0), .junk, .junk, .junk, .junk, .junk, .junk, .junk, .junk, .junk, .junk, .junk, .junk, .junk, .junk, .junk, .junk, .junk, .junk, .junk, .junk, .junk, .junk, .junk, .junk, .junk, .junk, .junk, .junk, .junk, .junk, .junk, .junk, .junk, .junk, .junk, .junk, .junk, .junk, .junk, .junk, .junk, .junk, .junk, .junk, .junk, .junk, .junk, .junk, .junk, .junk, .junk, .junk, .junk, .junk, .junk, .junk, .junk, .junk, .junk, .junk, .junk, .junk, .junk, .junk, .junk, .junk, .junk, .junk, .junk, .junk, .junk, .junk, .junk, .junk, .junk, .junk, .junk, .junk, .junk, .junk, .junk, .junk, .junk, .junk, .junk, .junk, .junk, .junk, .junk, .junk, .junk, .junk, .junk, .junk, .junk, .junk, .junk, .junk, .junk, .junk, .junk, .junk, .junk, .junk, .junk, .junk, .junk, .junk, .junk, .junk, .junk, .junk, .junk, .junk, .junk, .junk, .junk, .junk, .junk, .junk, .junk, .junk, .junk, .junk, .junk, .junk, .junk, .junk, .junk, .junk, .junk, .junk, .junk, .junk, .junk, .junk, .junk, .junk, .junk, .junk]) ([none, arB b bl, none] ++ faiH { M with fails := true, hurt := true } W lg lw) (retQ Try.prog Try.f6 3 (bv true) [none, none, none]) := by
  have gS := fai3 M W lg lw hM hlg hlw hW
  obtain ⟨M2, hM2⟩ : ∃ A : Mem, A = { M with fails := true, hurt := true } := ⟨_, rfl⟩
  rw [← hM2] at gS
  rw [← hM2]
  have n2 : M2.n = 6 := by rw [hM2]; exact hM
  have f2 : M2.fails = true := by rw [hM2]
  have i2 : ∀ i : Int, 0 ≤ i → i < 6 → ioE M2 i = 10 := fun i h1 h2 => by unfold ioE; rw [if_neg (by omega), f2]; rfl
  have gR := read_err M2 lg .nil 0 (by omega) (by rw [i2 0 (by decide) (by decide)]; decide)
  rw [i2 0 (by decide) (by decide)] at gR
  have gW := fun (i : Int) (s : List Nat) (h1 : 0 ≤ i) (h2 : i < 6) => write_err M2 lg .nil i s (by omega) (by rw [i2 i h1 h2]; decide)
  have gW' : ∀ (i : Int) (s : List Nat), 0 ≤ i → i < 6 → FunT Try.prog 38 [mpv, iv i, secV s] (Eng.hM M2 lg .nil) (iv 10) (Eng.hM M2 lg .nil) := fun i s h1 h2 => by
    have := gW i s h1 h2
    rw [i2 i h1 h2] at this; exact this
  have gF := flush_err M2 lg .nil (by omega) f2
  clear hM2 gW
  by_cases hbn : b = .nil
  · subst hbn
    obtain rfl : bl = [] := hb
    cases lg <;> cases lw <;>
    · refine evC_sound tabOk mixed _ _ _ _ ?_
      conv => whnf
      repeat (first | (refine ⟨(by kernel_rfl : chkR _ _ _ _ = true), ?_⟩; conv => whnf) | (refine EvOr.go ?_; conv => whnf))
      refine CodeS.loop0 tabOk mixed (Nat.le_of_ble_eq_true rfl) ?_
      conv => whnf
      repeat (first | (refine ⟨(by kernel_rfl : chkR _ _ _ _ = true), ?_⟩; conv => whnf) | (refine EvOr.go ?_; conv => whnf))
      intro c hc
      obtain rfl : c = false := by rw [hc]; rfl
      conv => whnf
      refine ⟨(by kernel_rfl : chkR _ _ _ _ = true), ?_⟩
      conv => whnf
      refine EvOr.go ?_
      conv => whnf
      refine EvOr.cut (CodeT.weaken _ (StW.ofP [0, 1, 2, 3, 4, 5, 6, 7, 8, 9, 10, 11, 12] ?_ ?_ ?_) (gS))
      · kernel_rfl
      · rfl
      · rfl
  obtain rfl : b = .row := by
    cases b
    · exact absurd rfl hbn
    · rfl
  obtain ⟨I, hI⟩ : ∃ I, I = faiI2 .row bl M2 W lg lw := ⟨_, rfl⟩
  cases lg <;> cases lw <;>
  · refine evC_sound tabOk mixed _ _ _ _ ?_
    conv => whnf
    repeat (first | (refine ⟨(by kernel_rfl : chkR _ _ _ _ = true), ?_⟩; conv => whnf) | (refine EvOr.go ?_; conv => whnf))
    refine CodeT.loopN tabOk mixed I bl.length _ (StW.ofP [0, 1, 2, 3, 4, 5, 6, 7, 8, 9, 10, 11, 12] ?_ ?_ ?_) (fun k => by subst hI; rfl) ?_
    · subst hI; kernel_rfl
    · subst hI; rfl
    · subst hI; rfl
    intro k hkl
    subst hI
    conv => whnf
    repeat (first | (refine ⟨(by kernel_rfl : chkR _ _ _ _ = true), ?_⟩; conv => whnf) | (refine EvOr.go ?_; conv => whnf))
    intro c hc
    by_cases hk : k < bl.length
    · obtain rfl : c = true := by rw [hc]; exact decide_eq_true (by omega)
      conv => whnf
      repeat (first | (refine ⟨(by kernel_rfl : chkR _ _ _ _ = true), ?_⟩; conv => whnf) | (refine EvOr.go ?_; conv => whnf))
      refine CallG.use gR c33 [3, 4, 5, 6, 7] [] ?_ ?_ ?_ ?_ ?_ ?_; rfl; rfl; kernel_rfl; rfl; rfl
      conv => whnf
      repeat (first | (refine ⟨(by kernel_rfl : chkR _ _ _ _ = true), ?_⟩; conv => whnf) | (refine EvOr.go ?_; conv => whnf))
      intro c hc
      obtain rfl : c = false := by rw [hc]; rfl
      conv => whnf
      repeat (first | (refine ⟨(by kernel_rfl : chkR _ _ _ _ = true), ?_⟩; conv => whnf) | (refine EvOr.go ?_; conv => whnf))
      refine ⟨⟨by omega, by omega⟩, ?_⟩
      conv => whnf
      repeat (first | (refine ⟨(by kernel_rfl : chkR _ _ _ _ = true), ?_⟩; conv => whnf) | (refine EvOr.go ?_; conv => whnf))
      refine ⟨_, act_get hk, ?_⟩
      conv => whnf
      repeat (first | (refine ⟨(by kernel_rfl : chkR _ _ _ _ = true), ?_⟩; conv => whnf) | (refine EvOr.go ?_; conv => whnf))
      intro c hc
      cases c
      · conv => whnf
        repeat (first | (refine ⟨(by kernel_rfl : chkR _ _ _ _ = true), ?_⟩; conv => whnf) | (refine EvOr.go ?_; conv => whnf))
        refine CallG.use gF c29 [3, 4, 5, 6, 7] [] ?_ ?_ ?_ ?_ ?_ ?_; rfl; rfl; kernel_rfl; rfl; rfl
        conv => whnf
        repeat (first | (refine ⟨(by kernel_rfl : chkR _ _ _ _ = true), ?_⟩; conv => whnf) | (refine EvOr.go ?_; conv => whnf))
        intro c hc
        obtain rfl : c = false := by rw [hc]; rfl
        conv => whnf
        repeat (first | (refine ⟨(by kernel_rfl : chkR _ _ _ _ = true), ?_⟩; conv => whnf) | (refine EvOr.go ?_; conv => whnf))
        refine ⟨_, inc_nat (by omega), ?_⟩
        conv => whnf
        repeat (first | (refine ⟨(by kernel_rfl : chkR _ _ _ _ = true), ?_⟩; conv => whnf) | (refine EvOr.go ?_; conv => whnf))
        refine ⟨by first | exact hk | omega, _, StW.ofP [] ?_ ?_ ?_⟩
        · kernel_rfl
        · rfl
        · rfl
      · have h1 : 0 ≤ bl[k].i := by simpa using hc
        conv => whnf
        repeat (first | (refine ⟨(by kernel_rfl : chkR _ _ _ _ = true), ?_⟩; conv => whnf) | (refine EvOr.go ?_; conv => whnf))
        refine ⟨⟨by omega, by omega⟩, ?_⟩
        conv => whnf
        repeat (first | (refine ⟨(by kernel_rfl : chkR _ _ _ _ = true), ?_⟩; conv => whnf) | (refine EvOr.go ?_; conv => whnf))
        refine ⟨_, act_get hk, ?_⟩
        conv => whnf
        repeat (first | (refine ⟨(by kernel_rfl : chkR _ _ _ _ = true), ?_⟩; conv => whnf) | (refine EvOr.go ?_; conv => whnf))
        intro c hc
        cases c
        · conv => whnf
          repeat (first | (refine ⟨(by kernel_rfl : chkR _ _ _ _ = true), ?_⟩; conv => whnf) | (refine EvOr.go ?_; conv => whnf))
          refine CallG.use gF c29 [3, 4, 5, 6, 7] [] ?_ ?_ ?_ ?_ ?_ ?_; rfl; rfl; kernel_rfl; rfl; rfl
          conv => whnf
          repeat (first | (refine ⟨(by kernel_rfl : chkR _ _ _ _ = true), ?_⟩; conv => whnf) | (refine EvOr.go ?_; conv => whnf))
          intro c hc
          obtain rfl : c = false := by rw [hc]; rfl
          conv => whnf
          repeat (first | (refine ⟨(by kernel_rfl : chkR _ _ _ _ = true), ?_⟩; conv => whnf) | (refine EvOr.go ?_; conv => whnf))
          refine ⟨_, inc_nat (by omega), ?_⟩
          conv => whnf
          repeat (first | (refine ⟨(by kernel_rfl : chkR _ _ _ _ = true), ?_⟩; conv => whnf) | (refine EvOr.go ?_; conv => whnf))
          refine ⟨by first | exact hk | omega, _, StW.ofP [] ?_ ?_ ?_⟩
          · kernel_rfl
          · rfl
          · rfl
        · have h2 : bl[k].i < 6 := by simpa using hc
          conv => whnf
          repeat (first | (refine ⟨(by kernel_rfl : chkR _ _ _ _ = true), ?_⟩; conv => whnf) | (refine EvOr.go ?_; conv => whnf))
          refine ⟨⟨by omega, by omega⟩, ?_⟩
          conv => whnf
          repeat (first | (refine ⟨(by kernel_rfl : chkR _ _ _ _ = true), ?_⟩; conv => whnf) | (refine EvOr.go ?_; conv => whnf))
          refine ⟨_, act_get hk, ?_⟩
          conv => whnf
          repeat (first | (refine ⟨(by kernel_rfl : chkR _ _ _ _ = true), ?_⟩; conv => whnf) | (refine EvOr.go ?_; conv => whnf))
          refine ⟨⟨by omega, by omega⟩, ?_⟩
          conv => whnf
          repeat (first | (refine ⟨(by kernel_rfl : chkR _ _ _ _ = true), ?_⟩; conv => whnf) | (refine EvOr.go ?_; conv => whnf))
          refine ⟨_, act_get hk, ?_⟩
          conv => whnf
          repeat (first | (refine ⟨(by kernel_rfl : chkR _ _ _ _ = true), ?_⟩; conv => whnf) | (refine EvOr.go ?_; conv => whnf))
          refine CallG.use (gW' bl[k].i bl[k].s h1 h2) c38 [3, 4, 5, 6, 7] [] ?_ ?_ ?_ ?_ ?_ ?_; rfl; rfl; kernel_rfl; rfl; rfl
          conv => whnf
          repeat (first | (refine ⟨(by kernel_rfl : chkR _ _ _ _ = true), ?_⟩; conv => whnf) | (refine EvOr.go ?_; conv => whnf))
          intro c hc
          obtain rfl : c = false := by rw [hc]; rfl
          conv => whnf
          repeat (first | (refine ⟨(by kernel_rfl : chkR _ _ _ _ = true), ?_⟩; conv => whnf) | (refine EvOr.go ?_; conv => whnf))
          refine CallG.use gF c29 [3, 4, 5, 6, 7] [] ?_ ?_ ?_ ?_ ?_ ?_; rfl; rfl; kernel_rfl; rfl; rfl
          conv => whnf
          repeat (first | (refine ⟨(by kernel_rfl : chkR _ _ _ _ = true), ?_⟩; conv => whnf) | (refine EvOr.go ?_; conv => whnf))
          intro c hc
          obtain rfl : c = false := by rw [hc]; rfl
          conv => whnf
          repeat (first | (refine ⟨(by kernel_rfl : chkR _ _ _ _ = true), ?_⟩; conv => whnf) | (refine EvOr.go ?_; conv => whnf))
          refine ⟨_, inc_nat (by omega), ?_⟩
          conv => whnf
          repeat (first | (refine ⟨(by kernel_rfl : chkR _ _ _ _ = true), ?_⟩; conv => whnf) | (refine EvOr.go ?_; conv => whnf))
          refine ⟨by first | exact hk | omega, _, StW.ofP [] ?_ ?_ ?_⟩
          · kernel_rfl
          · rfl
          · rfl
    · obtain rfl : c = false := by rw [hc]; exact decide_eq_false (by omega)
      conv => whnf
      refine ⟨(by kernel_rfl : chkR _ _ _ _ = true), ?_⟩
      conv => whnf
      refine EvOr.go ?_
      conv => whnf
      refine EvOr.cut (CodeT.weaken _ (StW.ofP [0, 1, 2, 3, 4, 5, 6, 7, 8, 9, 10, 11, 12] ?_ ?_ ?_) (gS))
      · kernel_rfl
      · rfl
      · rfl
end Go.Proofs.Ytdmcbfmpnakdfaa.Eng
