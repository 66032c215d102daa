/- The laws of members: awake; put. -/
import Derived.Test.YtdmcbfmpnakdfaaMg
namespace Go.Proofs.Ytdmcbfmpnakdfaa.Eng
open Go Go.Proofs
set_option maxRecDepth 20000
set_option maxHeartbeats 4000000
/-- What is written, settled: with the member's own names. -/
theorem write_to (M M' : Mem) (lg : Lg) (mk : Mk) (i : Int) (s : List Nat) (hM : M' = wrote M i s) (hlg : lg.ok M.log) (hn : 0 < M.n) (h0 : ioE M i = 0) (hb : M.log.length < 2 ^ 32) :
    FunT Try.prog 38 [mpv, iv i, secV s] (hMw M lg mk) (iv 0) [some (memG M' (.inx []) mk 1 2 5 4), imB M'.seen, none, none, none, logB M' (.inx [])] := by
  subst hM; exact write_ok M lg mk i s hlg hn h0 hb
theorem crashN_to (M M' : Mem) (lg : Lg) (mk : Mk) (hM : M' = crashed M noPick) (hlg : lg.ok M.log) (hn : 0 < M.n) (hb : M.log.length < 2 ^ 62) :
    FunT Try.prog 32 [mpv, .sc nilS] (hM4 M lg mk) (iv 0) [some (memG M' .nil mk 5 2 3 4), none, imB M'.dur, none, none, imB M'.seen] := by
  subst hM; exact crashN_ok M lg mk none 0 hlg hn hb
theorem awake_ok : FunT Try.prog 26 [] [] (bv true) [] := by
  have h1 := new_ok 4 (by decide) (by decide)
  have h2 := full_ok 1
  have g2 : ∃ s, s = List.replicate 64 1 := ⟨_, rfl⟩
  obtain ⟨s, hs⟩ := g2
  rw [← hs] at h2
  have g1 : ∃ M, M = wrote (newM 4) 1 s := ⟨_, rfl⟩
  obtain ⟨M1, hM1⟩ := g1
  have g3 : ∃ M, M = crashed M1 noPick := ⟨_, rfl⟩
  obtain ⟨M2, hM2⟩ := g3
  have n1 : 0 < M1.n := by rw [hM1]; show (0 : Int) < 4; decide
  have n2 : 0 < M2.n := by rw [hM2]; exact n1
  have ed : M1.dur = [] := by rw [hM1]
  have e1 : M1.log.length = 1 := by rw [hM1]; rfl
  have e2 : getI M1.dur 1 = zs 64 := by rw [hM1]; rfl
  have e3 : bysN 64 (getI M1.seen 1) = bysN 64 s := by rw [hM1, hs]; rfl
  have e4 : getI M2.seen 1 = zs 64 := by rw [hM2, hM1, hs]; rfl
  have i1 : ioE M1 1 = 0 := by rw [hM1]; rfl
  have i2 : ioE M2 1 = 0 := by rw [hM2, hM1]; rfl
  have j1 : mayE M1 1 = 0 := by rw [hM1]; rfl
  have h3 := write_to (newM 4) M1 .nil .nil 1 s hM1 rfl (by decide) (by decide) (by decide)
  have h4 := look_ok M1 (.inx []) .nil 1 n1 j1
  have h5 := reads_ok M1 (.inx []) .nil 1 s n1 i1 true ⟨fun _ => e3, fun _ => rfl⟩
  have h6 := unflushed_ok M1 (.inx []) .nil trivial n1
  have h7 := crashN_to M1 M2 (.inx []) .nil hM2 trivial n1 (by omega)
  have h8 := reads_ok M2 .nil .nil 1 (zs 64) n2 i2 true ⟨fun _ => by rw [e4], fun _ => rfl⟩
  rw [e1] at h6
  rw [e2] at h4
  clear i1 i2 j1 e3 e4 hM1 hM2 e2 e1 hs
  obtain ⟨an, asn, ad, al, af, ah⟩ := M1
  have ed : ad = [] := ed
  subst ed
  refine FunT.ev tabOk mixed Try.func26 rfl ?_
  conv => whnf
  repeat (first | (refine ⟨(by kernel_rfl : chkR _ _ _ _ = true), ?_⟩; conv => whnf) | (refine EvOr.go ?_; conv => whnf))
  refine CallG.use h1 c27 [] [] ?_ ?_ ?_ ?_ ?_ ?_; rfl; rfl; kernel_rfl; rfl; rfl
  conv => whnf
  repeat (first | (refine ⟨(by kernel_rfl : chkR _ _ _ _ = true), ?_⟩; conv => whnf) | (refine EvOr.go ?_; conv => whnf))
  intro c hc
  obtain rfl : c = false := by rw [hc]; rfl
  conv => whnf
  repeat (first | (refine ⟨(by kernel_rfl : chkR _ _ _ _ = true), ?_⟩; conv => whnf) | (refine EvOr.go ?_; conv => whnf))
  refine CallG.use h2 c46 [] [] ?_ ?_ ?_ ?_ ?_ ?_; rfl; rfl; kernel_rfl; rfl; rfl
  conv => whnf
  repeat (first | (refine ⟨(by kernel_rfl : chkR _ _ _ _ = true), ?_⟩; conv => whnf) | (refine EvOr.go ?_; conv => whnf))
  refine CallG.use h3 c38 [0, 1, 2, 3, 4] [0, 1, 3] ?_ ?_ ?_ ?_ ?_ ?_; rfl; rfl; kernel_rfl; rfl; rfl
  conv => whnf
  repeat (first | (refine ⟨(by kernel_rfl : chkR _ _ _ _ = true), ?_⟩; conv => whnf) | (refine EvOr.go ?_; conv => whnf))
  refine CallG.use h4 c39 [0, 1, 2, 5, 4] [] ?_ ?_ ?_ ?_ ?_ ?_; rfl; rfl; kernel_rfl; rfl; rfl
  conv => whnf
  repeat (first | (refine ⟨(by kernel_rfl : chkR _ _ _ _ = true), ?_⟩; conv => whnf) | (refine EvOr.go ?_; conv => whnf))
  intro c hc
  obtain rfl : c = true := by rw [hc]; rfl
  conv => whnf
  repeat (first | (refine ⟨(by kernel_rfl : chkR _ _ _ _ = true), ?_⟩; conv => whnf) | (refine EvOr.go ?_; conv => whnf))
  intro c hc
  obtain rfl : c = true := by rw [hc]; rfl
  conv => whnf
  repeat (first | (refine ⟨(by kernel_rfl : chkR _ _ _ _ = true), ?_⟩; conv => whnf) | (refine EvOr.go ?_; conv => whnf))
  refine CallG.use h2 c46 [] [] ?_ ?_ ?_ ?_ ?_ ?_; rfl; rfl; kernel_rfl; rfl; rfl
  conv => whnf
  repeat (first | (refine ⟨(by kernel_rfl : chkR _ _ _ _ = true), ?_⟩; conv => whnf) | (refine EvOr.go ?_; conv => whnf))
  refine CallG.use h5 c34 [0, 1, 2, 5, 4] [] ?_ ?_ ?_ ?_ ?_ ?_; rfl; rfl; kernel_rfl; rfl; rfl
  conv => whnf
  repeat (first | (refine ⟨(by kernel_rfl : chkR _ _ _ _ = true), ?_⟩; conv => whnf) | (refine EvOr.go ?_; conv => whnf))
  refine ⟨rfl, ?_⟩
  refine ⟨eq34, ?_⟩
  conv => whnf
  repeat (first | (refine ⟨(by kernel_rfl : chkR _ _ _ _ = true), ?_⟩; conv => whnf) | (refine EvOr.go ?_; conv => whnf))
  intro c hc
  obtain rfl : c = true := hc.2 rfl
  conv => whnf
  repeat (first | (refine ⟨(by kernel_rfl : chkR _ _ _ _ = true), ?_⟩; conv => whnf) | (refine EvOr.go ?_; conv => whnf))
  refine CallG.use h6 c30 [0, 1, 2, 5, 4] [] ?_ ?_ ?_ ?_ ?_ ?_; rfl; rfl; kernel_rfl; rfl; rfl
  conv => whnf
  repeat (first | (refine ⟨(by kernel_rfl : chkR _ _ _ _ = true), ?_⟩; conv => whnf) | (refine EvOr.go ?_; conv => whnf))
  intro c hc
  obtain rfl : c = true := by rw [hc]; rfl
  conv => whnf
  repeat (first | (refine ⟨(by kernel_rfl : chkR _ _ _ _ = true), ?_⟩; conv => whnf) | (refine EvOr.go ?_; conv => whnf))
  refine CallG.use h7 c32 [0, 1, 2, 5, 4] [0, 1, 2, 3] ?_ ?_ ?_ ?_ ?_ ?_; rfl; rfl; kernel_rfl; rfl; rfl
  conv => whnf
  repeat (first | (refine ⟨(by kernel_rfl : chkR _ _ _ _ = true), ?_⟩; conv => whnf) | (refine EvOr.go ?_; conv => whnf))
  intro c hc
  obtain rfl : c = true := by rw [hc]; rfl
  conv => whnf
  repeat (first | (refine ⟨(by kernel_rfl : chkR _ _ _ _ = true), ?_⟩; conv => whnf) | (refine EvOr.go ?_; conv => whnf))
  refine CallG.use h8 c34 [0, 7, 2, 5, 4] [] ?_ ?_ ?_ ?_ ?_ ?_; rfl; rfl; kernel_rfl; rfl; rfl
  conv => whnf
  repeat (first | (refine ⟨(by kernel_rfl : chkR _ _ _ _ = true), ?_⟩; conv => whnf) | (refine EvOr.go ?_; conv => whnf))
  exact retQ.one rfl (.inr rfl) rfl (Nat.le_of_ble_eq_true rfl) rfl
end Go.Proofs.Ytdmcbfmpnakdfaa.Eng
