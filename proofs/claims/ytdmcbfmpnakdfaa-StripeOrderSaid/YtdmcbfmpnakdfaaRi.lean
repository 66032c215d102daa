/- The laws' helpers: filled, works, a right row. -/
import Derived.Test.YtdmcbfmpnakdfaaRh
import Derived.Test.YtdmcbfmpnakdfaaQk
namespace Go.Proofs.Ytdmcbfmpnakdfaa.Eng.St
open Go Go.RowKit Go.Shelf Go.Proofs Go.Proofs.Ytdmcbfmpnakdfaa.Gf Go.Proofs.Ytdmcbfmpnakdfaa.Rf
set_option maxRecDepth 20000
set_option maxHeartbeats 4000000
theorem c51 : Callable Try.prog 51 := ⟨⟨_, Try.func51, by kernel_rfl, by kernel_rfl⟩⟩
theorem fill_ok (c : Nat) (hc : c < 256) : FunT Try.prog 53 [ub c] [] (secV (rep c)) [] := by
  obtain ⟨I, hI⟩ : ∃ I, I = filI c := ⟨_, rfl⟩
  have sr := rep_sec hc
  refine FunT.ev tabOk mixed Try.func53 rfl ?_
  conv => whnf
  repeat (first | (refine ⟨(by kernel_rfl : chkR _ _ _ _ = true), ?_⟩; conv => whnf) | (refine EvOr.go ?_; conv => whnf))
  refine CodeT.loopN tabOk mixed I 64 _ (StW.ofP [0, 1] ?_ ?_ ?_) (fun k => by subst hI; rfl) ?_
  · subst hI; kernel_rfl
  · subst hI; rfl
  · subst hI; rfl
  intro k hkl
  subst hI
  have hl := mix_length (r := rep c) (a := zeros) (k := k) sr.len zeros_sec.len hkl
  show evC Try.prog tab _ _ (filI c k).1 [secB (zs 64), secB (mix (rep c) zeros k)] _
  by_cases hk : k < 64
  · have hs := mix_set (r := rep c) (a := zeros) sr.len zeros_sec.len hk
    have e : (rep c).getD k 0 = c := by
      unfold rep
      rw [List.getD_eq_getElem?_getD, List.getElem?_replicate, if_pos hk]; rfl
    rw [e] at hs
    generalize mix (rep c) zeros k = S at hs hl ⊢
    conv => whnf
    repeat (first | (refine ⟨(by kernel_rfl : chkR _ _ _ _ = true), ?_⟩; conv => whnf) | (refine EvOr.go ?_; conv => whnf))
    intro c hc
    obtain rfl : c = true := by rw [hc]; exact decide_eq_true (by omega)
    conv => whnf
    repeat (first | (refine ⟨(by kernel_rfl : chkR _ _ _ _ = true), ?_⟩; conv => whnf) | (refine EvOr.go ?_; conv => whnf))
    refine ⟨⟨by omega, by show (k : Int) < 64; omega⟩, ?_⟩
    conv => whnf
    repeat (first | (refine ⟨(by kernel_rfl : chkR _ _ _ _ = true), ?_⟩; conv => whnf) | (refine EvOr.go ?_; conv => whnf))
    refine ⟨⟨by show k < 64; omega, by omega, by omega, rfl⟩, ?_⟩
    conv => whnf
    repeat (first | (refine ⟨(by kernel_rfl : chkR _ _ _ _ = true), ?_⟩; conv => whnf) | (refine EvOr.go ?_; conv => whnf))
    refine ⟨_, inc_nat (by omega), ?_⟩
    conv => whnf
    repeat (first | (refine ⟨(by kernel_rfl : chkR _ _ _ _ = true), ?_⟩; conv => whnf) | (refine EvOr.go ?_; conv => whnf))
    refine ⟨by omega, _, StW.ofP [0, 1] ?_ ?_ ?_⟩
    · kernel_rfl
    · rfl
    · simp only [filI, ← hs]; rfl
  · obtain rfl : k = 64 := by omega
    have e := mix_full sr.len zeros_sec.len
    generalize mix (rep c) zeros 64 = S at e ⊢
    subst e
    conv => whnf
    repeat (first | (refine ⟨(by kernel_rfl : chkR _ _ _ _ = true), ?_⟩; conv => whnf) | (refine EvOr.go ?_; conv => whnf))
    intro c hc
    obtain rfl : c = false := by rw [hc]; rfl
    conv => whnf
    repeat (first | (refine ⟨(by kernel_rfl : chkR _ _ _ _ = true), ?_⟩; conv => whnf) | (refine EvOr.go ?_; conv => whnf))
    exact retQ.all tabOk _ [secV (rep c)] rfl (by first | exact .inr rfl | exact .inl rfl) (by repeat' (first | exact trivial | rfl | (intro h; cases h; done) | (refine ⟨?_, ?_⟩))) rfl (by rfl) (Nat.le_of_ble_eq_true rfl) (by rfl)
theorem works51 : FunT Try.prog 51 [] [] (bv true) [] := by
  have f1 := fill_ok 1 (by decide)
  have f2 := fill_ok 2 (by decide)
  have f3 := fill_ok 3 (by decide)
  have f5 := fill_ok 5 (by decide)
  have n0 := new_ok 4 (by decide) (by decide)
  have p1 := put_in false 4 (List.replicate 4 (zs 64)) (List.replicate 4 0) 1 (rep 2) (by decide) (by decide) rfl rfl (by decide)
  have p2 := put_in false 4 ((List.replicate 4 (zs 64)).set 1 (rep 2)) [0, 1, 0, 0] 2 (rep 3) (by decide) (by decide) rfl rfl (by decide)
  have p3 := put_in false 4 (((List.replicate 4 (zs 64)).set 1 (rep 2)).set 2 (rep 3)) [0, 1, 1, 0] 3 (rep 5) (by decide) (by decide) rfl rfl (by decide)
  have hS : Secs [zs 64, rep 2, rep 3, rep 5] := fun l hl => by
    simp only [List.mem_cons, List.not_mem_nil, or_false] at hl
    rcases hl with rfl | rfl | rfl | rfl
    · exact rep_sec (c := 0) (by decide)
    · exact rep_sec (by decide)
    · exact rep_sec (by decide)
    · exact rep_sec (by decide)
  have hl : lostN 4 [0, 1, 1, 1] = [0] := by decide
  have m := mend_ok false 4 [zs 64, rep 2, rep 3, rep 5] [0, 1, 1, 1] (by decide) (by decide) rfl rfl hS (by rw [hl]; decide)
  have hF : fixR [zs 64, rep 2, rep 3, rep 5] 2 [0] = [rep 1, rep 2, rep 3, rep 5] := by decide +kernel
  rw [hl, hF] at m
  have g := get_in true 4 [rep 1, rep 2, rep 3, rep 5] [1, 1, 1, 1] 0 (by decide) rfl rfl
  have hg : getS [rep 1, rep 2, rep 3, rep 5] [1, 1, 1, 1] 0 = rep 1 := rfl
  have hg2 : getE [1, 1, 1, 1] 0 = 0 := rfl
  rw [hg, hg2] at g
  have m' : FunT Try.prog 55 [rpV] (rw3 false 4 [zs 64, rep 2, rep 3, rep 5] [0, 1, 1, 1]) (.tup [.sc (.sl 4 0 1 1 none), iv 0]) [rowM 4, colB false [zs 64, rep 2, rep 3, rep 5], knB [1, 1, 1, 1], rowX [rep 1, rep 2, rep 3, rep 5], rowI [0]] := m
  have q1 : FunT Try.prog 52 [rpV, iv 1, secV (rep 2)] (rw3 false 4 (List.replicate 4 (zs 64)) (List.replicate 4 0)) (iv 0) (rw3 false 4 [zs 64, rep 2, zs 64, zs 64] [0, 1, 0, 0]) := p1
  have q2 : FunT Try.prog 52 [rpV, iv 2, secV (rep 3)] (rw3 false 4 [zs 64, rep 2, zs 64, zs 64] [0, 1, 0, 0]) (iv 0) (rw3 false 4 [zs 64, rep 2, rep 3, zs 64] [0, 1, 1, 0]) := p2
  have q3 : FunT Try.prog 52 [rpV, iv 3, secV (rep 5)] (rw3 false 4 [zs 64, rep 2, rep 3, zs 64] [0, 1, 1, 0]) (iv 0) (rw3 false 4 [zs 64, rep 2, rep 3, rep 5] [0, 1, 1, 1]) := p3
  clear p1 p2 p3 m
  generalize [rep 1, rep 2, rep 3, rep 5] = R at *
  generalize [zs 64, rep 2, rep 3, rep 5] = L3 at *
  generalize [zs 64, rep 2, rep 3, zs 64] = L2 at *
  generalize [zs 64, rep 2, zs 64, zs 64] = L1 at *
  generalize rep 1 = a1 at *
  generalize rep 2 = a2 at *
  generalize rep 3 = a3 at *
  generalize rep 5 = a5 at *
  refine FunT.ev tabOk mixed Try.func51 rfl ?_
  conv => whnf
  repeat (first | (refine ⟨(by kernel_rfl : chkR _ _ _ _ = true), ?_⟩; conv => whnf) | (refine EvOr.go ?_; conv => whnf))
  refine CallG.use n0 c50 [] [] ?_ ?_ ?_ ?_ ?_ ?_; rfl; rfl; kernel_rfl; rfl; rfl
  conv => whnf
  repeat (first | (refine ⟨(by kernel_rfl : chkR _ _ _ _ = true), ?_⟩; conv => whnf) | (refine EvOr.go ?_; conv => whnf))
  intro c hc
  obtain rfl : c = false := by rw [hc]; rfl
  conv => whnf
  repeat (first | (refine ⟨(by kernel_rfl : chkR _ _ _ _ = true), ?_⟩; conv => whnf) | (refine EvOr.go ?_; conv => whnf))
  refine CallG.use f2 c53 [] [] ?_ ?_ ?_ ?_ ?_ ?_; rfl; rfl; kernel_rfl; rfl; rfl
  conv => whnf
  repeat (first | (refine ⟨(by kernel_rfl : chkR _ _ _ _ = true), ?_⟩; conv => whnf) | (refine EvOr.go ?_; conv => whnf))
  refine CallG.use q1 c52 [0, 1, 2] [1, 2] ?_ ?_ ?_ ?_ ?_ ?_; rfl; rfl; kernel_rfl; rfl; rfl
  conv => whnf
  repeat (first | (refine ⟨(by kernel_rfl : chkR _ _ _ _ = true), ?_⟩; conv => whnf) | (refine EvOr.go ?_; conv => whnf))
  refine CallG.use f3 c53 [] [] ?_ ?_ ?_ ?_ ?_ ?_; rfl; rfl; kernel_rfl; rfl; rfl
  conv => whnf
  repeat (first | (refine ⟨(by kernel_rfl : chkR _ _ _ _ = true), ?_⟩; conv => whnf) | (refine EvOr.go ?_; conv => whnf))
  refine CallG.use q2 c52 [0, 1, 2] [1, 2] ?_ ?_ ?_ ?_ ?_ ?_; rfl; rfl; kernel_rfl; rfl; rfl
  conv => whnf
  repeat (first | (refine ⟨(by kernel_rfl : chkR _ _ _ _ = true), ?_⟩; conv => whnf) | (refine EvOr.go ?_; conv => whnf))
  refine CallG.use f5 c53 [] [] ?_ ?_ ?_ ?_ ?_ ?_; rfl; rfl; kernel_rfl; rfl; rfl
  conv => whnf
  repeat (first | (refine ⟨(by kernel_rfl : chkR _ _ _ _ = true), ?_⟩; conv => whnf) | (refine EvOr.go ?_; conv => whnf))
  refine CallG.use q3 c52 [0, 1, 2] [1, 2] ?_ ?_ ?_ ?_ ?_ ?_; rfl; rfl; kernel_rfl; rfl; rfl
  conv => whnf
  repeat (first | (refine ⟨(by kernel_rfl : chkR _ _ _ _ = true), ?_⟩; conv => whnf) | (refine EvOr.go ?_; conv => whnf))
  refine CallG.use m' c55 [0, 1, 2] [0, 2] ?_ ?_ ?_ ?_ ?_ ?_; rfl; rfl; kernel_rfl; rfl; rfl
  conv => whnf
  repeat (first | (refine ⟨(by kernel_rfl : chkR _ _ _ _ = true), ?_⟩; conv => whnf) | (refine EvOr.go ?_; conv => whnf))
  refine CallG.use g c57 [0, 3, 2] [] ?_ ?_ ?_ ?_ ?_ ?_; rfl; rfl; kernel_rfl; rfl; rfl
  conv => whnf
  repeat (first | (refine ⟨(by kernel_rfl : chkR _ _ _ _ = true), ?_⟩; conv => whnf) | (refine EvOr.go ?_; conv => whnf))
  intro c hc
  obtain rfl : c = true := by rw [hc]; rfl
  conv => whnf
  repeat (first | (refine ⟨(by kernel_rfl : chkR _ _ _ _ = true), ?_⟩; conv => whnf) | (refine EvOr.go ?_; conv => whnf))
  intro c hc
  obtain rfl : c = true := by rw [hc]; rfl
  conv => whnf
  repeat (first | (refine ⟨(by kernel_rfl : chkR _ _ _ _ = true), ?_⟩; conv => whnf) | (refine EvOr.go ?_; conv => whnf))
  refine CallG.use f1 c53 [] [] ?_ ?_ ?_ ?_ ?_ ?_; rfl; rfl; kernel_rfl; rfl; rfl
  conv => whnf
  repeat (first | (refine ⟨(by kernel_rfl : chkR _ _ _ _ = true), ?_⟩; conv => whnf) | (refine EvOr.go ?_; conv => whnf))
  refine ⟨rfl, ?_⟩
  refine ⟨eq34, ?_⟩
  conv => whnf
  repeat (first | (refine ⟨(by kernel_rfl : chkR _ _ _ _ = true), ?_⟩; conv => whnf) | (refine EvOr.go ?_; conv => whnf))
  intro c hc
  obtain rfl : c = true := hc.2 rfl
  conv => whnf
  repeat (first | (refine ⟨(by kernel_rfl : chkR _ _ _ _ = true), ?_⟩; conv => whnf) | (refine EvOr.go ?_; conv => whnf))
  intro c hc
  obtain rfl : c = true := by rw [hc]; rfl
  conv => whnf
  repeat (first | (refine ⟨(by kernel_rfl : chkR _ _ _ _ = true), ?_⟩; conv => whnf) | (refine EvOr.go ?_; conv => whnf))
  refine ⟨⟨by decide, by decide⟩, ?_⟩
  conv => whnf
  repeat (first | (refine ⟨(by kernel_rfl : chkR _ _ _ _ = true), ?_⟩; conv => whnf) | (refine EvOr.go ?_; conv => whnf))
  refine ⟨_, rfl, ?_⟩
  conv => whnf
  repeat (first | (refine ⟨(by kernel_rfl : chkR _ _ _ _ = true), ?_⟩; conv => whnf) | (refine EvOr.go ?_; conv => whnf))
  intro c hc
  obtain rfl : c = true := by rw [hc]; rfl
  conv => whnf
  repeat (first | (refine ⟨(by kernel_rfl : chkR _ _ _ _ = true), ?_⟩; conv => whnf) | (refine EvOr.go ?_; conv => whnf))
  exact retQ.one rfl (.inr rfl) rfl (Nat.le_of_ble_eq_true rfl) rfl
end Go.Proofs.Ytdmcbfmpnakdfaa.Eng.St
