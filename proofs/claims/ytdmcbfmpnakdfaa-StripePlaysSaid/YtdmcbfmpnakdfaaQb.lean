/- Sectors summed, multiplied. -/
import Derived.Test.YtdmcbfmpnakdfaaQa
namespace Go.Proofs.Ytdmcbfmpnakdfaa.Eng
open Go Go.Proofs Go.Proofs.Ytdmcbfmpnakdfaa.Gf
set_option maxRecDepth 20000
set_option maxHeartbeats 4000000
abbrev secB (s : List Nat) : Option ABlk := some (.row .one 34 64 [[.byt 64 s]] [])
def sumI (a b : List Nat) (k : Nat) : LTm × LHp :=
  ([.junk, .junk, .sc (.ptr 0 0 64 0), .sc (.ptr 1 0 64 0), .sc (.ptr 2 0 64 0), .junk, iv (k : Nat), .junk, .junk, .junk, .junk, .junk, .junk, .junk, .junk, .junk, .junk, .junk, .junk], [secB (mix (xorL a b) a k), secB b, secB (zs 64)])
theorem sum_ok (a b : List Nat) (ha : Sec a) (hb : Sec b) : FunT Try.prog 77 [secV a, secV b] [] (secV (xorL a b)) [] := by
  obtain ⟨I, hI⟩ : ∃ I, I = sumI a b := ⟨_, rfl⟩
  have hx := xorL_sec ha hb
  have m0 := mix_zero (xorL a b) a
  refine FunT.ev tabOk mixed Try.func77 rfl ?_
  conv => whnf
  repeat (first | (refine ⟨(by kernel_rfl : chkR _ _ _ _ = true), ?_⟩; conv => whnf) | (refine EvOr.go ?_; conv => whnf))
  refine CodeT.loopN tabOk mixed I 64 _ (StW.ofP [0, 1, 2] ?_ ?_ ?_) (fun k => by subst hI; rfl) ?_
  · subst hI; kernel_rfl
  · subst hI; rfl
  · subst hI; simp only [sumI, m0]; rfl
  intro k hkl
  subst hI
  have hl := mix_length (r := xorL a b) (k := k) hx.len ha.len hkl
  show evC Try.prog tab _ _ (sumI a b k).1 [secB (mix (xorL a b) a k), secB b, secB (zs 64)] _
  by_cases hk : k < 64
  · have e1 := mix_get (r := xorL a b) (a := a) hx.len hk
    have e2 : (mix (xorL a b) a k).getD k 0 ^^^ b.getD k 0 = (xorL a b).getD k 0 := by
      rw [e1, xorL_get (by rw [ha.len]; exact hk) (by rw [hb.len]; exact hk)]
    have hs : mix (xorL a b) a (k + 1) = (mix (xorL a b) a k).set k ((mix (xorL a b) a k).getD k 0 ^^^ b.getD k 0) := by rw [e2, mix_set hx.len ha.len hk]
    have b1 : (mix (xorL a b) a k).getD k 0 < 256 := by rw [e1]; exact ha.get k
    generalize mix (xorL a b) a k = S at hs hl b1 ⊢
    conv => whnf
    repeat (first | (refine ⟨(by kernel_rfl : chkR _ _ _ _ = true), ?_⟩; conv => whnf) | (refine EvOr.go ?_; conv => whnf))
    intro c hc
    obtain rfl : c = true := by rw [hc]; exact decide_eq_true (by omega)
    conv => whnf
    repeat (first | (refine ⟨(by kernel_rfl : chkR _ _ _ _ = true), ?_⟩; conv => whnf) | (refine EvOr.go ?_; conv => whnf))
    refine ⟨⟨by omega, by show (k : Int) < 64; omega⟩, ?_⟩
    conv => whnf
    repeat (first | (refine ⟨(by kernel_rfl : chkR _ _ _ _ = true), ?_⟩; conv => whnf) | (refine EvOr.go ?_; conv => whnf))
    refine ⟨by show k < 64; omega, ?_⟩
    conv => whnf
    repeat (first | (refine ⟨(by kernel_rfl : chkR _ _ _ _ = true), ?_⟩; conv => whnf) | (refine EvOr.go ?_; conv => whnf))
    refine ⟨⟨by omega, by show (k : Int) < 64; omega⟩, ?_⟩
    conv => whnf
    repeat (first | (refine ⟨(by kernel_rfl : chkR _ _ _ _ = true), ?_⟩; conv => whnf) | (refine EvOr.go ?_; conv => whnf))
    refine ⟨by show k < 64; omega, ?_⟩
    conv => whnf
    repeat (first | (refine ⟨(by kernel_rfl : chkR _ _ _ _ = true), ?_⟩; conv => whnf) | (refine EvOr.go ?_; conv => whnf))
    refine ⟨_, xor8 (a := S.getD k 0) (b := b.getD k 0) b1 (hb.get k), ?_⟩
    conv => whnf
    repeat (first | (refine ⟨(by kernel_rfl : chkR _ _ _ _ = true), ?_⟩; conv => whnf) | (refine EvOr.go ?_; conv => whnf))
    refine ⟨⟨by omega, by show (k : Int) < 64; omega⟩, ?_⟩
    conv => whnf
    repeat (first | (refine ⟨(by kernel_rfl : chkR _ _ _ _ = true), ?_⟩; conv => whnf) | (refine EvOr.go ?_; conv => whnf))
    refine ⟨⟨by show k < 64; omega, by omega, by omega, rfl⟩, ?_⟩
    conv => whnf
    repeat (first | (refine ⟨(by kernel_rfl : chkR _ _ _ _ = true), ?_⟩; conv => whnf) | (refine EvOr.go ?_; conv => whnf))
    refine ⟨_, inc_nat (by omega), ?_⟩
    conv => whnf
    repeat (first | (refine ⟨(by kernel_rfl : chkR _ _ _ _ = true), ?_⟩; conv => whnf) | (refine EvOr.go ?_; conv => whnf))
    refine ⟨by omega, _, StW.ofP [0, 1, 2] ?_ ?_ ?_⟩
    · kernel_rfl
    · rfl
    · simp only [sumI, hs]; rfl
  · obtain rfl : k = 64 := by omega
    have e := mix_full hx.len ha.len
    generalize mix (xorL a b) a 64 = S at e ⊢
    subst e
    conv => whnf
    repeat (first | (refine ⟨(by kernel_rfl : chkR _ _ _ _ = true), ?_⟩; conv => whnf) | (refine EvOr.go ?_; conv => whnf))
    intro c hc
    obtain rfl : c = false := by rw [hc]; rfl
    conv => whnf
    repeat (first | (refine ⟨(by kernel_rfl : chkR _ _ _ _ = true), ?_⟩; conv => whnf) | (refine EvOr.go ?_; conv => whnf))
    exact retQ.all tabOk _ [secV (xorL a b)] rfl (by first | exact .inr rfl | exact .inl rfl) (by repeat' (first | exact trivial | rfl | (intro h; cases h; done) | (refine ⟨?_, ?_⟩))) rfl (by rfl) (Nat.le_of_ble_eq_true rfl) (by rfl)
def timI (a : List Nat) (f k : Nat) : LTm × LHp :=
  ([.junk, ub f, .sc (.ptr 0 0 64 0), .junk, .sc (.ptr 1 0 64 0), .junk, iv (k : Nat), .junk, .junk, .junk, .junk, .junk, .junk, .junk, .junk, .junk, .junk, .junk], [secB (mix (mulL a f) a k), secB (zs 64)])
theorem times_ok (a : List Nat) (f : Nat) (ha : Sec a) (hf : f < 256) : FunT Try.prog 79 [secV a, ub f] [] (secV (mulL a f)) [] := by
  obtain ⟨I, hI⟩ : ∃ I, I = timI a f := ⟨_, rfl⟩
  have hx := mulL_sec (f := f) ha
  have m0 := mix_zero (mulL a f) a
  refine FunT.ev tabOk mixed Try.func79 rfl ?_
  conv => whnf
  repeat (first | (refine ⟨(by kernel_rfl : chkR _ _ _ _ = true), ?_⟩; conv => whnf) | (refine EvOr.go ?_; conv => whnf))
  refine CodeT.loopN tabOk mixed I 64 _ (StW.ofP [0, 1] ?_ ?_ ?_) (fun k => by subst hI; rfl) ?_
  · subst hI; kernel_rfl
  · subst hI; rfl
  · subst hI; simp only [timI, m0]; rfl
  intro k hkl
  subst hI
  have hl := mix_length (r := mulL a f) (k := k) hx.len ha.len hkl
  show evC Try.prog tab _ _ (timI a f k).1 [secB (mix (mulL a f) a k), secB (zs 64)] _
  by_cases hk : k < 64
  · have e1 := mix_get (r := mulL a f) (a := a) hx.len hk
    have hs : mix (mulL a f) a (k + 1) = (mix (mulL a f) a k).set k (gmul (a.getD k 0) f) := by
      rw [← mulL_get (by rw [ha.len]; exact hk), mix_set hx.len ha.len hk]
    have hM := mul_ok (a.getD k 0) f (ha.get k) hf
    rw [← e1] at hM hs
    generalize mix (mulL a f) a k = S at hs hl hM ⊢
    conv => whnf
    repeat (first | (refine ⟨(by kernel_rfl : chkR _ _ _ _ = true), ?_⟩; conv => whnf) | (refine EvOr.go ?_; conv => whnf))
    intro c hc
    obtain rfl : c = true := by rw [hc]; exact decide_eq_true (by omega)
    conv => whnf
    repeat (first | (refine ⟨(by kernel_rfl : chkR _ _ _ _ = true), ?_⟩; conv => whnf) | (refine EvOr.go ?_; conv => whnf))
    refine ⟨⟨by omega, by show (k : Int) < 64; omega⟩, ?_⟩
    conv => whnf
    repeat (first | (refine ⟨(by kernel_rfl : chkR _ _ _ _ = true), ?_⟩; conv => whnf) | (refine EvOr.go ?_; conv => whnf))
    refine ⟨by show k < 64; omega, ?_⟩
    conv => whnf
    repeat (first | (refine ⟨(by kernel_rfl : chkR _ _ _ _ = true), ?_⟩; conv => whnf) | (refine EvOr.go ?_; conv => whnf))
    refine CallG.use hM c121 [] [] ?_ ?_ ?_ ?_ ?_ ?_; rfl; rfl; kernel_rfl; rfl; rfl
    conv => whnf
    repeat (first | (refine ⟨(by kernel_rfl : chkR _ _ _ _ = true), ?_⟩; conv => whnf) | (refine EvOr.go ?_; conv => whnf))
    refine ⟨⟨by omega, by show (k : Int) < 64; omega⟩, ?_⟩
    conv => whnf
    repeat (first | (refine ⟨(by kernel_rfl : chkR _ _ _ _ = true), ?_⟩; conv => whnf) | (refine EvOr.go ?_; conv => whnf))
    refine ⟨⟨by show k < 64; omega, by omega, by omega, rfl⟩, ?_⟩
    conv => whnf
    repeat (first | (refine ⟨(by kernel_rfl : chkR _ _ _ _ = true), ?_⟩; conv => whnf) | (refine EvOr.go ?_; conv => whnf))
    refine ⟨_, inc_nat (by omega), ?_⟩
    conv => whnf
    repeat (first | (refine ⟨(by kernel_rfl : chkR _ _ _ _ = true), ?_⟩; conv => whnf) | (refine EvOr.go ?_; conv => whnf))
    refine ⟨by omega, _, StW.ofP [0, 1] ?_ ?_ ?_⟩
    · kernel_rfl
    · rfl
    · simp only [timI, hs]; rfl
  · obtain rfl : k = 64 := by omega
    have e := mix_full hx.len ha.len
    generalize mix (mulL a f) a 64 = S at e ⊢
    subst e
    conv => whnf
    repeat (first | (refine ⟨(by kernel_rfl : chkR _ _ _ _ = true), ?_⟩; conv => whnf) | (refine EvOr.go ?_; conv => whnf))
    intro c hc
    obtain rfl : c = false := by rw [hc]; rfl
    conv => whnf
    repeat (first | (refine ⟨(by kernel_rfl : chkR _ _ _ _ = true), ?_⟩; conv => whnf) | (refine EvOr.go ?_; conv => whnf))
    exact retQ.all tabOk _ [secV (mulL a f)] rfl (by first | exact .inr rfl | exact .inl rfl) (by repeat' (first | exact trivial | rfl | (intro h; cases h; done) | (refine ⟨?_, ?_⟩))) rfl (by rfl) (Nat.le_of_ble_eq_true rfl) (by rfl)
def secS (s : List Nat) : Segs := [.byt 64 s]
abbrev rowS (L : List (List Nat)) : Option ABlk := some (.row .ro 34 64 (L.map secS) [])
theorem sec_get {L : List (List Nat)} {k : Nat} (hk : k < L.length) : (L.map secS)[0 + (k : Int).toNat]? = some (secS (L.getD k [])) := by
  rw [Nat.zero_add, Int.toNat_natCast, List.getElem?_map, List.getElem?_eq_getElem hk, List.getD_eq_getElem?_getD, List.getElem?_eq_getElem hk]; rfl
def plaI (L : List (List Nat)) (n : Nat) (co : Option Nat) (k : Nat) : LTm × LHp :=
  ([.junk, .junk, .sc (.ptr 1 0 64 0), .sc (.ptr 2 0 64 0), .junk, .junk, .sc (.sl 0 0 64 n co), iv (n : Nat), iv (k : Nat), .junk, .junk, .junk, .junk, .junk, .junk, .junk, .junk, .junk, .junk, .junk, .junk, .junk, .junk, .junk, .junk], [rowS L, secB (psum L k), secB (qsum L k)])
theorem plain_ok (L : List (List Nat)) (n : Nat) (co : Option Nat) (hL : Secs L) (hn : n ≤ L.length) (hb : n < 2 ^ 32) :
    FunT Try.prog 73 [.sc (.sl 0 0 64 n co)] [rowS L] (.tup [secV (psum L n), secV (qsum L n)]) [rowS L] := by
  obtain ⟨I, hI⟩ : ∃ I, I = plaI L n co := ⟨_, rfl⟩
  cases co <;>
  · refine FunT.ev tabOk mixed Try.func73 rfl ?_
    conv => whnf
    repeat (first | (refine ⟨(by kernel_rfl : chkR _ _ _ _ = true), ?_⟩; conv => whnf) | (refine EvOr.go ?_; conv => whnf))
    refine CodeT.loopN tabOk mixed I n _ (StW.ofP [0, 1, 2] ?_ ?_ ?_) (fun k => by subst hI; rfl) ?_
    · subst hI; kernel_rfl
    · subst hI; rfl
    · subst hI; rfl
    intro k hkl
    subst hI
    have hp := psum_sec hL k (by omega)
    have hq := qsum_sec hL k (by omega)
    show evC Try.prog tab _ _ (plaI L n _ k).1 [rowS L, secB (psum L k), secB (qsum L k)] _
    by_cases hk : k < n
    · have hd := hL.at (i := k) (by omega)
      have gw := pow_ok (k : Nat) (by omega)
      have gt := times_ok (L.getD k []) (pwZ (k : Int)) hd (pwZ_lt _)
      have g1 := sum_ok (psum L k) (L.getD k []) hp hd
      have g2 := sum_ok (qsum L k) (mulL (L.getD k []) (pwZ (k : Int))) hq (mulL_sec hd)
      have hs1 : psum L (k + 1) = xorL (psum L k) (L.getD k []) := rfl
      have hs2 : qsum L (k + 1) = xorL (qsum L k) (mulL (L.getD k []) (pwZ (k : Int))) := rfl
      have hg := sec_get (L := L) (k := k) (by omega)
      generalize psum L k = p at *
      generalize qsum L k = q at *
      conv => whnf
      repeat (first | (refine ⟨(by kernel_rfl : chkR _ _ _ _ = true), ?_⟩; conv => whnf) | (refine EvOr.go ?_; conv => whnf))
      intro c hc
      obtain rfl : c = true := by rw [hc]; exact decide_eq_true (by omega)
      conv => whnf
      repeat (first | (refine ⟨(by kernel_rfl : chkR _ _ _ _ = true), ?_⟩; conv => whnf) | (refine EvOr.go ?_; conv => whnf))
      refine ⟨⟨by omega, by omega⟩, ?_⟩
      conv => whnf
      repeat (first | (refine ⟨(by kernel_rfl : chkR _ _ _ _ = true), ?_⟩; conv => whnf) | (refine EvOr.go ?_; conv => whnf))
      refine ⟨_, hg, ?_⟩
      conv => whnf
      repeat (first | (refine ⟨(by kernel_rfl : chkR _ _ _ _ = true), ?_⟩; conv => whnf) | (refine EvOr.go ?_; conv => whnf))
      refine CallG.use g1 c77 [] [] ?_ ?_ ?_ ?_ ?_ ?_; rfl; rfl; kernel_rfl; rfl; rfl
      conv => whnf
      repeat (first | (refine ⟨(by kernel_rfl : chkR _ _ _ _ = true), ?_⟩; conv => whnf) | (refine EvOr.go ?_; conv => whnf))
      refine CallG.use gw c80 [] [] ?_ ?_ ?_ ?_ ?_ ?_; rfl; rfl; kernel_rfl; rfl; rfl
      conv => whnf
      repeat (first | (refine ⟨(by kernel_rfl : chkR _ _ _ _ = true), ?_⟩; conv => whnf) | (refine EvOr.go ?_; conv => whnf))
      refine CallG.use gt c79 [] [] ?_ ?_ ?_ ?_ ?_ ?_; rfl; rfl; kernel_rfl; rfl; rfl
      conv => whnf
      repeat (first | (refine ⟨(by kernel_rfl : chkR _ _ _ _ = true), ?_⟩; conv => whnf) | (refine EvOr.go ?_; conv => whnf))
      refine CallG.use g2 c77 [] [] ?_ ?_ ?_ ?_ ?_ ?_; rfl; rfl; kernel_rfl; rfl; rfl
      conv => whnf
      repeat (first | (refine ⟨(by kernel_rfl : chkR _ _ _ _ = true), ?_⟩; conv => whnf) | (refine EvOr.go ?_; conv => whnf))
      refine ⟨_, inc_nat (by omega), ?_⟩
      conv => whnf
      repeat (first | (refine ⟨(by kernel_rfl : chkR _ _ _ _ = true), ?_⟩; conv => whnf) | (refine EvOr.go ?_; conv => whnf))
      refine ⟨by omega, _, StW.ofP [0, 1, 2] ?_ ?_ ?_⟩
      · kernel_rfl
      · rfl
      · simp only [plaI, hs1, hs2]; rfl
    · obtain rfl : k = n := by omega
      conv => whnf
      repeat (first | (refine ⟨(by kernel_rfl : chkR _ _ _ _ = true), ?_⟩; conv => whnf) | (refine EvOr.go ?_; conv => whnf))
      intro c hc
      obtain rfl : c = false := by rw [hc]; exact decide_eq_false (by omega)
      conv => whnf
      repeat (first | (refine ⟨(by kernel_rfl : chkR _ _ _ _ = true), ?_⟩; conv => whnf) | (refine EvOr.go ?_; conv => whnf))
      exact retQ.all tabOk _ [secV (psum L k), secV (qsum L k)] rfl (by first | exact .inr rfl | exact .inl rfl) (by repeat' (first | exact trivial | rfl | (intro h; cases h; done) | (refine ⟨?_, ?_⟩))) rfl (by rfl) (Nat.le_of_ble_eq_true rfl) (by rfl)
end Go.Proofs.Ytdmcbfmpnakdfaa.Eng
