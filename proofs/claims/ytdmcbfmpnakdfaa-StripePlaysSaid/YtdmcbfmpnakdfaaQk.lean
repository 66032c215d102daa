/- The laws' helpers: filled, same, works. -/
import Derived.Test.YtdmcbfmpnakdfaaQj
namespace Go.Proofs.Ytdmcbfmpnakdfaa.Eng
open Go Go.Proofs Go.Proofs.Ytdmcbfmpnakdfaa.Gf
set_option maxRecDepth 20000
set_option maxHeartbeats 4000000
theorem c21 : Callable Try.prog 21 := ⟨⟨_, Try.func21, by kernel_rfl, by kernel_rfl⟩⟩
theorem c24 : Callable Try.prog 24 := ⟨⟨_, Try.func24, by kernel_rfl, by kernel_rfl⟩⟩
theorem c20 : Callable Try.prog 20 := ⟨⟨_, Try.func20, by kernel_rfl, by kernel_rfl⟩⟩
def rep (c : Nat) : List Nat := List.replicate 64 c
theorem rep_sec {c : Nat} (h : c < 256) : Sec (rep c) := ⟨by simp [rep], fun x hx => by rw [(List.mem_replicate.1 hx).2]; exact h⟩
def filI (c k : Nat) : LTm × LHp := ([ub c, .junk, .sc (.ptr 0 0 64 0), .sc (.ptr 1 0 64 0), iv (k : Nat), .junk, .junk, .junk, .junk, .junk, .junk, .junk, .junk], [secB (zs 64), secB (mix (rep c) zeros k)])
theorem filled_ok (c : Nat) (hc : c < 256) : FunT Try.prog 21 [ub c] [] (secV (rep c)) [] := by
  obtain ⟨I, hI⟩ : ∃ I, I = filI c := ⟨_, rfl⟩
  have sr := rep_sec hc
  refine FunT.ev tabOk mixed Try.func21 rfl ?_
  conv => whnf
  repeat (first | (refine ⟨(by kernel_rfl : chkR _ _ _ _ = true), ?_⟩; conv => whnf) | (refine EvOr.go ?_; conv => whnf))
  refine CodeT.loopN tabOk mixed I 64 _ (StW.ofP [0, 1] ?_ ?_ ?_) (fun k => by subst hI; rfl) ?_
  · subst hI; kernel_rfl
  · subst hI; rfl
  · subst hI; rfl
  intro k hkl
  subst hI
  have hl := mix_length (r := rep c) (a := zeros) (k := k) sr.len zeros_sec.len hkl
  show evC Try.prog tab _ _ (filI c k).1 [secB (zs 64), secB (mix (rep c) zeros k)] _
  by_cases hk : k < 64
  · have hs := mix_set (r := rep c) (a := zeros) sr.len zeros_sec.len hk
    have e : (rep c).getD k 0 = c := by
      unfold rep
      rw [List.getD_eq_getElem?_getD, List.getElem?_replicate, if_pos hk]; rfl
    rw [e] at hs
    generalize mix (rep c) zeros k = S at hs hl ⊢
    conv => whnf
    repeat (first | (refine ⟨(by kernel_rfl : chkR _ _ _ _ = true), ?_⟩; conv => whnf) | (refine EvOr.go ?_; conv => whnf))
    intro c hc
    obtain rfl : c = true := by rw [hc]; exact decide_eq_true (by omega)
    conv => whnf
    repeat (first | (refine ⟨(by kernel_rfl : chkR _ _ _ _ = true), ?_⟩; conv => whnf) | (refine EvOr.go ?_; conv => whnf))
    refine ⟨⟨by omega, by show (k : Int) < 64; omega⟩, ?_⟩
    conv => whnf
    repeat (first | (refine ⟨(by kernel_rfl : chkR _ _ _ _ = true), ?_⟩; conv => whnf) | (refine EvOr.go ?_; conv => whnf))
    refine ⟨⟨by show k < 64; omega, by omega, by omega, rfl⟩, ?_⟩
    conv => whnf
    repeat (first | (refine ⟨(by kernel_rfl : chkR _ _ _ _ = true), ?_⟩; conv => whnf) | (refine EvOr.go ?_; conv => whnf))
    refine ⟨_, inc_nat (by omega), ?_⟩
    conv => whnf
    repeat (first | (refine ⟨(by kernel_rfl : chkR _ _ _ _ = true), ?_⟩; conv => whnf) | (refine EvOr.go ?_; conv => whnf))
    refine ⟨by omega, _, StW.ofP [0, 1] ?_ ?_ ?_⟩
    · kernel_rfl
    · rfl
    · simp only [filI, ← hs]; rfl
  · obtain rfl : k = 64 := by omega
    have e := mix_full sr.len zeros_sec.len
    generalize mix (rep c) zeros 64 = S at e ⊢
    subst e
    conv => whnf
    repeat (first | (refine ⟨(by kernel_rfl : chkR _ _ _ _ = true), ?_⟩; conv => whnf) | (refine EvOr.go ?_; conv => whnf))
    intro c hc
    obtain rfl : c = false := by rw [hc]; rfl
    conv => whnf
    repeat (first | (refine ⟨(by kernel_rfl : chkR _ _ _ _ = true), ?_⟩; conv => whnf) | (refine EvOr.go ?_; conv => whnf))
    exact retQ.all tabOk _ [secV (rep c)] rfl (by first | exact .inr rfl | exact .inl rfl) (by repeat' (first | exact trivial | rfl | (intro h; cases h; done) | (refine ⟨?_, ?_⟩))) rfl (by rfl) (Nat.le_of_ble_eq_true rfl) (by rfl)
def samI (L : List (List Nat)) (co c2 : Option Nat) (k : Nat) : LTm × LHp :=
  ([.sc (.sl 0 0 64 L.length co), .sc (.sl 1 0 64 L.length c2), .junk, .junk, .junk, iv (k : Nat), .junk, .junk, .junk, .junk, .junk, .junk, .junk, .junk, .junk, .junk, .junk, .junk, .junk, .junk, .junk, .junk, .junk, .junk, .junk, .junk], [rowS L, rowS L])
theorem same_ok (L : List (List Nat)) (co c2 : Option Nat) (hb : L.length < 2 ^ 32) :
    FunT Try.prog 24 [.sc (.sl 0 0 64 L.length co), .sc (.sl 1 0 64 L.length c2)] [rowS L, rowS L] (bv true) [rowS L, rowS L] := by
  obtain ⟨I, hI⟩ : ∃ I, I = samI L co c2 := ⟨_, rfl⟩
  cases co <;> cases c2 <;>
  · refine FunT.ev tabOk mixed Try.func24 rfl ?_
    conv => whnf
    repeat (first | (refine ⟨(by kernel_rfl : chkR _ _ _ _ = true), ?_⟩; conv => whnf) | (refine EvOr.go ?_; conv => whnf))
    intro c hc
    obtain rfl : c = false := by rw [hc]; simp
    conv => whnf
    repeat (first | (refine ⟨(by kernel_rfl : chkR _ _ _ _ = true), ?_⟩; conv => whnf) | (refine EvOr.go ?_; conv => whnf))
    refine CodeT.loopN tabOk mixed I L.length _ (StW.ofP [0, 1] ?_ ?_ ?_) (fun k => by subst hI; rfl) ?_
    · subst hI; kernel_rfl
    · subst hI; rfl
    · subst hI; rfl
    intro k hkl
    subst hI
    by_cases hk : k < L.length
    · have hg := sec_get hk
      conv => whnf
      repeat (first | (refine ⟨(by kernel_rfl : chkR _ _ _ _ = true), ?_⟩; conv => whnf) | (refine EvOr.go ?_; conv => whnf))
      intro c hc
      obtain rfl : c = true := by rw [hc]; exact decide_eq_true (by omega)
      conv => whnf
      repeat (first | (refine ⟨(by kernel_rfl : chkR _ _ _ _ = true), ?_⟩; conv => whnf) | (refine EvOr.go ?_; conv => whnf))
      refine ⟨⟨by omega, by omega⟩, ?_⟩
      conv => whnf
      repeat (first | (refine ⟨(by kernel_rfl : chkR _ _ _ _ = true), ?_⟩; conv => whnf) | (refine EvOr.go ?_; conv => whnf))
      refine ⟨_, hg, ?_⟩
      conv => whnf
      repeat (first | (refine ⟨(by kernel_rfl : chkR _ _ _ _ = true), ?_⟩; conv => whnf) | (refine EvOr.go ?_; conv => whnf))
      refine ⟨⟨by omega, by omega⟩, ?_⟩
      conv => whnf
      repeat (first | (refine ⟨(by kernel_rfl : chkR _ _ _ _ = true), ?_⟩; conv => whnf) | (refine EvOr.go ?_; conv => whnf))
      refine ⟨_, hg, ?_⟩
      conv => whnf
      repeat (first | (refine ⟨(by kernel_rfl : chkR _ _ _ _ = true), ?_⟩; conv => whnf) | (refine EvOr.go ?_; conv => whnf))
      refine ⟨rfl, ?_⟩
      refine ⟨eq34, ?_⟩
      conv => whnf
      repeat (first | (refine ⟨(by kernel_rfl : chkR _ _ _ _ = true), ?_⟩; conv => whnf) | (refine EvOr.go ?_; conv => whnf))
      intro c hc
      obtain rfl : c = false := by
        cases c
        · rfl
        · exact absurd rfl (hc.1 rfl)
      conv => whnf
      repeat (first | (refine ⟨(by kernel_rfl : chkR _ _ _ _ = true), ?_⟩; conv => whnf) | (refine EvOr.go ?_; conv => whnf))
      refine ⟨_, inc_nat (by omega), ?_⟩
      conv => whnf
      repeat (first | (refine ⟨(by kernel_rfl : chkR _ _ _ _ = true), ?_⟩; conv => whnf) | (refine EvOr.go ?_; conv => whnf))
      refine ⟨by first | exact hk | omega, _, StW.ofP [0, 1] ?_ ?_ ?_⟩
      · kernel_rfl
      · rfl
      · rfl
    · obtain rfl : k = L.length := by omega
      conv => whnf
      repeat (first | (refine ⟨(by kernel_rfl : chkR _ _ _ _ = true), ?_⟩; conv => whnf) | (refine EvOr.go ?_; conv => whnf))
      intro c hc
      obtain rfl : c = false := by rw [hc]; exact decide_eq_false (by omega)
      conv => whnf
      repeat (first | (refine ⟨(by kernel_rfl : chkR _ _ _ _ = true), ?_⟩; conv => whnf) | (refine EvOr.go ?_; conv => whnf))
      exact retQ.one rfl (.inr rfl) rfl (Nat.le_of_ble_eq_true rfl) rfl
theorem works_ok : FunT Try.prog 20 [] [] (bv true) [] := by
  have f1 := filled_ok 1 (by decide)
  have f2 := filled_ok 2 (by decide)
  have f3 := filled_ok 3 (by decide)
  have f5 := filled_ok 5 (by decide)
  have hS : Secs [rep 1, rep 2] := fun l hl => by
    simp at hl
    rcases hl with rfl | rfl
    · exact rep_sec (by decide)
    · exact rep_sec (by decide)
  have gO := of_ok [rep 1, rep 2] 2 (some 2) hS (Nat.le_refl _)
  rw [show ofP [rep 1, rep 2] 2 = rep 3 by decide +kernel, show ofQ [rep 1, rep 2] 2 = rep 5 by decide +kernel, show ofE 2 = 0 by rfl] at gO
  generalize rep 1 = r1 at *
  generalize rep 2 = r2 at *
  generalize rep 3 = r3 at *
  generalize rep 5 = r5 at *
  refine FunT.ev tabOk mixed Try.func20 rfl ?_
  conv => whnf
  repeat (first | (refine ⟨(by kernel_rfl : chkR _ _ _ _ = true), ?_⟩; conv => whnf) | (refine EvOr.go ?_; conv => whnf))
  refine CallG.use f1 c21 [] [] ?_ ?_ ?_ ?_ ?_ ?_; rfl; rfl; kernel_rfl; rfl; rfl
  conv => whnf
  repeat (first | (refine ⟨(by kernel_rfl : chkR _ _ _ _ = true), ?_⟩; conv => whnf) | (refine EvOr.go ?_; conv => whnf))
  refine CallG.use f2 c21 [] [] ?_ ?_ ?_ ?_ ?_ ?_; rfl; rfl; kernel_rfl; rfl; rfl
  conv => whnf
  repeat (first | (refine ⟨(by kernel_rfl : chkR _ _ _ _ = true), ?_⟩; conv => whnf) | (refine EvOr.go ?_; conv => whnf))
  refine CallG.use gO c22 [0] [] ?_ ?_ ?_ ?_ ?_ ?_; rfl; rfl; kernel_rfl; rfl; rfl
  conv => whnf
  repeat (first | (refine ⟨(by kernel_rfl : chkR _ _ _ _ = true), ?_⟩; conv => whnf) | (refine EvOr.go ?_; conv => whnf))
  repeat (intro c hc; simp [] at hc; subst hc; (conv => whnf); repeat (first | (refine ⟨(by kernel_rfl : chkR _ _ _ _ = true), ?_⟩; (conv => whnf)) | (refine EvOr.go ?_; (conv => whnf))))
  refine CallG.use f3 c21 [] [] ?_ ?_ ?_ ?_ ?_ ?_; rfl; rfl; kernel_rfl; rfl; rfl
  conv => whnf
  repeat (first | (refine ⟨(by kernel_rfl : chkR _ _ _ _ = true), ?_⟩; conv => whnf) | (refine EvOr.go ?_; conv => whnf))
  refine ⟨rfl, ?_⟩
  refine ⟨eq34, ?_⟩
  conv => whnf
  repeat (first | (refine ⟨(by kernel_rfl : chkR _ _ _ _ = true), ?_⟩; conv => whnf) | (refine EvOr.go ?_; conv => whnf))
  intro c hc
  obtain rfl : c = true := hc.2 rfl
  conv => whnf
  repeat (first | (refine ⟨(by kernel_rfl : chkR _ _ _ _ = true), ?_⟩; conv => whnf) | (refine EvOr.go ?_; conv => whnf))
  refine CallG.use f5 c21 [] [] ?_ ?_ ?_ ?_ ?_ ?_; rfl; rfl; kernel_rfl; rfl; rfl
  conv => whnf
  repeat (first | (refine ⟨(by kernel_rfl : chkR _ _ _ _ = true), ?_⟩; conv => whnf) | (refine EvOr.go ?_; conv => whnf))
  refine ⟨rfl, ?_⟩
  refine ⟨eq34, ?_⟩
  conv => whnf
  repeat (first | (refine ⟨(by kernel_rfl : chkR _ _ _ _ = true), ?_⟩; conv => whnf) | (refine EvOr.go ?_; conv => whnf))
  intro c hc
  obtain rfl : c = true := hc.2 rfl
  conv => whnf
  repeat (first | (refine ⟨(by kernel_rfl : chkR _ _ _ _ = true), ?_⟩; conv => whnf) | (refine EvOr.go ?_; conv => whnf))
  exact retQ.one rfl (.inr rfl) rfl (Nat.le_of_ble_eq_true rfl) rfl
end Go.Proofs.Ytdmcbfmpnakdfaa.Eng
