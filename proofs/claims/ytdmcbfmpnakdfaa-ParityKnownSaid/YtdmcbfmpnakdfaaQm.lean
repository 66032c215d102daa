/- ParityKnown, walked whole. -/
import Derived.Test.YtdmcbfmpnakdfaaQk
namespace Go.Proofs.Ytdmcbfmpnakdfaa.Eng
open Go Go.Proofs Go.Proofs.Ytdmcbfmpnakdfaa.Gf
set_option maxRecDepth 20000
set_option maxHeartbeats 4000000
theorem unl_self {zs : List Int} (h : zs.Pairwise (· < ·)) : unl zs = zs := by
  have h1 : sortZ zs = zs := by
    unfold sortZ
    refine List.mergeSort_of_pairwise (h.imp fun h => ?_)
    simp; omega
  unfold unl
  rw [h1]
  unfold compZ
  refine Lib.compact_all zs fun j hj => ?_
  by_cases h0 : j = 0
  · subst h0; simp [Lib.keeps]
  · refine Lib.keeps_pos ?_
    have := List.pairwise_iff_getElem.1 h (j - 1) j (by omega) hj (by omega)
    have h2 : j - 1 < zs.length := by omega
    simp only [List.getElem!_toArray]
    rw [getElem!_pos zs j hj, getElem!_pos zs (j - 1) h2]
    omega
theorem secs4 {a b c d : List Nat} (ha : Sec a) (hb : Sec b) (hc : Sec c) (hd : Sec d) : Secs [a, b, c, d] := fun l hl => by
  simp at hl
  rcases hl with rfl | rfl | rfl | rfl <;> assumption
theorem fix_lit (L M : List (List Nat)) (n : Nat) (zs : List Int) (hL : L.length = n) (hn : n < 2 ^ 32) (hS : Secs L) (h0 : 0 < zs.length) (hb : zs.length < 2 ^ 32) (hz : zs.Pairwise (· < ·)) (he : fixE n zs = 0) (hM : fixR L (n - 2) (zs.map Int.toNat) = M) :
    FunT Try.prog 17 [.sc (.sl 0 0 64 n (some n)), .sc (.sl 1 0 1 zs.length (some zs.length))] [rowS L, rowRI zs] (.tup [.sc (.sl 2 0 64 n none), iv 0]) [rowS L, rowRI zs, rowX M] := by
  have := fix_row L n (some n) (some zs.length) zs hL hS hn h0 hb
  unfold fixV fixB at this
  rw [unl_self hz, if_pos he, if_pos he, hM] at this
  exact this
theorem fix_bad (L : List (List Nat)) (n : Nat) (zs : List Int) (e : Int) (hL : L.length = n) (hn : n < 2 ^ 32) (hS : Secs L) (h0 : 0 < zs.length) (hb : zs.length < 2 ^ 32) (hz : zs.Pairwise (· < ·)) (he : fixE n zs = e) (hne : e ≠ 0) :
    FunT Try.prog 17 [.sc (.sl 0 0 64 n (some n)), .sc (.sl 1 0 1 zs.length (some zs.length))] [rowS L, rowRI zs] (.tup [.sc nilS, iv e]) [rowS L, rowRI zs, none] := by
  have := fix_row L n (some n) (some zs.length) zs hL hS hn h0 hb
  unfold fixV fixB at this
  rw [unl_self hz, if_neg (by rw [he]; exact hne), if_neg (by rw [he]; exact hne), he] at this
  exact this
theorem known_par : FunT Try.prog 4 [] [] (bv true) [] := by
  have gW := works_ok
  have f0 := filled_ok 0 (by decide)
  have f1 := filled_ok 1 (by decide)
  have f2 := filled_ok 2 (by decide)
  have s0 := rep_sec (c := 0) (by decide)
  have s1 := rep_sec (c := 1) (by decide)
  have s2 := rep_sec (c := 2) (by decide)
  have s3 := rep_sec (c := 3) (by decide)
  have s5 := rep_sec (c := 5) (by decide)
  have o1 := of_ok [rep 1, rep 2] 2 (some 2) (fun l hl => by simp at hl; rcases hl with rfl | rfl <;> assumption) (Nat.le_refl _)
  rw [show ofP [rep 1, rep 2] 2 = rep 3 by decide +kernel, show ofQ [rep 1, rep 2] 2 = rep 5 by decide +kernel, show ofE 2 = 0 by rfl] at o1
  have o2 := of_ok [rep 1] 1 (some 1) (fun l hl => by simp at hl; subst hl; assumption) (Nat.le_refl _)
  rw [show ofP [rep 1] 1 = rep 1 by decide +kernel, show ofQ [rep 1] 1 = rep 1 by decide +kernel, show ofE 1 = 0 by rfl] at o2
  have o3 := of_ok [rep 1, rep 2, rep 1] 3 (some 3) (fun l hl => by simp at hl; rcases hl with rfl | rfl | rfl <;> assumption) (Nat.le_refl _)
  rw [show ofP [rep 1, rep 2, rep 1] 3 = rep 2 by decide +kernel, show ofQ [rep 1, rep 2, rep 1] 3 = rep 1 by decide +kernel, show ofE 3 = 0 by rfl] at o3
  have o4 := of_nil
  have o5 := of_ok (List.replicate 63 (zs 64)) 63 (some 63) (fun l hl => by rw [(List.mem_replicate.1 hl).2]; exact zeros_sec) (by simp)
  rw [show ofP (List.replicate 63 (zs 64)) 63 = zs 64 by rfl, show ofQ (List.replicate 63 (zs 64)) 63 = zs 64 by rfl, show ofE 63 = 3 by rfl] at o5
  have x1 := fix_lit [rep 0, rep 2, rep 3, rep 5] [rep 1, rep 2, rep 3, rep 5] 4 [0] rfl (by decide) (secs4 s0 s2 s3 s5) (by decide) (by decide) (by simp) (by decide) (by decide +kernel)
  have x2 := fix_lit [rep 0, rep 0, rep 3, rep 5] [rep 1, rep 2, rep 3, rep 5] 4 [0, 1] rfl (by decide) (secs4 s0 s0 s3 s5) (by decide) (by decide) (by simp) (by decide) (by decide +kernel)
  have x3 := fix_lit [rep 1, rep 0, rep 0, rep 5] [rep 1, rep 2, rep 3, rep 5] 4 [1, 2] rfl (by decide) (secs4 s1 s0 s0 s5) (by decide) (by decide) (by simp) (by decide) (by decide +kernel)
  have x4 := fix_bad [rep 1, rep 2, rep 0, rep 0] 4 [0, 1, 2] 7 rfl (by decide) (secs4 s1 s2 s0 s0) (by decide) (by decide) (by simp) (by decide) (by decide)
  have x5 := fix_bad [rep 1, rep 2, rep 0, rep 0] 4 [4] 2 rfl (by decide) (secs4 s1 s2 s0 s0) (by decide) (by decide) (by simp) (by decide) (by decide)
  have x6 := fix_nil (List.replicate 65 (zs 64)) 65 (some 65) (by simp) (fun l hl => by rw [(List.mem_replicate.1 hl).2]; exact zeros_sec) (by decide)
  unfold fixV fixB at x6
  rw [show fixE 65 [] = 3 by decide, if_neg (by decide), if_neg (by decide)] at x6
  have ch := change_ok (zs 64) (zs 64) (zs 64) (rep 1) 62 zeros_sec zeros_sec zeros_sec s1 (by omega)
  rw [show chP (zs 64) (zs 64) (rep 1) 62 = zs 64 by rfl, show chQ (zs 64) (zs 64) (rep 1) 62 = zs 64 by rfl, show chO (rep 1) 62 = zs 64 by rfl, show chE 62 = 2 by rfl] at ch
  have t1 := right_ok [rep 1, rep 2, rep 3, rep 5] (some 4) (secs4 s1 s2 s3 s5) (by decide) (fun c hc => by cases hc; decide)
  rw [show rightB [rep 1, rep 2, rep 3, rep 5] = true by decide +kernel] at t1
  have t2 := right_ok [rep 1, rep 2, rep 5, rep 3] (some 4) (secs4 s1 s2 s5 s3) (by decide) (fun c hc => by cases hc; decide)
  rw [show rightB [rep 1, rep 2, rep 5, rep 3] = false by decide +kernel] at t2
  have t3 := right_ok [rep 1, rep 0] (some 2) (fun l hl => by simp at hl; rcases hl with rfl | rfl <;> assumption) (by decide) (fun c hc => by cases hc; decide)
  rw [show rightB [rep 1, rep 0] = false by decide +kernel] at t3
  have sm := same_ok [rep 1, rep 2, rep 3, rep 5] none (some 4) (by decide)
  clear s0 s1 s2 s3 s5
  generalize rep 0 = z at *
  generalize rep 1 = a at *
  generalize rep 2 = b at *
  generalize rep 3 = p at *
  generalize rep 5 = q at *
  refine FunT.ev tabOk mixed Try.func4 rfl ?_
  conv => whnf
  repeat (first | (refine ⟨(by kernel_rfl : chkR _ _ _ _ = true), ?_⟩; conv => whnf) | (refine EvOr.go ?_; conv => whnf))
  refine CallG.use f1 c21 [] [] ?_ ?_ ?_ ?_ ?_ ?_; rfl; rfl; kernel_rfl; rfl; rfl
  conv => whnf
  repeat (first | (refine ⟨(by kernel_rfl : chkR _ _ _ _ = true), ?_⟩; conv => whnf) | (refine EvOr.go ?_; conv => whnf))
  refine CallG.use f2 c21 [] [] ?_ ?_ ?_ ?_ ?_ ?_; rfl; rfl; kernel_rfl; rfl; rfl
  conv => whnf
  repeat (first | (refine ⟨(by kernel_rfl : chkR _ _ _ _ = true), ?_⟩; conv => whnf) | (refine EvOr.go ?_; conv => whnf))
  refine CallG.use f0 c21 [] [] ?_ ?_ ?_ ?_ ?_ ?_; rfl; rfl; kernel_rfl; rfl; rfl
  conv => whnf
  repeat (first | (refine ⟨(by kernel_rfl : chkR _ _ _ _ = true), ?_⟩; conv => whnf) | (refine EvOr.go ?_; conv => whnf))
  refine CallG.use o1 c22 [3] [] ?_ ?_ ?_ ?_ ?_ ?_; rfl; rfl; kernel_rfl; rfl; rfl
  conv => whnf
  repeat (first | (refine ⟨(by kernel_rfl : chkR _ _ _ _ = true), ?_⟩; conv => whnf) | (refine EvOr.go ?_; conv => whnf))
  refine CallG.use o2 c22 [6] [] ?_ ?_ ?_ ?_ ?_ ?_; rfl; rfl; kernel_rfl; rfl; rfl
  conv => whnf
  repeat (first | (refine ⟨(by kernel_rfl : chkR _ _ _ _ = true), ?_⟩; conv => whnf) | (refine EvOr.go ?_; conv => whnf))
  refine CallG.use o3 c22 [9] [] ?_ ?_ ?_ ?_ ?_ ?_; rfl; rfl; kernel_rfl; rfl; rfl
  conv => whnf
  repeat (first | (refine ⟨(by kernel_rfl : chkR _ _ _ _ = true), ?_⟩; conv => whnf) | (refine EvOr.go ?_; conv => whnf))
  refine CallG.use x1 c17 [13, 14] [] ?_ ?_ ?_ ?_ ?_ ?_; rfl; rfl; kernel_rfl; rfl; rfl
  conv => whnf
  repeat (first | (refine ⟨(by kernel_rfl : chkR _ _ _ _ = true), ?_⟩; conv => whnf) | (refine EvOr.go ?_; conv => whnf))
  refine CallG.use x2 c17 [16, 17] [] ?_ ?_ ?_ ?_ ?_ ?_; rfl; rfl; kernel_rfl; rfl; rfl
  conv => whnf
  repeat (first | (refine ⟨(by kernel_rfl : chkR _ _ _ _ = true), ?_⟩; conv => whnf) | (refine EvOr.go ?_; conv => whnf))
  refine CallG.use x3 c17 [19, 20] [] ?_ ?_ ?_ ?_ ?_ ?_; rfl; rfl; kernel_rfl; rfl; rfl
  conv => whnf
  repeat (first | (refine ⟨(by kernel_rfl : chkR _ _ _ _ = true), ?_⟩; conv => whnf) | (refine EvOr.go ?_; conv => whnf))
  refine CallG.use x4 c17 [22, 23] [] ?_ ?_ ?_ ?_ ?_ ?_; rfl; rfl; kernel_rfl; rfl; rfl
  conv => whnf
  repeat (first | (refine ⟨(by kernel_rfl : chkR _ _ _ _ = true), ?_⟩; conv => whnf) | (refine EvOr.go ?_; conv => whnf))
  refine CallG.use x5 c17 [25, 26] [] ?_ ?_ ?_ ?_ ?_ ?_; rfl; rfl; kernel_rfl; rfl; rfl
  conv => whnf
  repeat (first | (refine ⟨(by kernel_rfl : chkR _ _ _ _ = true), ?_⟩; conv => whnf) | (refine EvOr.go ?_; conv => whnf))
  refine CallG.use o4 c22 [] [] ?_ ?_ ?_ ?_ ?_ ?_; rfl; rfl; kernel_rfl; rfl; rfl
  conv => whnf
  repeat (first | (refine ⟨(by kernel_rfl : chkR _ _ _ _ = true), ?_⟩; conv => whnf) | (refine EvOr.go ?_; conv => whnf))
  refine ⟨⟨by decide, by decide, by decide⟩, ?_⟩
  conv => whnf
  repeat (first | (refine ⟨(by kernel_rfl : chkR _ _ _ _ = true), ?_⟩; conv => whnf) | (refine EvOr.go ?_; conv => whnf))
  refine CallG.use o5 c22 [30] [] ?_ ?_ ?_ ?_ ?_ ?_; rfl; rfl; kernel_rfl; rfl; rfl
  conv => whnf
  repeat (first | (refine ⟨(by kernel_rfl : chkR _ _ _ _ = true), ?_⟩; conv => whnf) | (refine EvOr.go ?_; conv => whnf))
  refine ⟨⟨by decide, by decide, by decide⟩, ?_⟩
  conv => whnf
  repeat (first | (refine ⟨(by kernel_rfl : chkR _ _ _ _ = true), ?_⟩; conv => whnf) | (refine EvOr.go ?_; conv => whnf))
  refine CallG.use x6 c17 [33, 27] [] ?_ ?_ ?_ ?_ ?_ ?_; rfl; rfl; kernel_rfl; rfl; rfl
  conv => whnf
  repeat (first | (refine ⟨(by kernel_rfl : chkR _ _ _ _ = true), ?_⟩; conv => whnf) | (refine EvOr.go ?_; conv => whnf))
  refine CallG.use ch c23 [] [] ?_ ?_ ?_ ?_ ?_ ?_; rfl; rfl; kernel_rfl; rfl; rfl
  conv => whnf
  repeat (first | (refine ⟨(by kernel_rfl : chkR _ _ _ _ = true), ?_⟩; conv => whnf) | (refine EvOr.go ?_; conv => whnf))
  refine ⟨rfl, ?_⟩
  refine ⟨eq34, ?_⟩
  conv => whnf
  repeat (first | (refine ⟨(by kernel_rfl : chkR _ _ _ _ = true), ?_⟩; conv => whnf) | (refine EvOr.go ?_; conv => whnf))
  intro c hc
  obtain rfl : c = false := by
    cases c
    · rfl
    · exact absurd rfl (hc.1 rfl)
  conv => whnf
  repeat (first | (refine ⟨(by kernel_rfl : chkR _ _ _ _ = true), ?_⟩; conv => whnf) | (refine EvOr.go ?_; conv => whnf))
  refine ⟨rfl, ?_⟩
  refine ⟨eq34, ?_⟩
  conv => whnf
  repeat (first | (refine ⟨(by kernel_rfl : chkR _ _ _ _ = true), ?_⟩; conv => whnf) | (refine EvOr.go ?_; conv => whnf))
  intro c hc
  obtain rfl : c = false := by
    cases c
    · rfl
    · exact absurd rfl (hc.1 rfl)
  conv => whnf
  repeat (first | (refine ⟨(by kernel_rfl : chkR _ _ _ _ = true), ?_⟩; conv => whnf) | (refine EvOr.go ?_; conv => whnf))
  repeat (intro c hc; simp [] at hc; subst hc; (conv => whnf); repeat (first | (refine ⟨(by kernel_rfl : chkR _ _ _ _ = true), ?_⟩; (conv => whnf)) | (refine EvOr.go ?_; (conv => whnf))))
  refine CallG.use f2 c21 [] [] ?_ ?_ ?_ ?_ ?_ ?_; rfl; rfl; kernel_rfl; rfl; rfl
  conv => whnf
  repeat (first | (refine ⟨(by kernel_rfl : chkR _ _ _ _ = true), ?_⟩; conv => whnf) | (refine EvOr.go ?_; conv => whnf))
  refine ⟨rfl, ?_⟩
  refine ⟨eq34, ?_⟩
  conv => whnf
  repeat (first | (refine ⟨(by kernel_rfl : chkR _ _ _ _ = true), ?_⟩; conv => whnf) | (refine EvOr.go ?_; conv => whnf))
  intro c hc
  obtain rfl : c = false := by
    cases c
    · rfl
    · exact absurd rfl (hc.1 rfl)
  conv => whnf
  repeat (first | (refine ⟨(by kernel_rfl : chkR _ _ _ _ = true), ?_⟩; conv => whnf) | (refine EvOr.go ?_; conv => whnf))
  refine CallG.use f1 c21 [] [] ?_ ?_ ?_ ?_ ?_ ?_; rfl; rfl; kernel_rfl; rfl; rfl
  conv => whnf
  repeat (first | (refine ⟨(by kernel_rfl : chkR _ _ _ _ = true), ?_⟩; conv => whnf) | (refine EvOr.go ?_; conv => whnf))
  refine ⟨rfl, ?_⟩
  refine ⟨eq34, ?_⟩
  conv => whnf
  repeat (first | (refine ⟨(by kernel_rfl : chkR _ _ _ _ = true), ?_⟩; conv => whnf) | (refine EvOr.go ?_; conv => whnf))
  intro c hc
  obtain rfl : c = false := by
    cases c
    · rfl
    · exact absurd rfl (hc.1 rfl)
  conv => whnf
  repeat (first | (refine ⟨(by kernel_rfl : chkR _ _ _ _ = true), ?_⟩; conv => whnf) | (refine EvOr.go ?_; conv => whnf))
  repeat (intro c hc; simp [] at hc; subst hc; (conv => whnf); repeat (first | (refine ⟨(by kernel_rfl : chkR _ _ _ _ = true), ?_⟩; (conv => whnf)) | (refine EvOr.go ?_; (conv => whnf))))
  refine CallG.use sm c24 [15, 12] [] ?_ ?_ ?_ ?_ ?_ ?_; rfl; rfl; kernel_rfl; rfl; rfl
  conv => whnf
  repeat (first | (refine ⟨(by kernel_rfl : chkR _ _ _ _ = true), ?_⟩; conv => whnf) | (refine EvOr.go ?_; conv => whnf))
  refine CallG.use sm c24 [18, 12] [] ?_ ?_ ?_ ?_ ?_ ?_; rfl; rfl; kernel_rfl; rfl; rfl
  conv => whnf
  repeat (first | (refine ⟨(by kernel_rfl : chkR _ _ _ _ = true), ?_⟩; conv => whnf) | (refine EvOr.go ?_; conv => whnf))
  refine CallG.use sm c24 [21, 12] [] ?_ ?_ ?_ ?_ ?_ ?_; rfl; rfl; kernel_rfl; rfl; rfl
  conv => whnf
  repeat (first | (refine ⟨(by kernel_rfl : chkR _ _ _ _ = true), ?_⟩; conv => whnf) | (refine EvOr.go ?_; conv => whnf))
  repeat (intro c hc; simp [] at hc; subst hc; (conv => whnf); repeat (first | (refine ⟨(by kernel_rfl : chkR _ _ _ _ = true), ?_⟩; (conv => whnf)) | (refine EvOr.go ?_; (conv => whnf))))
  refine CallG.use t1 c25 [12] [] ?_ ?_ ?_ ?_ ?_ ?_; rfl; rfl; kernel_rfl; rfl; rfl
  conv => whnf
  repeat (first | (refine ⟨(by kernel_rfl : chkR _ _ _ _ = true), ?_⟩; conv => whnf) | (refine EvOr.go ?_; conv => whnf))
  refine CallG.use t2 c25 [36] [] ?_ ?_ ?_ ?_ ?_ ?_; rfl; rfl; kernel_rfl; rfl; rfl
  conv => whnf
  repeat (first | (refine ⟨(by kernel_rfl : chkR _ _ _ _ = true), ?_⟩; conv => whnf) | (refine EvOr.go ?_; conv => whnf))
  refine CallG.use t3 c25 [37] [] ?_ ?_ ?_ ?_ ?_ ?_; rfl; rfl; kernel_rfl; rfl; rfl
  conv => whnf
  repeat (first | (refine ⟨(by kernel_rfl : chkR _ _ _ _ = true), ?_⟩; conv => whnf) | (refine EvOr.go ?_; conv => whnf))
  refine CallG.use gW c20 [] [] ?_ ?_ ?_ ?_ ?_ ?_; rfl; rfl; kernel_rfl; rfl; rfl
  conv => whnf
  repeat (first | (refine ⟨(by kernel_rfl : chkR _ _ _ _ = true), ?_⟩; conv => whnf) | (refine EvOr.go ?_; conv => whnf))
  exact retQ.one rfl (.inr rfl) rfl (Nat.le_of_ble_eq_true rfl) rfl
end Go.Proofs.Ytdmcbfmpnakdfaa.Eng
