/- StripeOrder, walked whole. -/
import Derived.Test.YtdmcbfmpnakdfaaRl
namespace Go.Proofs.Ytdmcbfmpnakdfaa.Eng.St
open Go Go.RowKit Go.Shelf Go.Proofs Go.Proofs.Ytdmcbfmpnakdfaa.Gf Go.Proofs.Ytdmcbfmpnakdfaa.Rf Go.Proofs.Ytdmcbfmpnakdfaa.Oa
set_option maxRecDepth 20000
set_option maxHeartbeats 8000000
/-- A row's block whose columns and counts have the ids b and c. -/
abbrev rowAt (x : Bool) (n b c : Nat) : Option ABlk := some (.row .one 108 2 [[.one (.sl b 0 64 n (capX x n)), .one (.sl c 0 1 n (some n))]] [b, c])
def ordJ (x : Bool) (n : Nat) (D X : Option ABlk) (L M : List (List Nat)) (K H : List Nat) (j : Nat) : LTm × LHp :=
  ([.junk, .junk, .junk, .junk, .junk, iv (n : Nat), .sc (.ptr 2 0 2 0), .junk, .sc (.ptr 5 0 2 0), .junk, .junk, .junk, .junk, .junk, .junk, .junk, .junk, iv (j : Nat), .junk, .junk, .junk, .junk, .junk, .junk, .junk, .junk, .junk, .junk, .junk, .junk, .junk, .junk, .junk, .junk, .junk, .junk, .junk, .junk, .junk, .junk, .junk, .junk, .junk, .junk, .junk, .junk, .junk, .junk, .junk, .junk, .junk, .junk, .junk, .junk, .junk, .junk, .junk, .junk, .junk, .junk, .junk, .junk, .junk, .junk, .junk, .junk, .junk, .junk, .junk, .junk, .junk, .junk, .junk, .junk, .junk, .junk, .junk, .junk, .junk, .junk, .junk, .junk, .junk, .junk, .junk, .junk, .junk, .junk, .junk, .junk, .junk, .junk, .junk, .junk, .junk, .junk, .junk, .junk, .junk, .junk, .junk, .junk, .junk, .junk, .junk, .junk, .junk, .junk, .junk, .junk, .junk, .junk, .junk, .junk, .junk, .junk, .junk, .junk, .junk, .junk, .junk, .junk, .junk, .junk, .junk, .junk, .junk, .junk, .junk, .junk, .junk, .junk, .junk, .junk, .junk, .junk, .junk, .junk, .junk, .junk, .junk, .junk, .junk, .junk, .junk, .junk, .junk, .junk, .junk, .junk, .junk, .junk, .junk, .junk, .junk, .junk, .junk, .junk, .junk, .junk, .junk, .junk, .junk, .junk, .junk, .junk, .junk, .junk, .junk, .junk, .junk, .junk, .junk, .junk, .junk, .junk, .junk, .junk, .junk, .junk, .junk], [D, X, rowAt x n 3 4, colB x L, knB K, rowAt x n 6 7, colB x M, knB H])
theorem ordE (x : Bool) (n : Nat) (T : List (List Nat)) (X : Option ABlk) (hX : X = none ∨ ∃ l, X = rowA l) (L M : List (List Nat)) (K H : List Nat) (hn : n < 2 ^ 32)
    (hg : ∀ j : Nat, j < n → ∃ y e, FunT Try.prog 57 [rpV, iv (j : Nat)] (rw3 x n L K) (.tup [secV y, iv e]) (rw3 x n L K) ∧ FunT Try.prog 57 [rpV, iv (j : Nat)] (rw3 x n M H) (.tup [secV y, iv e]) (rw3 x n M H)) :
    CodeT Try.prog 2 (suf 11 (bodyC Try.f11)) ([.junk, .junk, .junk, .junk, .junk, iv (n : Nat), .sc (.ptr 2 0 2 0), .junk, .sc (.ptr 5 0 2 0), .junk, .junk, .junk, .junk, .junk, .junk, .junk, .junk, .junk, .junk, .junk, .junk, .junk, .junk, .junk, .junk, .junk, .junk, .junk, .junk, .junk, .junk, .junk, .junk, .junk, .junk, .junk, .junk, .junk, .junk, .junk, .junk, .junk, .junk, .junk, .junk, .junk, .junk, .junk, .junk, .junk, .junk, .junk, .junk, .junk, .junk, .junk, .junk, .junk, .junk, .junk, .junk, .junk, .junk, .junk, .junk, .junk, .junk, .junk, .junk, .junk, .junk, .junk, .junk, .junk, .junk, .junk, .junk, .junk, .junk, .junk, .junk, .junk, .junk, .junk, .junk, .junk, .junk, .junk, .junk, .junk, .junk, .junk, .junk, .junk, .junk, .junk, .junk, .junk, .junk, .junk, .junk, .junk, .junk, .junk, .junk, .junk, .junk, .junk, .junk, .junk, .junk, .junk, .junk, .junk, .junk, .junk, .junk, .junk, .junk, .junk, .junk, .junk, .junk, .junk, .junk, .junk, .junk, .junk, .junk, .junk, .junk, .junk, .junk, .junk, .junk, .junk, .junk, .junk, .junk, .junk, .junk, .junk, .junk, .junk, .junk, .junk, .junk, .junk, .junk, .junk, .junk, .junk, .junk, .junk, .junk, .junk, .junk, .junk, .junk, .junk, .junk, .junk, .junk, .junk, .junk, .junk, .junk, .junk, .junk, .junk, .junk, .junk, .junk, .junk, .junk, .junk, .junk, .junk, .junk, .junk, .junk]) [rowS T, X, rowAt x n 3 4, colB x L, knB K, rowAt x n 6 7, colB x M, knB H]
      (retQ Try.prog Try.f11 2 (bv true) [rowS T, X]) := by
  obtain ⟨I, hI⟩ : ∃ I, I = ordJ x n (rowS T) X L M K H := ⟨_, rfl⟩
  rcases hX with rfl | ⟨l, rfl⟩ <;> cases x <;>
  · refine evC_sound tabOk mixed _ _ _ _ ?_
    conv => whnf
    repeat (first | (refine ⟨(by kernel_rfl : chkR _ _ _ _ = true), ?_⟩; conv => whnf) | (refine EvOr.go ?_; conv => whnf))
    refine CodeT.loopN tabOk mixed I n _ (StW.ofP [0, 1, 2, 3, 4, 5, 6, 7] ?_ ?_ ?_) (fun k => by subst hI; rfl) ?_
    · subst hI; kernel_rfl
    · subst hI; rfl
    · subst hI; rfl
    intro k hkl
    subst hI
    show evC Try.prog tab _ _ (ordJ _ n (rowS T) _ L M K H k).1 (ordJ _ n (rowS T) _ L M K H k).2 _
    by_cases hk : k < n
    · obtain ⟨y, e, g1, g2⟩ := hg k hk
      unfold ordJ
      conv => whnf
      repeat (first | (refine ⟨(by kernel_rfl : chkR _ _ _ _ = true), ?_⟩; conv => whnf) | (refine EvOr.go ?_; conv => whnf))
      intro c hc
      obtain rfl : c = true := by rw [hc]; exact decide_eq_true (by omega)
      conv => whnf
      repeat (first | (refine ⟨(by kernel_rfl : chkR _ _ _ _ = true), ?_⟩; conv => whnf) | (refine EvOr.go ?_; conv => whnf))
      refine CallG.use g1 c57 [2, 3, 4] [] ?_ ?_ ?_ ?_ ?_ ?_; rfl; rfl; kernel_rfl; rfl; rfl
      conv => whnf
      repeat (first | (refine ⟨(by kernel_rfl : chkR _ _ _ _ = true), ?_⟩; conv => whnf) | (refine EvOr.go ?_; conv => whnf))
      refine CallG.use g2 c57 [5, 6, 7] [] ?_ ?_ ?_ ?_ ?_ ?_; rfl; rfl; kernel_rfl; rfl; rfl
      conv => whnf
      repeat (first | (refine ⟨(by kernel_rfl : chkR _ _ _ _ = true), ?_⟩; conv => whnf) | (refine EvOr.go ?_; conv => whnf))
      refine ⟨rfl, ?_⟩
      refine ⟨eq34, ?_⟩
      conv => whnf
      repeat (first | (refine ⟨(by kernel_rfl : chkR _ _ _ _ = true), ?_⟩; conv => whnf) | (refine EvOr.go ?_; conv => whnf))
      intro c hc
      obtain rfl : c = false := by
        cases c
        · rfl
        · exact absurd rfl (hc.1 rfl)
      conv => whnf
      repeat (first | (refine ⟨(by kernel_rfl : chkR _ _ _ _ = true), ?_⟩; conv => whnf) | (refine EvOr.go ?_; conv => whnf))
      conv => whnf
      repeat (first | (refine ⟨(by kernel_rfl : chkR _ _ _ _ = true), ?_⟩; conv => whnf) | (refine EvOr.go ?_; conv => whnf))
      intro c hc
      obtain rfl : c = false := by rw [hc]; simp
      conv => whnf
      repeat (first | (refine ⟨(by kernel_rfl : chkR _ _ _ _ = true), ?_⟩; conv => whnf) | (refine EvOr.go ?_; conv => whnf))
      refine ⟨_, inc_nat (by omega), ?_⟩
      conv => whnf
      repeat (first | (refine ⟨(by kernel_rfl : chkR _ _ _ _ = true), ?_⟩; conv => whnf) | (refine EvOr.go ?_; conv => whnf))
      refine ⟨by first | exact hk | omega, _, StW.ofP [0, 1, 2, 3, 4, 5, 6, 7] ?_ ?_ ?_⟩
      · kernel_rfl
      · rfl
      · rfl
    · obtain rfl : k = n := by omega
      unfold ordJ
      conv => whnf
      repeat (first | (refine ⟨(by kernel_rfl : chkR _ _ _ _ = true), ?_⟩; conv => whnf) | (refine EvOr.go ?_; conv => whnf))
      intro c hc
      obtain rfl : c = false := by rw [hc]; exact decide_eq_false (by omega)
      conv => whnf
      repeat (first | (refine ⟨(by kernel_rfl : chkR _ _ _ _ = true), ?_⟩; conv => whnf) | (refine EvOr.go ?_; conv => whnf))
      refine CallG.use works51 c51 [] [] ?_ ?_ ?_ ?_ ?_ ?_; rfl; rfl; kernel_rfl; rfl; rfl
      conv => whnf
      repeat (first | (refine ⟨(by kernel_rfl : chkR _ _ _ _ = true), ?_⟩; conv => whnf) | (refine EvOr.go ?_; conv => whnf))
      exact retQ.one rfl (.inr rfl) rfl (Nat.le_of_ble_eq_true rfl) rfl
theorem kz_pos {ks : List Nat} (h : 0 < ks.length) : 0 < (kz ks).length := by rw [kz_len]; exact h
theorem fixMid_len {Z : List (List Nat)} {m : Nat} {ks : List Nat} : (fixMid Z m ks).length = Z.length := by
  match ks with
  | [] => rfl
  | [i] =>
    simp only [fixMid]
    split
    · rw [List.length_set]
    · rfl
  | [i, j] =>
    simp only [fixMid]
    split
    · rw [List.length_set, List.length_set]
    · split
      · split <;> rw [List.length_set]
      · rfl
  | _ :: _ :: _ :: _ => rfl
theorem fixR_len {L : List (List Nat)} {m : Nat} {ks : List Nat} : (fixR L m ks).length = L.length := by
  unfold fixR fixEnd
  rw [foldl_len (fun _ _ => endOne_length), fixMid_len, zeroed_length]
theorem fixMid_secs {Z : List (List Nat)} {m : Nat} {ks : List Nat} (hZ : Secs Z) (hm : m + 2 ≤ Z.length) : Secs (fixMid Z m ks) := by
  have a := hZ.at (i := m) (by omega)
  have b := hZ.at (i := m + 1) (by omega)
  have c := psum_sec hZ m (by omega)
  have d := qsum_sec hZ m (by omega)
  match ks with
  | [] => exact hZ
  | [i] =>
    simp only [fixMid]
    split
    · exact set_secs hZ (xorL_sec a c)
    · exact hZ
  | [i, j] =>
    simp only [fixMid]
    split
    · exact set_secs (set_secs hZ (twoA_sec (xorL_sec a c) (xorL_sec b d))) (twoB_sec (xorL_sec a c) (xorL_sec b d))
    · split
      · split
        · exact set_secs hZ (mulL_sec (xorL_sec b d))
        · exact set_secs hZ (xorL_sec a c)
      · exact hZ
  | _ :: _ :: _ :: _ => exact hZ
theorem fixR_secs {L : List (List Nat)} {n : Nat} {ks : List Nat} (hL : Secs L) (hn : n - 2 + 2 ≤ L.length) : Secs (fixR L (n - 2) ks) := by
  have h1 := zeroed_secs (ks := ks) hL
  have h2 : Secs (fixMid (zeroed L ks) (n - 2) ks) := fixMid_secs h1 (by rw [zeroed_length]; exact hn)
  have hl : (fixMid (zeroed L ks) (n - 2) ks).length = L.length := by rw [fixMid_len, zeroed_length]
  unfold fixR fixEnd
  exact foldl_secs (fun _ _ h => endOne_secs (psum_sec h2 _ (by omega)) (qsum_sec h2 _ (by omega)) h) _ _ h2
/-- Both rows. -/
structure OS where
  lr : List (List Nat)
  kr : List Nat
  lq : List (List Nat)
  kq : List Nat
structure OInv (n : Nat) (σ : OS) (b : Nat) : Prop where
  l1 : σ.lr.length = n
  l2 : σ.kr.length = n
  l3 : σ.lq.length = n
  l4 : σ.kq.length = n
  s1 : Secs σ.lr
  s2 : Secs σ.lq
  bd : ∀ j, σ.kr.getD j 0 ≤ b ∧ σ.kq.getD j 0 ≤ b
  zr : ∀ j, j < n → (σ.kr.getD j 0 = 0 ↔ σ.kq.getD j 0 = 0)
  eq : ∀ j, j < n → σ.kr.getD j 0 ≠ 0 → σ.lr.getD j [] = σ.lq.getD j []
theorem ordM (n : Nat) (T : List (List Nat)) (X : Option ABlk) (hX : X = none ∨ ∃ l, X = rowA l) (h4 : 4 ≤ n) (h64 : n ≤ 64) (σ : OS) (b : Nat) (hσ : OInv n σ b) :
    CodeT Try.prog 2 (suf 8 (bodyC Try.f11)) ([.junk, .junk, .junk, .junk, .junk, iv (n : Nat), .sc (.ptr 2 0 2 0), .junk, .sc (.ptr 5 0 2 0), .junk, .junk, .junk, .junk, .junk, .junk, .junk, .junk, .junk, .junk, .junk, .junk, .junk, .junk, .junk, .junk, .junk, .junk, .junk, .junk, .junk, .junk, .junk, .junk, .junk, .junk, .junk, .junk, .junk, .junk, .junk, .junk, .junk, .junk, .junk, .junk, .junk, .junk, .junk, .junk, .junk, .junk, .junk, .junk, .junk, .junk, .junk, .junk, .junk, .junk, .junk, .junk, .junk, .junk, .junk, .junk, .junk, .junk, .junk, .junk, .junk, .junk, .junk, .junk, .junk, .junk, .junk, .junk, .junk, .junk, .junk, .junk, .junk, .junk, .junk, .junk, .junk, .junk, .junk, .junk, .junk, .junk, .junk, .junk, .junk, .junk, .junk, .junk, .junk, .junk, .junk, .junk, .junk, .junk, .junk, .junk, .junk, .junk, .junk, .junk, .junk, .junk, .junk, .junk, .junk, .junk, .junk, .junk, .junk, .junk, .junk, .junk, .junk, .junk, .junk, .junk, .junk, .junk, .junk, .junk, .junk, .junk, .junk, .junk, .junk, .junk, .junk, .junk, .junk, .junk, .junk, .junk, .junk, .junk, .junk, .junk, .junk, .junk, .junk, .junk, .junk, .junk, .junk, .junk, .junk, .junk, .junk, .junk, .junk, .junk, .junk, .junk, .junk, .junk, .junk, .junk, .junk, .junk, .junk, .junk, .junk, .junk, .junk, .junk, .junk, .junk, .junk, .junk, .junk, .junk, .junk, .junk]) [rowS T, X, rowAt false n 3 4, colB false σ.lr, knB σ.kr, rowAt false n 6 7, colB false σ.lq, knB σ.kq]
      (retQ Try.prog Try.f11 2 (bv true) [rowS T, X]) := by
  have hks : lostN n σ.kr = lostN n σ.kq := lostN_ext hσ.zr
  obtain ⟨L, K, M, H⟩ := σ
  obtain ⟨l1, l2, l3, l4, s1, s2, bd, zr, eq⟩ := hσ
  simp only at l1 l2 l3 l4 s1 s2 bd zr eq hks ⊢
  by_cases h3 : 2 < (lostN n K).length
  · have m1 := mend_full false n L K h4 h64 l1 l2 s1 h3
    have m2 := mend_full false n M H h4 h64 l3 l4 s2 (by rw [← hks]; exact h3)
    have r1 := rright_ok false n L K (by omega) h64 l1 l2 s1
    have r2 := rright_ok false n M H (by omega) h64 l3 l4 s2
    have ne : ∀ Z : List Nat, lostN n Z = lostN n K → lostL n Z ≠ [] := fun Z hZ e => by
      rw [lost_kz, kz_nil, hZ] at e
      rw [e] at h3
      exact absurd h3 (by decide)
    rw [decide_eq_false (ne K rfl), Bool.false_and] at r1
    rw [decide_eq_false (ne H hks.symm), Bool.false_and] at r2
    have gE := ordE false n T X hX L M K H (by omega) (fun j hj => by
      have e1 := get_in false n L K j hj l1 l2
      have e2 := get_in false n M H j hj l3 l4
      refine ⟨_, _, e1, ?_⟩
      have q1 : getS M H j = getS L K j := by
        unfold getS
        by_cases h : K.getD j 0 = 0
        · rw [if_pos h, if_pos ((zr j hj).1 h)]
        · rw [if_neg h, if_neg (fun e => h ((zr j hj).2 e)), eq j hj h]
      have q2 : getE H j = getE K j := by
        unfold getE
        by_cases h : K.getD j 0 = 0
        · rw [if_pos h, if_pos ((zr j hj).1 h)]
        · rw [if_neg h, if_neg (fun e => h ((zr j hj).2 e))]
      rw [q1, q2] at e2
      exact e2)
    rcases hX with rfl | ⟨l, rfl⟩ <;>
    · refine evC_sound tabOk mixed _ _ _ _ ?_
      conv => whnf
      repeat (first | (refine ⟨(by kernel_rfl : chkR _ _ _ _ = true), ?_⟩; conv => whnf) | (refine EvOr.go ?_; conv => whnf))
      refine CallG.use m1 c55 [2, 3, 4] [] ?_ ?_ ?_ ?_ ?_ ?_; rfl; rfl; kernel_rfl; rfl; rfl
      conv => whnf
      repeat (first | (refine ⟨(by kernel_rfl : chkR _ _ _ _ = true), ?_⟩; conv => whnf) | (refine EvOr.go ?_; conv => whnf))
      refine CallG.use m2 c55 [5, 6, 7] [] ?_ ?_ ?_ ?_ ?_ ?_; rfl; rfl; kernel_rfl; rfl; rfl
      conv => whnf
      repeat (first | (refine ⟨(by kernel_rfl : chkR _ _ _ _ = true), ?_⟩; conv => whnf) | (refine EvOr.go ?_; conv => whnf))
      intro c hc
      obtain rfl : c = false := by rw [hc]; rfl
      conv => whnf
      repeat (first | (refine ⟨(by kernel_rfl : chkR _ _ _ _ = true), ?_⟩; conv => whnf) | (refine EvOr.go ?_; conv => whnf))
      intro c hc
      obtain rfl : c = false := by rw [hc]; rfl
      conv => whnf
      repeat (first | (refine ⟨(by kernel_rfl : chkR _ _ _ _ = true), ?_⟩; conv => whnf) | (refine EvOr.go ?_; conv => whnf))
      refine CallG.use r1 c56 [2, 3, 4] [] ?_ ?_ ?_ ?_ ?_ ?_; rfl; rfl; kernel_rfl; rfl; rfl
      conv => whnf
      repeat (first | (refine ⟨(by kernel_rfl : chkR _ _ _ _ = true), ?_⟩; conv => whnf) | (refine EvOr.go ?_; conv => whnf))
      refine CallG.use r2 c56 [5, 6, 7] [] ?_ ?_ ?_ ?_ ?_ ?_; rfl; rfl; kernel_rfl; rfl; rfl
      conv => whnf
      repeat (refine ⟨(by kernel_rfl : chkR _ _ _ _ = true), ?_⟩; conv => whnf)
      refine EvOr.go ?_
      conv => whnf
      refine EvOr.cut (CodeT.weaken _ (StW.ofP [0, 1, 2, 3, 4, 5, 6, 7] ?_ ?_ ?_) gE)
      · kernel_rfl
      · rfl
      · rfl
  · have m1 := mend_ok false n L K h4 h64 l1 l2 s1 (by omega)
    have m2 := mend_ok false n M H h4 h64 l3 l4 s2 (by rw [← hks]; omega)
    have fs : fixR M (n - 2) (lostN n H) = fixR L (n - 2) (lostN n K) := by rw [← hks]; exact (fix_same l1 l3 eq).symm
    rw [fs] at m2
    have e1 := setK_lost l2
    have e2 := setK_lost l4
    have z1 := fun j (hj : j < n) => setK_some l2 hj
    have z2 := fun j (hj : j < n) => setK_some l4 hj
    have y1 : (setK K (lostN n K)).length = n := by rw [setK_len, l2]
    have y2 : (setK H (lostN n H)).length = n := by rw [setK_len, l4]
    rw [← hks] at m2 e2 z2 y2
    have sR : Secs (fixR L (n - 2) (lostN n K)) := fixR_secs s1 (by omega)
    have lR : (fixR L (n - 2) (lostN n K)).length = n := by rw [fixR_len, l1]
    generalize fixR L (n - 2) (lostN n K) = R at *
    generalize lostN n K = ks at *
    generalize setK K ks = K5 at *
    generalize setK H ks = H5 at *
    have r1 := rright_ok true n R K5 (by omega) h64 lR y1 sR
    have r2 := rright_ok true n R H5 (by omega) h64 lR y2 sR
    rw [lost_kz, e1] at r1
    rw [lost_kz, e2] at r2
    have r1 : FunT Try.prog 56 [rpV] (rw3 true n R K5) (bv (rightB R)) (rw3 true n R K5) := r1
    have r2 : FunT Try.prog 56 [rpV] (rw3 true n R H5) (bv (rightB R)) (rw3 true n R H5) := r2
    have gE := ordE true n T X hX R R K5 H5 (by omega) (fun j hj => by
      have g1 := get_in true n R K5 j hj lR y1
      have g2 := get_in true n R H5 j hj lR y2
      unfold getS getE at g1 g2
      rw [if_neg (z1 j hj), if_neg (z1 j hj)] at g1
      rw [if_neg (z2 j hj), if_neg (z2 j hj)] at g2
      exact ⟨_, _, g1, g2⟩)
    generalize rightB R = b at *
    by_cases h0 : ks = []
    · subst h0
      rcases hX with rfl | ⟨l, rfl⟩ <;>
      · refine evC_sound tabOk mixed _ _ _ _ ?_
        conv => whnf
        repeat (first | (refine ⟨(by kernel_rfl : chkR _ _ _ _ = true), ?_⟩; conv => whnf) | (refine EvOr.go ?_; conv => whnf))
        refine CallG.use m1 c55 [2, 3, 4] [0, 2] ?_ ?_ ?_ ?_ ?_ ?_; rfl; rfl; kernel_rfl; rfl; rfl
        conv => whnf
        repeat (first | (refine ⟨(by kernel_rfl : chkR _ _ _ _ = true), ?_⟩; conv => whnf) | (refine EvOr.go ?_; conv => whnf))
        refine CallG.use m2 c55 [5, 6, 7] [0, 2] ?_ ?_ ?_ ?_ ?_ ?_; rfl; rfl; kernel_rfl; rfl; rfl
        conv => whnf
        repeat (first | (refine ⟨(by kernel_rfl : chkR _ _ _ _ = true), ?_⟩; conv => whnf) | (refine EvOr.go ?_; conv => whnf))
        intro c hc
        obtain rfl : c = false := by rw [hc]; rfl
        conv => whnf
        repeat (first | (refine ⟨(by kernel_rfl : chkR _ _ _ _ = true), ?_⟩; conv => whnf) | (refine EvOr.go ?_; conv => whnf))
        intro c hc
        obtain rfl : c = false := by rw [hc]; rfl
        conv => whnf
        repeat (first | (refine ⟨(by kernel_rfl : chkR _ _ _ _ = true), ?_⟩; conv => whnf) | (refine EvOr.go ?_; conv => whnf))
        refine CallG.use r1 c56 [2, 8, 4] [] ?_ ?_ ?_ ?_ ?_ ?_; rfl; rfl; kernel_rfl; rfl; rfl
        conv => whnf
        repeat (first | (refine ⟨(by kernel_rfl : chkR _ _ _ _ = true), ?_⟩; conv => whnf) | (refine EvOr.go ?_; conv => whnf))
        refine CallG.use r2 c56 [5, 10, 7] [] ?_ ?_ ?_ ?_ ?_ ?_; rfl; rfl; kernel_rfl; rfl; rfl
        conv => whnf
        repeat (refine ⟨(by kernel_rfl : chkR _ _ _ _ = true), ?_⟩; conv => whnf)
        refine EvOr.go ?_
        conv => whnf
        rw [show (b != b) = false by simp]
        conv => whnf
        refine EvOr.cut (CodeT.weaken _ (StW.ofP [0, 1, 2, 8, 4, 5, 10, 7] ?_ ?_ ?_) gE)
        · kernel_rfl
        · rfl
        · rfl
    · have hpos := List.length_pos_iff.2 h0
      obtain ⟨q1, q2⟩ := nr_row 4 (T := kz ks) (kz_pos hpos)
      rw [q1, q2, kz_len] at m1 m2
      rcases hX with rfl | ⟨l, rfl⟩ <;>
      · refine evC_sound tabOk mixed _ _ _ _ ?_
        conv => whnf
        repeat (first | (refine ⟨(by kernel_rfl : chkR _ _ _ _ = true), ?_⟩; conv => whnf) | (refine EvOr.go ?_; conv => whnf))
        refine CallG.use m1 c55 [2, 3, 4] [0, 2] ?_ ?_ ?_ ?_ ?_ ?_; rfl; rfl; kernel_rfl; rfl; rfl
        conv => whnf
        repeat (first | (refine ⟨(by kernel_rfl : chkR _ _ _ _ = true), ?_⟩; conv => whnf) | (refine EvOr.go ?_; conv => whnf))
        refine CallG.use m2 c55 [5, 6, 7] [0, 2] ?_ ?_ ?_ ?_ ?_ ?_; rfl; rfl; kernel_rfl; rfl; rfl
        conv => whnf
        repeat (first | (refine ⟨(by kernel_rfl : chkR _ _ _ _ = true), ?_⟩; conv => whnf) | (refine EvOr.go ?_; conv => whnf))
        intro c hc
        obtain rfl : c = false := by rw [hc]; rfl
        conv => whnf
        repeat (first | (refine ⟨(by kernel_rfl : chkR _ _ _ _ = true), ?_⟩; conv => whnf) | (refine EvOr.go ?_; conv => whnf))
        intro c hc
        obtain rfl : c = false := by rw [hc]; simp
        conv => whnf
        repeat (first | (refine ⟨(by kernel_rfl : chkR _ _ _ _ = true), ?_⟩; conv => whnf) | (refine EvOr.go ?_; conv => whnf))
        refine CallG.use r1 c56 [2, 8, 4] [] ?_ ?_ ?_ ?_ ?_ ?_; rfl; rfl; kernel_rfl; rfl; rfl
        conv => whnf
        repeat (first | (refine ⟨(by kernel_rfl : chkR _ _ _ _ = true), ?_⟩; conv => whnf) | (refine EvOr.go ?_; conv => whnf))
        refine CallG.use r2 c56 [5, 10, 7] [] ?_ ?_ ?_ ?_ ?_ ?_; rfl; rfl; kernel_rfl; rfl; rfl
        conv => whnf
        repeat (refine ⟨(by kernel_rfl : chkR _ _ _ _ = true), ?_⟩; conv => whnf)
        refine EvOr.go ?_
        conv => whnf
        rw [show (b != b) = false by simp]
        conv => whnf
        refine EvOr.cut (CodeT.weaken _ (StW.ofP [0, 1, 2, 8, 4, 5, 10, 7] ?_ ?_ ?_) gE)
        · kernel_rfl
        · rfl
        · rfl
end Go.Proofs.Ytdmcbfmpnakdfaa.Eng.St
