/- The document's Fix, walked from its end. -/
import Derived.Test.YtdmcbfmpnakdfaaQs
namespace Go.Proofs.Ytdmcbfmpnakdfaa.Eng
open Go Go.Proofs Go.Proofs.Ytdmcbfmpnakdfaa.Gf
set_option maxRecDepth 20000
set_option maxHeartbeats 4000000
theorem getD_set_ne {R : List (List Nat)} {i j : Nat} {d : List Nat} (h : i ≠ j) : (R.set i d).getD j [] = R.getD j [] := by
  rw [List.getD_eq_getElem?_getD, List.getElem?_set_ne h, ← List.getD_eq_getElem?_getD]
theorem getD_set_eq {R : List (List Nat)} {i : Nat} {d : List Nat} (h : i < R.length) : (R.set i d).getD i [] = d := by
  rw [List.getD_eq_getElem?_getD, List.getElem?_set_self h]; rfl
theorem psum_ext {L M : List (List Nat)} : ∀ n, (∀ i, i < n → L.getD i [] = M.getD i []) → psum L n = psum M n
  | 0, _ => rfl
  | n + 1, h => by
    show xorL (psum L n) (L.getD n []) = xorL (psum M n) (M.getD n [])
    rw [psum_ext n (fun i hi => h i (by omega)), h n (by omega)]
theorem qsum_ext {L M : List (List Nat)} : ∀ n, (∀ i, i < n → L.getD i [] = M.getD i []) → qsum L n = qsum M n
  | 0, _ => rfl
  | n + 1, h => by
    show xorL (qsum L n) (mulL (L.getD n []) (pwZ (n : Int))) = xorL (qsum M n) (mulL (M.getD n []) (pwZ (n : Int)))
    rw [qsum_ext n (fun i hi => h i (by omega)), h n (by omega)]
theorem psum_set {L : List (List Nat)} {n i : Nat} {d : List Nat} (h : n ≤ i) : psum (L.set i d) n = psum L n := psum_ext n fun j hj => getD_set_ne (by omega)
theorem qsum_set {L : List (List Nat)} {n i : Nat} {d : List Nat} (h : n ≤ i) : qsum (L.set i d) n = qsum L n := qsum_ext n fun j hj => getD_set_ne (by omega)
theorem endOne_low {m : Nat} {P Q : List Nat} {S : List (List Nat)} {i j : Nat} (h : j < m) : (endOne m P Q S i).getD j [] = S.getD j [] := by
  unfold endOne
  split
  · exact getD_set_ne (by omega)
  · split
    · exact getD_set_ne (by omega)
    · rfl
theorem ends_low {m : Nat} {P Q : List Nat} {j : Nat} (h : j < m) : ∀ (ks : List Nat) (S : List (List Nat)), (ks.foldl (endOne m P Q) S).getD j [] = S.getD j []
  | [], _ => rfl
  | i :: ks, S => by rw [List.foldl_cons, ends_low h ks, endOne_low h]
theorem set_row {T : List (List Nat)} {i : Nat} {S S' : List Nat} : (T.set i S').map secS = ((T.set i S).map secS).set (0 + (i : Int).toNat) (secS S') := by
  rw [Nat.zero_add, Int.toNat_natCast, ← List.map_set, List.set_set]
theorem set_row1 {T : List (List Nat)} {i : Nat} {S S' : List Nat} : (T.set (i + 1) S').map secS = ((T.set (i + 1) S).map secS).set (0 + ((i + 1 : Nat) : Int).toNat) (secS S') := set_row
theorem set_self' {T : List (List Nat)} {i : Nat} (h : i < T.length) : T.set i (T.getD i []) = T := by
  rw [List.getD_eq_getElem?_getD, List.getElem?_eq_getElem h]
  exact List.set_getElem_self h
theorem mix_sec {r a : List Nat} {k : Nat} (hr : Sec r) (ha : Sec a) (hk : k ≤ 64) : Sec (mix r a k) :=
  ⟨mix_length hr.len ha.len hk, fun x hx => by
    rcases List.mem_append.1 hx with h | h
    · exact hr.2 x (List.mem_of_mem_take h)
    · exact ha.2 x (List.mem_of_mem_drop h)⟩
abbrev reH (L R : List (List Nat)) (X : Option ABlk) (l : List Int) : LHp := [rowS L, X, rowI l, rowX R]
def reI (L R : List (List Nat)) (X : Option ABlk) (m : Nat) (ks : List Nat) (P Q : List Nat) (k : Nat) : LTm × LHp :=
  ([.junk, .junk, .junk, .junk, .junk, .junk, iv (m : Nat), .sc (.sl 2 0 1 ks.length none), .sc (.sl 3 0 64 (m + 2) none), .junk, .junk, .junk, .junk, .junk, .junk, .junk, .junk, iv (k : Nat), .junk, .junk, .junk, .junk, .junk, .junk, .junk, .junk, .junk, .junk, .junk, .junk, .junk, .junk, .junk, .junk, .junk, .junk, .junk, .junk, .junk, .junk, .junk, .junk, .junk, .junk, .junk, .junk, .junk, .junk, .junk, .junk, .junk, .junk, .junk, .junk, .junk, .junk, .junk, .junk, .junk, .junk, .junk, .junk, .junk, .junk, .junk, .junk, .junk, .junk, .junk, .junk, .junk, .junk, .junk, .junk, .junk, .junk, .junk, .junk, .junk, .junk, .junk, .junk, .junk, .junk, .junk, .junk, .junk, .junk, .junk, .junk, .junk, .junk, .junk, .junk, .junk, .junk, .junk, .junk, .junk, .junk, .junk, .junk, .junk, .junk, .junk, .junk, .junk, .junk, .junk, .junk, .junk, .junk, .junk, .junk, .junk, .junk, .junk, .junk, .junk, .junk, .junk, .junk, .junk, .junk, .junk, .junk, .junk, .junk, .junk, .junk, .junk, .junk, .junk, .junk, .junk, .junk, .junk, .junk, .junk, .junk, .junk, .junk, .junk, .junk, .junk, .junk, .junk, .junk, .junk, .junk, .junk, .junk, .junk, .junk, .junk, .junk, .junk, .junk, .junk, .junk, .junk, .junk, .junk, .junk, .junk, .junk, .junk, .junk, .junk, .junk, .junk, .junk, .junk, .junk, .junk, .junk, .junk, .junk, .junk, .junk, .junk, .junk, .junk, .junk, .junk, .junk, .junk, .junk, .junk, .junk, .junk, .junk, .junk, .junk, .junk, .junk, .junk, .junk, .junk, .junk, .junk, .junk, .junk, .junk, .junk, .junk, .junk, .junk, .junk, .junk, .junk, .junk, .junk, .junk, .junk, .junk, .junk, .junk, .junk, .junk, .junk, .junk, .junk, .junk, .junk], reH L ((ks.take k).foldl (endOne m P Q) R) X (kz ks))
def reJ (L : List (List Nat)) (X : Option ABlk) (m : Nat) (ks : List Nat) (a : Nat) (Tk : Nat → List (List Nat)) (k : Nat) : LTm × LHp :=
  ([.junk, .junk, .junk, .junk, .junk, .junk, iv (m : Nat), .sc (.sl 2 0 1 ks.length none), .sc (.sl 3 0 64 (m + 2) none), .junk, .junk, .junk, .junk, .junk, .junk, .junk, .junk, iv (a : Nat), iv (k : Nat), .junk, .junk, .junk, .junk, .junk, .junk, .junk, .junk, .junk, .junk, .junk, .junk, .junk, .junk, .junk, .junk, .junk, .junk, .junk, .junk, .junk, .junk, .junk, .junk, .junk, .junk, .junk, .junk, .junk, .junk, .junk, .junk, .junk, .junk, .junk, .junk, .junk, .junk, .junk, .junk, .junk, .junk, .junk, .junk, .junk, .junk, .junk, .junk, .junk, .junk, .junk, .junk, .junk, .junk, .junk, .junk, .junk, .junk, .junk, .junk, .junk, .junk, .junk, .junk, .junk, .junk, .junk, .junk, .junk, .junk, .junk, .junk, .junk, .junk, .junk, .junk, .junk, .junk, .junk, .junk, .junk, .junk, .junk, .junk, .junk, .junk, .junk, .junk, .junk, .junk, .junk, .junk, .junk, .junk, .junk, .junk, .junk, .junk, .junk, .junk, .junk, .junk, .junk, .junk, .junk, .junk, .junk, .junk, .junk, .junk, .junk, .junk, .junk, .junk, .junk, .junk, .junk, .junk, .junk, .junk, .junk, .junk, .junk, .junk, .junk, .junk, .junk, .junk, .junk, .junk, .junk, .junk, .junk, .junk, .junk, .junk, .junk, .junk, .junk, .junk, .junk, .junk, .junk, .junk, .junk, .junk, .junk, .junk, .junk, .junk, .junk, .junk, .junk, .junk, .junk, .junk, .junk, .junk, .junk, .junk, .junk, .junk, .junk, .junk, .junk, .junk, .junk, .junk, .junk, .junk, .junk, .junk, .junk, .junk, .junk, .junk, .junk, .junk, .junk, .junk, .junk, .junk, .junk, .junk, .junk, .junk, .junk, .junk, .junk, .junk, .junk, .junk, .junk, .junk, .junk, .junk, .junk, .junk, .junk, .junk, .junk, .junk, .junk, .junk, .junk, .junk], reH L (Tk k) X (kz ks))
theorem refE (L R : List (List Nat)) (X : Option ABlk) (m : Nat) (ks : List Nat) (hX : X = none ∨ ∃ zs, X = rowRI zs) (hks : ∀ k ∈ ks, k < m + 2) (h0 : 0 < ks.length) (hl : ks.length ≤ 2) (hR : R.length = m + 2) (hS : Secs R) (hm : m ≤ 62) :
    CodeT Try.prog 2 (suf 12 (bodyC Try.f18)) ([.junk, .junk, .junk, .junk, .junk, .junk, iv (m : Nat), .sc (.sl 2 0 1 ks.length none), .sc (.sl 3 0 64 (m + 2) none), .junk, .junk, .junk, .junk, .junk, .junk, .junk, .junk, .junk, .junk, .junk, .junk, .junk, .junk, .junk, .junk, .junk, .junk, .junk, .junk, .junk, .junk, .junk, .junk, .junk, .junk, .junk, .junk, .junk, .junk, .junk, .junk, .junk, .junk, .junk, .junk, .junk, .junk, .junk, .junk, .junk, .junk, .junk, .junk, .junk, .junk, .junk, .junk, .junk, .junk, .junk, .junk, .junk, .junk, .junk, .junk, .junk, .junk, .junk, .junk, .junk, .junk, .junk, .junk, .junk, .junk, .junk, .junk, .junk, .junk, .junk, .junk, .junk, .junk, .junk, .junk, .junk, .junk, .junk, .junk, .junk, .junk, .junk, .junk, .junk, .junk, .junk, .junk, .junk, .junk, .junk, .junk, .junk, .junk, .junk, .junk, .junk, .junk, .junk, .junk, .junk, .junk, .junk, .junk, .junk, .junk, .junk, .junk, .junk, .junk, .junk, .junk, .junk, .junk, .junk, .junk, .junk, .junk, .junk, .junk, .junk, .junk, .junk, .junk, .junk, .junk, .junk, .junk, .junk, .junk, .junk, .junk, .junk, .junk, .junk, .junk, .junk, .junk, .junk, .junk, .junk, .junk, .junk, .junk, .junk, .junk, .junk, .junk, .junk, .junk, .junk, .junk, .junk, .junk, .junk, .junk, .junk, .junk, .junk, .junk, .junk, .junk, .junk, .junk, .junk, .junk, .junk, .junk, .junk, .junk, .junk, .junk, .junk, .junk, .junk, .junk, .junk, .junk, .junk, .junk, .junk, .junk, .junk, .junk, .junk, .junk, .junk, .junk, .junk, .junk, .junk, .junk, .junk, .junk, .junk, .junk, .junk, .junk, .junk, .junk, .junk, .junk, .junk, .junk, .junk, .junk, .junk, .junk, .junk, .junk, .junk, .junk, .junk, .junk, .junk, .junk]) (reH L R X (kz ks))
      (retQ Try.prog Try.f18 2 (.tup [.sc (.sl 2 0 64 (m + 2) none), iv 0]) [rowS L, X, rowX (fixEnd R m ks)]) := by
  unfold fixEnd
  obtain ⟨P, hP⟩ : ∃ P, P = psum R m := ⟨_, rfl⟩
  obtain ⟨Q, hQ⟩ : ∃ Q, Q = qsum R m := ⟨_, rfl⟩
  have sP : Sec P := hP ▸ psum_sec hS m (by omega)
  have sQ : Sec Q := hQ ▸ qsum_sec hS m (by omega)
  rw [← hP, ← hQ]
  have hmi : arithI .add .i64 (m : Nat) 1 = some ((m + 1 : Nat) : Int) := inc_nat (by omega)
  obtain ⟨I, hI⟩ : ∃ I, I = reI L R X m ks P Q := ⟨_, rfl⟩
  obtain ⟨J2, hJ2⟩ : ∃ J2, J2 = reJ L X m ks := ⟨_, rfl⟩
  rcases hX with rfl | ⟨zs, rfl⟩ <;>
  · refine evC_sound tabOk mixed _ _ _ _ ?_
    conv => whnf
    repeat (first | (refine ⟨(by kernel_rfl : chkR _ _ _ _ = true), ?_⟩; conv => whnf) | (refine EvOr.go ?_; conv => whnf))
    refine CodeT.loopN tabOk mixed I ks.length _ (StW.ofP [0, 1, 2, 3] ?_ ?_ ?_) (fun k => by subst hI; rfl) ?_
    · subst hI; kernel_rfl
    · subst hI; rfl
    · subst hI; rfl
    intro a hal
    subst hI
    have hTl : ((ks.take a).foldl (endOne m P Q) R).length = m + 2 := by rw [foldl_len (fun _ _ => endOne_length), hR]
    have hTS : Secs ((ks.take a).foldl (endOne m P Q) R) := foldl_secs (fun _ _ h => endOne_secs sP sQ h) _ _ hS
    have hTP : psum ((ks.take a).foldl (endOne m P Q) R) m = P := by rw [hP]; exact psum_ext m fun j hj => ends_low hj _ _
    have hTQ : qsum ((ks.take a).foldl (endOne m P Q) R) m = Q := by rw [hQ]; exact qsum_ext m fun j hj => ends_low hj _ _
    show evC Try.prog tab _ _ (reI L R _ m ks P Q a).1 (reH L ((ks.take a).foldl (endOne m P Q) R) _ (kz ks)) _
    by_cases ha : a < ks.length
    · have hs := take_succ_foldl (f := endOne m P Q) (S := R) ha
      have hkm := hks ks[a] (List.getElem_mem _)
      have hg : ((kz ks).map intS)[0 + (a : Int).toNat]? = some (intS (ks[a] : Nat)) := by
        have := kz_get (J := []) ha
        rwa [List.append_nil] at this
      generalize (ks.take a).foldl (endOne m P Q) R = T at *
      generalize ks[a] = i at *
      by_cases him : i = m
      · have hT' := hs.trans (endOne_p him)
        rw [him] at hT'
        obtain ⟨D, hD⟩ : ∃ D, D = T.getD m [] := ⟨_, rfl⟩
        have sD : Sec D := hD ▸ hTS.at (by omega)
        obtain ⟨I2, hI2⟩ : ∃ I2, I2 = J2 a (fun k => T.set m (mix P D k)) := ⟨_, rfl⟩
        have e0 : T.set m (mix P D 0) = T := by rw [mix_zero, hD]; exact set_self' (by omega)
        have e64 : T.set m (mix P D 64) = T.set m P := by rw [mix_full sP.len sD.len]
        conv => whnf
        repeat (first | (refine ⟨(by kernel_rfl : chkR _ _ _ _ = true), ?_⟩; conv => whnf) | (refine EvOr.go ?_; conv => whnf))
        intro c hc
        obtain rfl : c = true := by rw [hc]; exact decide_eq_true (by omega)
        conv => whnf
        repeat (first | (refine ⟨(by kernel_rfl : chkR _ _ _ _ = true), ?_⟩; conv => whnf) | (refine EvOr.go ?_; conv => whnf))
        refine CodeT.loopN tabOk mixed I2 64 _ (StW.ofP [0, 1, 2, 3] ?_ ?_ ?_) (fun k => by subst hI2 hJ2; rfl) ?_
        · subst hI2 hJ2; simp only [reJ, e0]; kernel_rfl
        · subst hI2 hJ2; rfl
        · subst hI2 hJ2; simp only [reJ, e0]; rfl
        intro k hkl
        subst hI2 hJ2
        show evC Try.prog tab _ _ (reJ L _ m ks a (fun k => T.set m (mix P D k)) k).1 (reH L (T.set m (mix P D k)) _ (kz ks)) _
        by_cases hk : k < 64
        · have hmx := mix_set sP.len sD.len hk
          have hml := mix_length sP.len sD.len hkl
          have sM := mix_sec sP sD hkl
          have gP := refP_ok (T.set m (mix P D k)) m none k (set_secs hTS sM) (by simp; omega) (by omega) hk
          rw [psum_set (by omega), hTP] at gP
          have hst : (T.set m (mix P D (k + 1))).map secS = ((T.set m (mix P D k)).map secS).set (0 + (m : Int).toNat) (secS ((mix P D k).set k (P.getD k 0))) := by rw [hmx]; exact set_row
          have hrow := row_at (S := T.set m (mix P D k)) (k := m) (by simp; omega)
          rw [getD_set_eq (by omega)] at hrow
          have hz2 : ((T.set m (mix P D k)).map secS).length = m + 2 := by simp; omega
          have hP8 := sP.get k
          clear hmx
          generalize mix P D k = S at *
          conv => whnf
          repeat (first | (refine ⟨(by kernel_rfl : chkR _ _ _ _ = true), ?_⟩; conv => whnf) | (refine EvOr.go ?_; conv => whnf))
          intro c hc
          obtain rfl : c = true := by rw [hc]; exact decide_eq_true (by omega)
          conv => whnf
          repeat (first | (refine ⟨(by kernel_rfl : chkR _ _ _ _ = true), ?_⟩; conv => whnf) | (refine EvOr.go ?_; conv => whnf))
          refine ⟨⟨by omega, by omega⟩, ?_⟩
          conv => whnf
          repeat (first | (refine ⟨(by kernel_rfl : chkR _ _ _ _ = true), ?_⟩; conv => whnf) | (refine EvOr.go ?_; conv => whnf))
          refine ⟨_, hg, ?_⟩
          conv => whnf
          repeat (first | (refine ⟨(by kernel_rfl : chkR _ _ _ _ = true), ?_⟩; conv => whnf) | (refine EvOr.go ?_; conv => whnf))
          intro c hc
          obtain rfl : c = true := by rw [hc]; simp <;> omega
          conv => whnf
          repeat (first | (refine ⟨(by kernel_rfl : chkR _ _ _ _ = true), ?_⟩; conv => whnf) | (refine EvOr.go ?_; conv => whnf))
          refine ⟨⟨by decide, by omega, by show (m : Int) ≤ ((m + 2 : Nat) : Int); omega, fun _ => ⟨_, _, _, _, _, rfl, by rw [hz2]; omega⟩⟩, fun _ => ?_, fun _ h => absurd h (by decide)⟩
          conv => whnf
          repeat (first | (refine ⟨(by kernel_rfl : chkR _ _ _ _ = true), ?_⟩; conv => whnf) | (refine EvOr.go ?_; conv => whnf))
          refine CallG.use gP c82 [3] [] ?_ ?_ ?_ ?_ ?_ ?_; rfl; rfl; kernel_rfl; rfl; rfl
          conv => whnf
          repeat (first | (refine ⟨(by kernel_rfl : chkR _ _ _ _ = true), ?_⟩; conv => whnf) | (refine EvOr.go ?_; conv => whnf))
          refine ⟨⟨by omega, by show (m : Int) < ((m + 2 : Nat) : Int); omega⟩, ?_⟩
          conv => whnf
          repeat (first | (refine ⟨(by kernel_rfl : chkR _ _ _ _ = true), ?_⟩; conv => whnf) | (refine EvOr.go ?_; conv => whnf))
          refine ⟨⟨by omega, by show (k : Int) < 64; omega⟩, ?_⟩
          conv => whnf
          repeat (first | (refine ⟨(by kernel_rfl : chkR _ _ _ _ = true), ?_⟩; conv => whnf) | (refine EvOr.go ?_; conv => whnf))
          refine ⟨_, hrow, ⟨by show k < 64; omega, by omega, by omega, rfl⟩, ?_⟩
          conv => whnf
          repeat (first | (refine ⟨(by kernel_rfl : chkR _ _ _ _ = true), ?_⟩; conv => whnf) | (refine EvOr.go ?_; conv => whnf))
          refine ⟨⟨by omega, by omega⟩, ?_⟩
          conv => whnf
          repeat (first | (refine ⟨(by kernel_rfl : chkR _ _ _ _ = true), ?_⟩; conv => whnf) | (refine EvOr.go ?_; conv => whnf))
          refine ⟨_, hg, ?_⟩
          conv => whnf
          repeat (first | (refine ⟨(by kernel_rfl : chkR _ _ _ _ = true), ?_⟩; conv => whnf) | (refine EvOr.go ?_; conv => whnf))
          refine ⟨_, hmi, ?_⟩
          conv => whnf
          repeat (first | (refine ⟨(by kernel_rfl : chkR _ _ _ _ = true), ?_⟩; conv => whnf) | (refine EvOr.go ?_; conv => whnf))
          intro c hc
          obtain rfl : c = false := by rw [hc]; simp <;> omega
          conv => whnf
          repeat (first | (refine ⟨(by kernel_rfl : chkR _ _ _ _ = true), ?_⟩; conv => whnf) | (refine EvOr.go ?_; conv => whnf))
          refine ⟨_, inc_nat (by omega), ?_⟩
          conv => whnf
          repeat (first | (refine ⟨(by kernel_rfl : chkR _ _ _ _ = true), ?_⟩; conv => whnf) | (refine EvOr.go ?_; conv => whnf))
          refine ⟨by omega, _, StW.ofP [0, 1, 2, 3] ?_ ?_ ?_⟩
          · kernel_rfl
          · rfl
          · simp only [reJ, reH, rowX, hst]; rfl
        · obtain rfl : k = 64 := by omega
          rw [e64]
          conv => whnf
          repeat (first | (refine ⟨(by kernel_rfl : chkR _ _ _ _ = true), ?_⟩; conv => whnf) | (refine EvOr.go ?_; conv => whnf))
          intro c hc
          obtain rfl : c = false := by rw [hc]; rfl
          conv => whnf
          repeat (first | (refine ⟨(by kernel_rfl : chkR _ _ _ _ = true), ?_⟩; conv => whnf) | (refine EvOr.go ?_; conv => whnf))
          refine ⟨_, inc_nat (by omega), ?_⟩
          conv => whnf
          repeat (first | (refine ⟨(by kernel_rfl : chkR _ _ _ _ = true), ?_⟩; conv => whnf) | (refine EvOr.go ?_; conv => whnf))
          refine ⟨by omega, _, StW.ofP [0, 1, 2, 3] ?_ ?_ ?_⟩
          · kernel_rfl
          · rfl
          · simp only [reI, reH, rowX, hT']; rfl
      by_cases him1 : i = m + 1
      · have hT' := hs.trans (endOne_q him him1)
        rw [him1] at hT'
        obtain ⟨D, hD⟩ : ∃ D, D = T.getD (m + 1) [] := ⟨_, rfl⟩
        have sD : Sec D := hD ▸ hTS.at (by omega)
        obtain ⟨I2, hI2⟩ : ∃ I2, I2 = J2 a (fun k => T.set (m + 1) (mix Q D k)) := ⟨_, rfl⟩
        have e0 : T.set (m + 1) (mix Q D 0) = T := by rw [mix_zero, hD]; exact set_self' (by omega)
        have e64 : T.set (m + 1) (mix Q D 64) = T.set (m + 1) Q := by rw [mix_full sQ.len sD.len]
        conv => whnf
        repeat (first | (refine ⟨(by kernel_rfl : chkR _ _ _ _ = true), ?_⟩; conv => whnf) | (refine EvOr.go ?_; conv => whnf))
        intro c hc
        obtain rfl : c = true := by rw [hc]; exact decide_eq_true (by omega)
        conv => whnf
        repeat (first | (refine ⟨(by kernel_rfl : chkR _ _ _ _ = true), ?_⟩; conv => whnf) | (refine EvOr.go ?_; conv => whnf))
        refine CodeT.loopN tabOk mixed I2 64 _ (StW.ofP [0, 1, 2, 3] ?_ ?_ ?_) (fun k => by subst hI2 hJ2; rfl) ?_
        · subst hI2 hJ2; simp only [reJ, e0]; kernel_rfl
        · subst hI2 hJ2; rfl
        · subst hI2 hJ2; simp only [reJ, e0]; rfl
        intro k hkl
        subst hI2 hJ2
        show evC Try.prog tab _ _ (reJ L _ m ks a (fun k => T.set (m + 1) (mix Q D k)) k).1 (reH L (T.set (m + 1) (mix Q D k)) _ (kz ks)) _
        by_cases hk : k < 64
        · have hmx := mix_set sQ.len sD.len hk
          have hml := mix_length sQ.len sD.len hkl
          have sM := mix_sec sQ sD hkl
          have gP := refQ_ok (T.set (m + 1) (mix Q D k)) m none k (set_secs hTS sM) (by simp; omega) (by omega) hk
          rw [qsum_set (by omega), hTQ] at gP
          have hst : (T.set (m + 1) (mix Q D (k + 1))).map secS = ((T.set (m + 1) (mix Q D k)).map secS).set (0 + ((m + 1 : Nat) : Int).toNat) (secS ((mix Q D k).set k (Q.getD k 0))) := by rw [hmx]; exact set_row
          have hrow := row_at (S := T.set (m + 1) (mix Q D k)) (k := (m + 1)) (by simp; omega)
          rw [getD_set_eq (by omega)] at hrow
          have hz2 : ((T.set (m + 1) (mix Q D k)).map secS).length = m + 2 := by simp; omega
          have hP8 := sQ.get k
          clear hmx
          generalize mix Q D k = S at *
          conv => whnf
          repeat (first | (refine ⟨(by kernel_rfl : chkR _ _ _ _ = true), ?_⟩; conv => whnf) | (refine EvOr.go ?_; conv => whnf))
          intro c hc
          obtain rfl : c = true := by rw [hc]; exact decide_eq_true (by omega)
          conv => whnf
          repeat (first | (refine ⟨(by kernel_rfl : chkR _ _ _ _ = true), ?_⟩; conv => whnf) | (refine EvOr.go ?_; conv => whnf))
          refine ⟨⟨by omega, by omega⟩, ?_⟩
          conv => whnf
          repeat (first | (refine ⟨(by kernel_rfl : chkR _ _ _ _ = true), ?_⟩; conv => whnf) | (refine EvOr.go ?_; conv => whnf))
          refine ⟨_, hg, ?_⟩
          conv => whnf
          repeat (first | (refine ⟨(by kernel_rfl : chkR _ _ _ _ = true), ?_⟩; conv => whnf) | (refine EvOr.go ?_; conv => whnf))
          intro c hc
          obtain rfl : c = false := by rw [hc]; simp <;> omega
          conv => whnf
          repeat (first | (refine ⟨(by kernel_rfl : chkR _ _ _ _ = true), ?_⟩; conv => whnf) | (refine EvOr.go ?_; conv => whnf))
          refine ⟨⟨by omega, by omega⟩, ?_⟩
          conv => whnf
          repeat (first | (refine ⟨(by kernel_rfl : chkR _ _ _ _ = true), ?_⟩; conv => whnf) | (refine EvOr.go ?_; conv => whnf))
          refine ⟨_, hg, ?_⟩
          conv => whnf
          repeat (first | (refine ⟨(by kernel_rfl : chkR _ _ _ _ = true), ?_⟩; conv => whnf) | (refine EvOr.go ?_; conv => whnf))
          refine ⟨_, hmi, ?_⟩
          conv => whnf
          repeat (first | (refine ⟨(by kernel_rfl : chkR _ _ _ _ = true), ?_⟩; conv => whnf) | (refine EvOr.go ?_; conv => whnf))
          intro c hc
          obtain rfl : c = true := by rw [hc]; simp <;> omega
          conv => whnf
          repeat (first | (refine ⟨(by kernel_rfl : chkR _ _ _ _ = true), ?_⟩; conv => whnf) | (refine EvOr.go ?_; conv => whnf))
          refine ⟨_, hmi, ?_⟩
          conv => whnf
          repeat (first | (refine ⟨(by kernel_rfl : chkR _ _ _ _ = true), ?_⟩; conv => whnf) | (refine EvOr.go ?_; conv => whnf))
          refine ⟨⟨by decide, by omega, by show (m : Int) ≤ ((m + 2 : Nat) : Int); omega, fun _ => ⟨_, _, _, _, _, rfl, by rw [hz2]; omega⟩⟩, fun _ => ?_, fun _ h => absurd h (by decide)⟩
          conv => whnf
          repeat (first | (refine ⟨(by kernel_rfl : chkR _ _ _ _ = true), ?_⟩; conv => whnf) | (refine EvOr.go ?_; conv => whnf))
          refine CallG.use gP c83 [3] [] ?_ ?_ ?_ ?_ ?_ ?_; rfl; rfl; kernel_rfl; rfl; rfl
          conv => whnf
          repeat (first | (refine ⟨(by kernel_rfl : chkR _ _ _ _ = true), ?_⟩; conv => whnf) | (refine EvOr.go ?_; conv => whnf))
          refine ⟨⟨by omega, by show ((m + 1 : Nat) : Int) < ((m + 2 : Nat) : Int); omega⟩, ?_⟩
          conv => whnf
          repeat (first | (refine ⟨(by kernel_rfl : chkR _ _ _ _ = true), ?_⟩; conv => whnf) | (refine EvOr.go ?_; conv => whnf))
          refine ⟨⟨by omega, by show (k : Int) < 64; omega⟩, ?_⟩
          conv => whnf
          repeat (first | (refine ⟨(by kernel_rfl : chkR _ _ _ _ = true), ?_⟩; conv => whnf) | (refine EvOr.go ?_; conv => whnf))
          refine ⟨_, hrow, ⟨by show k < 64; omega, by omega, by omega, rfl⟩, ?_⟩
          conv => whnf
          repeat (first | (refine ⟨(by kernel_rfl : chkR _ _ _ _ = true), ?_⟩; conv => whnf) | (refine EvOr.go ?_; conv => whnf))
          refine ⟨_, inc_nat (by omega), ?_⟩
          conv => whnf
          repeat (first | (refine ⟨(by kernel_rfl : chkR _ _ _ _ = true), ?_⟩; conv => whnf) | (refine EvOr.go ?_; conv => whnf))
          refine ⟨by omega, _, StW.ofP [0, 1, 2, 3] ?_ ?_ ?_⟩
          · kernel_rfl
          · rfl
          · simp only [reJ, reH, rowX, hst]; rfl
        · obtain rfl : k = 64 := by omega
          rw [e64]
          conv => whnf
          repeat (first | (refine ⟨(by kernel_rfl : chkR _ _ _ _ = true), ?_⟩; conv => whnf) | (refine EvOr.go ?_; conv => whnf))
          intro c hc
          obtain rfl : c = false := by rw [hc]; rfl
          conv => whnf
          repeat (first | (refine ⟨(by kernel_rfl : chkR _ _ _ _ = true), ?_⟩; conv => whnf) | (refine EvOr.go ?_; conv => whnf))
          refine ⟨_, inc_nat (by omega), ?_⟩
          conv => whnf
          repeat (first | (refine ⟨(by kernel_rfl : chkR _ _ _ _ = true), ?_⟩; conv => whnf) | (refine EvOr.go ?_; conv => whnf))
          refine ⟨by omega, _, StW.ofP [0, 1, 2, 3] ?_ ?_ ?_⟩
          · kernel_rfl
          · rfl
          · simp only [reI, reH, rowX, hT']; rfl
      · have hT' := hs.trans (endOne_n him him1)
        obtain ⟨I2, hI2⟩ : ∃ I2, I2 = J2 a (fun _ => T) := ⟨_, rfl⟩
        conv => whnf
        repeat (first | (refine ⟨(by kernel_rfl : chkR _ _ _ _ = true), ?_⟩; conv => whnf) | (refine EvOr.go ?_; conv => whnf))
        intro c hc
        obtain rfl : c = true := by rw [hc]; exact decide_eq_true (by omega)
        conv => whnf
        repeat (first | (refine ⟨(by kernel_rfl : chkR _ _ _ _ = true), ?_⟩; conv => whnf) | (refine EvOr.go ?_; conv => whnf))
        refine CodeT.loopN tabOk mixed I2 64 _ (StW.ofP [0, 1, 2, 3] ?_ ?_ ?_) (fun k => by subst hI2 hJ2; rfl) ?_
        · subst hI2 hJ2; kernel_rfl
        · subst hI2 hJ2; rfl
        · subst hI2 hJ2; rfl
        intro k hkl
        subst hI2 hJ2
        by_cases hk : k < 64
        · conv => whnf
          repeat (first | (refine ⟨(by kernel_rfl : chkR _ _ _ _ = true), ?_⟩; conv => whnf) | (refine EvOr.go ?_; conv => whnf))
          intro c hc
          obtain rfl : c = true := by rw [hc]; exact decide_eq_true (by omega)
          conv => whnf
          repeat (first | (refine ⟨(by kernel_rfl : chkR _ _ _ _ = true), ?_⟩; conv => whnf) | (refine EvOr.go ?_; conv => whnf))
          refine ⟨⟨by omega, by omega⟩, ?_⟩
          conv => whnf
          repeat (first | (refine ⟨(by kernel_rfl : chkR _ _ _ _ = true), ?_⟩; conv => whnf) | (refine EvOr.go ?_; conv => whnf))
          refine ⟨_, hg, ?_⟩
          conv => whnf
          repeat (first | (refine ⟨(by kernel_rfl : chkR _ _ _ _ = true), ?_⟩; conv => whnf) | (refine EvOr.go ?_; conv => whnf))
          intro c hc
          obtain rfl : c = false := by rw [hc]; simp <;> omega
          conv => whnf
          repeat (first | (refine ⟨(by kernel_rfl : chkR _ _ _ _ = true), ?_⟩; conv => whnf) | (refine EvOr.go ?_; conv => whnf))
          refine ⟨⟨by omega, by omega⟩, ?_⟩
          conv => whnf
          repeat (first | (refine ⟨(by kernel_rfl : chkR _ _ _ _ = true), ?_⟩; conv => whnf) | (refine EvOr.go ?_; conv => whnf))
          refine ⟨_, hg, ?_⟩
          conv => whnf
          repeat (first | (refine ⟨(by kernel_rfl : chkR _ _ _ _ = true), ?_⟩; conv => whnf) | (refine EvOr.go ?_; conv => whnf))
          refine ⟨_, hmi, ?_⟩
          conv => whnf
          repeat (first | (refine ⟨(by kernel_rfl : chkR _ _ _ _ = true), ?_⟩; conv => whnf) | (refine EvOr.go ?_; conv => whnf))
          intro c hc
          obtain rfl : c = false := by rw [hc]; simp <;> omega
          conv => whnf
          repeat (first | (refine ⟨(by kernel_rfl : chkR _ _ _ _ = true), ?_⟩; conv => whnf) | (refine EvOr.go ?_; conv => whnf))
          refine ⟨_, inc_nat (by omega), ?_⟩
          conv => whnf
          repeat (first | (refine ⟨(by kernel_rfl : chkR _ _ _ _ = true), ?_⟩; conv => whnf) | (refine EvOr.go ?_; conv => whnf))
          refine ⟨by first | exact hk | omega, _, StW.ofP [0, 1, 2, 3] ?_ ?_ ?_⟩
          · kernel_rfl
          · rfl
          · rfl
        · obtain rfl : k = 64 := by omega
          conv => whnf
          repeat (first | (refine ⟨(by kernel_rfl : chkR _ _ _ _ = true), ?_⟩; conv => whnf) | (refine EvOr.go ?_; conv => whnf))
          intro c hc
          obtain rfl : c = false := by rw [hc]; rfl
          conv => whnf
          repeat (first | (refine ⟨(by kernel_rfl : chkR _ _ _ _ = true), ?_⟩; conv => whnf) | (refine EvOr.go ?_; conv => whnf))
          refine ⟨_, inc_nat (by omega), ?_⟩
          conv => whnf
          repeat (first | (refine ⟨(by kernel_rfl : chkR _ _ _ _ = true), ?_⟩; conv => whnf) | (refine EvOr.go ?_; conv => whnf))
          refine ⟨by omega, _, StW.ofP [0, 1, 2, 3] ?_ ?_ ?_⟩
          · kernel_rfl
          · rfl
          · simp only [reI, reH, rowX, hT']; rfl
    · obtain rfl : a = ks.length := by omega
      rw [List.take_length]
      conv => whnf
      repeat (first | (refine ⟨(by kernel_rfl : chkR _ _ _ _ = true), ?_⟩; conv => whnf) | (refine EvOr.go ?_; conv => whnf))
      intro c hc
      obtain rfl : c = false := by rw [hc]; exact decide_eq_false (by omega)
      conv => whnf
      repeat (first | (refine ⟨(by kernel_rfl : chkR _ _ _ _ = true), ?_⟩; conv => whnf) | (refine EvOr.go ?_; conv => whnf))
      exact retQ.allS tabOk [0, 1, 3] _ [.sc (.sl 3 0 64 (m + 2) none), iv 0] rfl (by first | exact .inr rfl | exact .inl rfl) (by repeat' (first | exact trivial | rfl | (intro h; cases h; done) | (refine ⟨?_, ?_⟩))) rfl (by rfl) (by kernel_rfl) (by first | rfl | kernel_rfl)
end Go.Proofs.Ytdmcbfmpnakdfaa.Eng
