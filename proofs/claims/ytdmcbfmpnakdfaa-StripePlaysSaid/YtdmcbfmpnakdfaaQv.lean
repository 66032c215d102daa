/- The document's Fix: two data columns. -/
import Derived.Test.YtdmcbfmpnakdfaaQu
namespace Go.Proofs.Ytdmcbfmpnakdfaa.Eng
open Go Go.Proofs Go.Proofs.Ytdmcbfmpnakdfaa.Gf
set_option maxRecDepth 20000
set_option maxHeartbeats 4000000
def pA (Z : List (List Nat)) (m i j k : Nat) : Nat := gmul (qB Z m k ^^^ gmul (pB Z m k) (pwZ (j : Int))) (ginv (pwZ (i : Int) ^^^ pwZ (j : Int)))
theorem twoA_byte {Z : List (List Nat)} {m i j k : Nat} (hZ : Z.length = m + 2) (hS : Secs Z) (hk : k < 64) :
    (twoA (xorL (Z.getD m []) (psum Z m)) (xorL (Z.getD (m + 1) []) (qsum Z m)) (pwZ (i : Int)) (pwZ (j : Int))).getD k 0 = pA Z m i j k := by
  have x1 := xorL_sec (hS.at (i := m) (by omega)) (psum_sec hS m (by omega))
  have x2 := xorL_sec (hS.at (i := m + 1) (by omega)) (qsum_sec hS m (by omega))
  unfold twoA pA
  rw [mulL_get (by rw [(xorL_sec x2 (mulL_sec x1)).len]; exact hk), xorL_get (by rw [x2.len]; exact hk) (by rw [(mulL_sec x1).len]; exact hk), mulL_get (by rw [x1.len]; exact hk), pB_xor hZ hS hk, qB_xor hZ hS hk]
theorem twoB_byte {Z : List (List Nat)} {m i j k : Nat} (hZ : Z.length = m + 2) (hS : Secs Z) (hk : k < 64) :
    (twoB (xorL (Z.getD m []) (psum Z m)) (xorL (Z.getD (m + 1) []) (qsum Z m)) (pwZ (i : Int)) (pwZ (j : Int))).getD k 0 = pA Z m i j k ^^^ pB Z m k := by
  have x1 := xorL_sec (hS.at (i := m) (by omega)) (psum_sec hS m (by omega))
  have x2 := xorL_sec (hS.at (i := m + 1) (by omega)) (qsum_sec hS m (by omega))
  unfold twoB
  rw [xorL_get (by rw [x1.len]; exact hk) (by rw [(twoA_sec x1 x2).len]; exact hk), twoA_byte hZ hS hk, pB_xor hZ hS hk, Nat.xor_comm]
theorem rows_i {Z : List (List Nat)} {i j : Nat} {S S2 : List Nat} (hij : i ≠ j) (hi : i < Z.length) : (((Z.set i S).set j S2).map secS)[0 + (i : Int).toNat]? = some (secS S) := by
  have := row_at (S := (Z.set i S).set j S2) (k := i) (by simpa using hi)
  rwa [getD_set_ne (by omega), getD_set_eq hi] at this
theorem rows_ij {Z : List (List Nat)} {i j : Nat} {S S2 S' S2' : List Nat} (hij : i ≠ j) : ((Z.set i S').set j S2').map secS = ((((Z.set i S).set j S2).map secS).set (0 + (i : Int).toNat) (secS S')).set (0 + (j : Int).toNat) (secS S2') := by
  rw [Nat.zero_add, Nat.zero_add, Int.toNat_natCast, Int.toNat_natCast, ← List.map_set, ← List.map_set, List.set_comm _ _ (by omega : j ≠ i), List.set_set, List.set_set]
theorem rows_j {Z : List (List Nat)} {i j : Nat} {S S2 S' : List Nat} (hij : i ≠ j) (hj : j < Z.length) : ((((Z.set i S).set j S2).map secS).set (0 + (i : Int).toNat) (secS S'))[0 + (j : Int).toNat]? = some (secS S2) := by
  rw [List.getElem?_set_ne (by omega)]
  have := row_at (S := (Z.set i S).set j S2) (k := j) (by simpa using hj)
  rwa [getD_set_eq (by simpa using hj)] at this
theorem refM2 (L Z : List (List Nat)) (X : Option ABlk) (m : Nat) (ks : List Nat) (i j : Nat) (hX : X = none ∨ ∃ zs, X = rowRI zs) (hZ : Z.length = m + 2) (hS : Secs Z) (hm : m ≤ 62) (h0 : 0 < ks.length) (hij : i < j) (hjm : j < m) (hz : Z.getD i [] = zeros) (hzj : Z.getD j [] = zeros) (gS : RefEnd L ((Z.set i (twoA (xorL (Z.getD m []) (psum Z m)) (xorL (Z.getD (m + 1) []) (qsum Z m)) (pwZ (i : Int)) (pwZ (j : Int)))).set j (twoB (xorL (Z.getD m []) (psum Z m)) (xorL (Z.getD (m + 1) []) (qsum Z m)) (pwZ (i : Int)) (pwZ (j : Int)))) X m ks) :
    CodeT Try.prog 2 (suf 11 (bodyC Try.f18)) ([.junk, .junk, .junk, .junk, .junk, .junk, iv (m : Nat), .sc (.sl 2 0 1 ks.length none), .sc (.sl 3 0 64 (m + 2) none), .sc (.sl 4 0 1 2 none), bv false, .junk, .junk, .junk, .junk, .junk, .junk, .junk, .junk, .junk, .junk, .junk, .junk, .junk, .junk, .junk, .junk, .junk, .junk, .junk, .junk, .junk, .junk, .junk, .junk, .junk, .junk, .junk, .junk, .junk, .junk, .junk, .junk, .junk, .junk, .junk, .junk, .junk, .junk, .junk, .junk, .junk, .junk, .junk, .junk, .junk, .junk, .junk, .junk, .junk, .junk, .junk, .junk, .junk, .junk, .junk, .junk, .junk, .junk, .junk, .junk, .junk, .junk, .junk, .junk, .junk, .junk, .junk, .junk, .junk, .junk, .junk, .junk, .junk, .junk, .junk, .junk, .junk, .junk, .junk, .junk, .junk, .junk, .junk, .junk, .junk, .junk, .junk, .junk, .junk, .junk, .junk, .junk, .junk, .junk, .junk, .junk, .junk, .junk, .junk, .junk, .junk, .junk, .junk, .junk, .junk, .junk, .junk, .junk, .junk, .junk, .junk, .junk, .junk, .junk, .junk, .junk, .junk, .junk, .junk, .junk, .junk, .junk, .junk, .junk, .junk, .junk, .junk, .junk, .junk, .junk, .junk, .junk, .junk, .junk, .junk, .junk, .junk, .junk, .junk, .junk, .junk, .junk, .junk, .junk, .junk, .junk, .junk, .junk, .junk, .junk, .junk, .junk, .junk, .junk, .junk, .junk, .junk, .junk, .junk, .junk, .junk, .junk, .junk, .junk, .junk, .junk, .junk, .junk, .junk, .junk, .junk, .junk, .junk, .junk, .junk, .junk, .junk, .junk, .junk, .junk, .junk, .junk, .junk, .junk, .junk, .junk, .junk, .junk, .junk, .junk, .junk, .junk, .junk, .junk, .junk, .junk, .junk, .junk, .junk, .junk, .junk, .junk, .junk, .junk, .junk, .junk, .junk, .junk, .junk, .junk, .junk, .junk, .junk, .junk]) (rmH L Z X (rowI (kz ks)) (rowI [(i : Int), (j : Int)]))
      (retQ Try.prog Try.f18 2 (.tup [.sc (.sl 2 0 64 (m + 2) none), iv 0]) [rowS L, X, rowX (fixEnd ((Z.set i (twoA (xorL (Z.getD m []) (psum Z m)) (xorL (Z.getD (m + 1) []) (qsum Z m)) (pwZ (i : Int)) (pwZ (j : Int)))).set j (twoB (xorL (Z.getD m []) (psum Z m)) (xorL (Z.getD (m + 1) []) (qsum Z m)) (pwZ (i : Int)) (pwZ (j : Int)))) m ks)]) := by
  have hmi : arithI .add .i64 (m : Nat) 1 = some ((m + 1 : Nat) : Int) := inc_nat (by omega)
  unfold RefEnd at gS
  have hn := nr_row (T := kz ks) 2 (by simpa using h0)
  rw [hn.1, hn.2, show (kz ks).length = ks.length by simp] at gS
  have x1 := xorL_sec (hS.at (i := m) (by omega)) (psum_sec hS m (by omega))
  have x2 := xorL_sec (hS.at (i := m + 1) (by omega)) (qsum_sec hS m (by omega))
  have sA := twoA_sec (u := pwZ (i : Int)) (v := pwZ (j : Int)) x1 x2
  have sB := twoB_sec (u := pwZ (i : Int)) (v := pwZ (j : Int)) x1 x2
  have hVA := fun k hk => twoA_byte hZ hS (i := i) (j := j) (k := k) hk
  have hVB := fun k hk => twoB_byte hZ hS (i := i) (j := j) (k := k) hk
  obtain ⟨A, eA⟩ : ∃ A, A = twoA (xorL (Z.getD m []) (psum Z m)) (xorL (Z.getD (m + 1) []) (qsum Z m)) (pwZ (i : Int)) (pwZ (j : Int)) := ⟨_, rfl⟩
  obtain ⟨B, eB⟩ : ∃ B, B = twoB (xorL (Z.getD m []) (psum Z m)) (xorL (Z.getD (m + 1) []) (qsum Z m)) (pwZ (i : Int)) (pwZ (j : Int)) := ⟨_, rfl⟩
  rw [← eA, ← eB] at gS ⊢
  rw [← eA] at sA hVA
  rw [← eB] at sB hVB
  have e0 : (Z.set i (mix A zeros 0)).set j (mix B zeros 0) = Z := by
    rw [mix_zero, mix_zero, ← hz, set_self' (by omega), hz, ← hzj]
    exact set_self' (by omega)
  obtain ⟨I, hI⟩ : ∃ I, I = rmI L X m (.sl 2 0 1 ks.length none) (rowI (kz ks)) (.sl 4 0 1 2 none) (rowI [(i : Int), (j : Int)]) false (fun k => (Z.set i (mix A zeros k)).set j (mix B zeros k)) := ⟨_, rfl⟩
  rcases hX with rfl | ⟨zs, rfl⟩ <;>
  · refine evC_sound tabOk mixed _ _ _ _ ?_
    conv => whnf
    repeat (first | (refine ⟨(by kernel_rfl : chkR _ _ _ _ = true), ?_⟩; conv => whnf) | (refine EvOr.go ?_; conv => whnf))
    refine CodeT.loopN tabOk mixed I 64 _ (StW.ofP [0, 1, 2, 3, 4] ?_ ?_ ?_) (fun k => by subst hI; rfl) ?_
    · subst hI; simp only [rmI, rmH, e0]; kernel_rfl
    · subst hI; rfl
    · subst hI; simp only [rmI, rmH, e0]; rfl
    intro k hkl
    subst hI
    show evC Try.prog tab _ _ (rmI L _ m (.sl 2 0 1 ks.length none) (rowI (kz ks)) (.sl 4 0 1 2 none) (rowI [(i : Int), (j : Int)]) false (fun k => (Z.set i (mix A zeros k)).set j (mix B zeros k)) k).1 (rmH L ((Z.set i (mix A zeros k)).set j (mix B zeros k)) _ (rowI (kz ks)) (rowI [(i : Int), (j : Int)])) _
    by_cases hk : k < 64
    · obtain ⟨gP, gQ, hrm, hrm1, hxp, hxq, hp8, hq8, hz2⟩ := seen (see_one (k := k) (see_one (k := k) (see_self hZ hS) (mix_sec sA zeros_sec hkl) (by omega) hz hk (by rw [mix_get sA.len hk, zeros_get])) (mix_sec sB zeros_sec hkl) hjm hzj hk (by rw [mix_get sB.len hk, zeros_get])) hZ hS hm hk
      have hmA := mix_set (r := A) (a := zeros) sA.len zeros_sec.len hk
      have hlA := mix_length (r := A) (a := zeros) sA.len zeros_sec.len hkl
      have hmB := mix_set (r := B) (a := zeros) sB.len zeros_sec.len hk
      have hlB := mix_length (r := B) (a := zeros) sB.len zeros_sec.len hkl
      have hbA := hVA k hk
      have hbB := hVB k hk
      rw [hbA] at hmA
      rw [hbB] at hmB
      have gp := pair_ok (pB Z m k) (qB Z m k) (i : Int) (j : Int) hp8 hq8 (by omega) (by omega) (by omega)
      have ha8 : pA Z m i j k < 256 := gmul_lt (xor_lt hq8 (gmul_lt hp8))
      have hb8 : pA Z m i j k ^^^ pB Z m k < 256 := xor_lt ha8 hp8
      change FunT _ _ _ _ (.tup [ub (pA Z m i j k), ub (pA Z m i j k ^^^ pB Z m k)]) _ at gp
      have hrow := rows_i (Z := Z) (S := mix A zeros k) (S2 := mix B zeros k) (i := i) (j := j) (by omega) (by omega)
      have hrowj := rows_j (Z := Z) (S := mix A zeros k) (S2 := mix B zeros k) (S' := (mix A zeros k).set k (pA Z m i j k)) (i := i) (j := j) (by omega) (by omega)
      have hst := rows_ij (Z := Z) (S := mix A zeros k) (S2 := mix B zeros k) (S' := (mix A zeros k).set k (pA Z m i j k)) (S2' := (mix B zeros k).set k (pA Z m i j k ^^^ pB Z m k)) (i := i) (j := j) (by omega)
      have hst2 : ((Z.set i (mix A zeros (k + 1))).set j (mix B zeros (k + 1))).map secS = ((((Z.set i (mix A zeros k)).set j (mix B zeros k)).map secS).set (0 + (i : Int).toNat) (secS ((mix A zeros k).set k (pA Z m i j k)))).set (0 + (j : Int).toNat) (secS ((mix B zeros k).set k (pA Z m i j k ^^^ pB Z m k))) := by rw [← hst, hmA, hmB]
      clear hst hmA hmB hbA hbB
      generalize mix A zeros k = S at *
      generalize mix B zeros k = S2 at *
      generalize pA Z m i j k = a at *
      generalize pB Z m k = p at *
      generalize qB Z m k = q at *
      generalize a ^^^ p = b at *
      conv => whnf
      repeat (first | (refine ⟨(by kernel_rfl : chkR _ _ _ _ = true), ?_⟩; conv => whnf) | (refine EvOr.go ?_; conv => whnf))
      intro c hc
      obtain rfl : c = true := by rw [hc]; exact decide_eq_true (by omega)
      conv => whnf
      repeat (first | (refine ⟨(by kernel_rfl : chkR _ _ _ _ = true), ?_⟩; conv => whnf) | (refine EvOr.go ?_; conv => whnf))
      refine ⟨⟨by omega, by show (m : Int) < ((m + 2 : Nat) : Int); omega⟩, ?_⟩
      conv => whnf
      repeat (first | (refine ⟨(by kernel_rfl : chkR _ _ _ _ = true), ?_⟩; conv => whnf) | (refine EvOr.go ?_; conv => whnf))
      refine ⟨⟨by omega, by show (k : Int) < 64; omega⟩, ?_⟩
      conv => whnf
      repeat (first | (refine ⟨(by kernel_rfl : chkR _ _ _ _ = true), ?_⟩; conv => whnf) | (refine EvOr.go ?_; conv => whnf))
      refine ⟨_, hrm, by show k < 64; omega, ?_⟩
      conv => whnf
      repeat (first | (refine ⟨(by kernel_rfl : chkR _ _ _ _ = true), ?_⟩; conv => whnf) | (refine EvOr.go ?_; conv => whnf))
      refine ⟨⟨by decide, by omega, by show (m : Int) ≤ ((m + 2 : Nat) : Int); omega, fun _ => ⟨_, _, _, _, _, rfl, by rw [hz2]; omega⟩⟩, fun _ => ?_, fun _ h => absurd h (by decide)⟩
      conv => whnf
      repeat (first | (refine ⟨(by kernel_rfl : chkR _ _ _ _ = true), ?_⟩; conv => whnf) | (refine EvOr.go ?_; conv => whnf))
      refine CallG.use gP c82 [3] [] ?_ ?_ ?_ ?_ ?_ ?_; rfl; rfl; kernel_rfl; rfl; rfl
      conv => whnf
      repeat (first | (refine ⟨(by kernel_rfl : chkR _ _ _ _ = true), ?_⟩; conv => whnf) | (refine EvOr.go ?_; conv => whnf))
      refine ⟨_, hxp, ?_⟩
      conv => whnf
      repeat (first | (refine ⟨(by kernel_rfl : chkR _ _ _ _ = true), ?_⟩; conv => whnf) | (refine EvOr.go ?_; conv => whnf))
      refine ⟨_, hmi, ?_⟩
      conv => whnf
      repeat (first | (refine ⟨(by kernel_rfl : chkR _ _ _ _ = true), ?_⟩; conv => whnf) | (refine EvOr.go ?_; conv => whnf))
      refine ⟨⟨by omega, by show ((m + 1 : Nat) : Int) < ((m + 2 : Nat) : Int); omega⟩, ?_⟩
      conv => whnf
      repeat (first | (refine ⟨(by kernel_rfl : chkR _ _ _ _ = true), ?_⟩; conv => whnf) | (refine EvOr.go ?_; conv => whnf))
      refine ⟨⟨by omega, by show (k : Int) < 64; omega⟩, ?_⟩
      conv => whnf
      repeat (first | (refine ⟨(by kernel_rfl : chkR _ _ _ _ = true), ?_⟩; conv => whnf) | (refine EvOr.go ?_; conv => whnf))
      refine ⟨_, hrm1, by show k < 64; omega, ?_⟩
      conv => whnf
      repeat (first | (refine ⟨(by kernel_rfl : chkR _ _ _ _ = true), ?_⟩; conv => whnf) | (refine EvOr.go ?_; conv => whnf))
      refine ⟨⟨by decide, by omega, by show (m : Int) ≤ ((m + 2 : Nat) : Int); omega, fun _ => ⟨_, _, _, _, _, rfl, by rw [hz2]; omega⟩⟩, fun _ => ?_, fun _ h => absurd h (by decide)⟩
      conv => whnf
      repeat (first | (refine ⟨(by kernel_rfl : chkR _ _ _ _ = true), ?_⟩; conv => whnf) | (refine EvOr.go ?_; conv => whnf))
      refine CallG.use gQ c83 [3] [] ?_ ?_ ?_ ?_ ?_ ?_; rfl; rfl; kernel_rfl; rfl; rfl
      conv => whnf
      repeat (first | (refine ⟨(by kernel_rfl : chkR _ _ _ _ = true), ?_⟩; conv => whnf) | (refine EvOr.go ?_; conv => whnf))
      refine ⟨_, hxq, ?_⟩
      conv => whnf
      repeat (first | (refine ⟨(by kernel_rfl : chkR _ _ _ _ = true), ?_⟩; conv => whnf) | (refine EvOr.go ?_; conv => whnf))
      intro c hc
      obtain rfl : c = true := by rw [hc]; rfl
      conv => whnf
      repeat (first | (refine ⟨(by kernel_rfl : chkR _ _ _ _ = true), ?_⟩; conv => whnf) | (refine EvOr.go ?_; conv => whnf))
      refine ⟨⟨by decide, by show (0 : Int) < 2; decide⟩, ?_⟩
      conv => whnf
      repeat (first | (refine ⟨(by kernel_rfl : chkR _ _ _ _ = true), ?_⟩; conv => whnf) | (refine EvOr.go ?_; conv => whnf))
      refine ⟨_, rfl, ?_⟩
      conv => whnf
      repeat (first | (refine ⟨(by kernel_rfl : chkR _ _ _ _ = true), ?_⟩; conv => whnf) | (refine EvOr.go ?_; conv => whnf))
      refine ⟨⟨by decide, by show (1 : Int) < 2; decide⟩, ?_⟩
      conv => whnf
      repeat (first | (refine ⟨(by kernel_rfl : chkR _ _ _ _ = true), ?_⟩; conv => whnf) | (refine EvOr.go ?_; conv => whnf))
      refine ⟨_, rfl, ?_⟩
      conv => whnf
      repeat (first | (refine ⟨(by kernel_rfl : chkR _ _ _ _ = true), ?_⟩; conv => whnf) | (refine EvOr.go ?_; conv => whnf))
      refine CallG.use gp c84 [] [] ?_ ?_ ?_ ?_ ?_ ?_; rfl; rfl; kernel_rfl; rfl; rfl
      conv => whnf
      repeat (first | (refine ⟨(by kernel_rfl : chkR _ _ _ _ = true), ?_⟩; conv => whnf) | (refine EvOr.go ?_; conv => whnf))
      refine ⟨⟨by decide, by show (0 : Int) < 2; decide⟩, ?_⟩
      conv => whnf
      repeat (first | (refine ⟨(by kernel_rfl : chkR _ _ _ _ = true), ?_⟩; conv => whnf) | (refine EvOr.go ?_; conv => whnf))
      refine ⟨_, rfl, ?_⟩
      conv => whnf
      repeat (first | (refine ⟨(by kernel_rfl : chkR _ _ _ _ = true), ?_⟩; conv => whnf) | (refine EvOr.go ?_; conv => whnf))
      refine ⟨⟨by show (0 : Int) ≤ (i : Int); omega, by show (i : Int) < ((m + 2 : Nat) : Int); omega⟩, ?_⟩
      conv => whnf
      repeat (first | (refine ⟨(by kernel_rfl : chkR _ _ _ _ = true), ?_⟩; conv => whnf) | (refine EvOr.go ?_; conv => whnf))
      refine ⟨⟨by omega, by show (k : Int) < 64; omega⟩, ?_⟩
      conv => whnf
      repeat (first | (refine ⟨(by kernel_rfl : chkR _ _ _ _ = true), ?_⟩; conv => whnf) | (refine EvOr.go ?_; conv => whnf))
      refine ⟨_, hrow, ⟨by show k < 64; omega, by omega, by omega, rfl⟩, ?_⟩
      conv => whnf
      repeat (first | (refine ⟨(by kernel_rfl : chkR _ _ _ _ = true), ?_⟩; conv => whnf) | (refine EvOr.go ?_; conv => whnf))
      refine ⟨⟨by decide, by show (1 : Int) < 2; decide⟩, ?_⟩
      conv => whnf
      repeat (first | (refine ⟨(by kernel_rfl : chkR _ _ _ _ = true), ?_⟩; conv => whnf) | (refine EvOr.go ?_; conv => whnf))
      refine ⟨_, rfl, ?_⟩
      conv => whnf
      repeat (first | (refine ⟨(by kernel_rfl : chkR _ _ _ _ = true), ?_⟩; conv => whnf) | (refine EvOr.go ?_; conv => whnf))
      refine ⟨⟨by show (0 : Int) ≤ (j : Int); omega, by show (j : Int) < ((m + 2 : Nat) : Int); omega⟩, ?_⟩
      conv => whnf
      repeat (first | (refine ⟨(by kernel_rfl : chkR _ _ _ _ = true), ?_⟩; conv => whnf) | (refine EvOr.go ?_; conv => whnf))
      refine ⟨⟨by omega, by show (k : Int) < 64; omega⟩, ?_⟩
      conv => whnf
      repeat (first | (refine ⟨(by kernel_rfl : chkR _ _ _ _ = true), ?_⟩; conv => whnf) | (refine EvOr.go ?_; conv => whnf))
      refine ⟨_, hrowj, ⟨by show k < 64; omega, by omega, by omega, rfl⟩, ?_⟩
      conv => whnf
      repeat (first | (refine ⟨(by kernel_rfl : chkR _ _ _ _ = true), ?_⟩; conv => whnf) | (refine EvOr.go ?_; conv => whnf))
      refine ⟨_, inc_nat (by omega), ?_⟩
      conv => whnf
      repeat (first | (refine ⟨(by kernel_rfl : chkR _ _ _ _ = true), ?_⟩; conv => whnf) | (refine EvOr.go ?_; conv => whnf))
      refine ⟨by omega, _, StW.ofP [0, 1, 2, 3, 4] ?_ ?_ ?_⟩
      · kernel_rfl
      · rfl
      · simp only [rmI, rmH, rowX, hst2]; rfl
    · obtain rfl : k = 64 := by omega
      have e64 : (Z.set i (mix A zeros 64)).set j (mix B zeros 64) = (Z.set i A).set j B := by rw [mix_full sA.len zeros_sec.len, mix_full sB.len zeros_sec.len]
      simp only [e64]
      conv => whnf
      repeat (first | (refine ⟨(by kernel_rfl : chkR _ _ _ _ = true), ?_⟩; conv => whnf) | (refine EvOr.go ?_; conv => whnf))
      intro c hc
      obtain rfl : c = false := by rw [hc]; rfl
      conv => whnf
      refine ⟨(by kernel_rfl : chkR _ _ _ _ = true), ?_⟩
      conv => whnf
      refine EvOr.go ?_
      conv => whnf
      refine EvOr.cut (CodeT.weaken _ (StW.ofP [0, 1, 2, 3] ?_ ?_ ?_) (gS))
      · kernel_rfl
      · rfl
      · rfl
end Go.Proofs.Ytdmcbfmpnakdfaa.Eng
