/- The document's parities at a place; bytes found by going through all. -/
import Derived.Test.YtdmcbfmpnakdfaaQo
namespace Go.Proofs.Ytdmcbfmpnakdfaa.Eng
open Go Go.Proofs Go.Proofs.Ytdmcbfmpnakdfaa.Gf
set_option maxRecDepth 20000
set_option maxHeartbeats 4000000
theorem c82 : Callable Try.prog 82 := ⟨⟨_, Try.func82, by kernel_rfl, by kernel_rfl⟩⟩
theorem c83 : Callable Try.prog 83 := ⟨⟨_, Try.func83, by kernel_rfl, by kernel_rfl⟩⟩
theorem c84 : Callable Try.prog 84 := ⟨⟨_, Try.func84, by kernel_rfl, by kernel_rfl⟩⟩
theorem c85 : Callable Try.prog 85 := ⟨⟨_, Try.func85, by kernel_rfl, by kernel_rfl⟩⟩
theorem zeros_get (k : Nat) : zeros.getD k 0 = 0 := by
  unfold zeros
  rw [List.getD_eq_getElem?_getD, List.getElem?_replicate]
  split <;> rfl
def rPI (L : List (List Nat)) (n : Nat) (co : Option Nat) (k i : Nat) : LTm × LHp :=
  ([.sc (.sl 0 0 64 n co), iv (-1), iv (k : Nat), .junk, .junk, .junk, .junk, ub ((psum L i).getD k 0), iv (i : Nat), .junk, .junk, .junk, .junk, .junk, .junk, .junk, .junk, .junk, .junk, .junk, .junk, .junk, .junk, .junk, .junk, .junk, .junk], [rowS L])
theorem refP_ok (L : List (List Nat)) (n : Nat) (co : Option Nat) (k : Nat) (hL : Secs L) (hn : n ≤ L.length) (hb : n < 2 ^ 32) (hk : k < 64) :
    FunT Try.prog 82 [.sc (.sl 0 0 64 n co), iv (-1), iv (k : Nat)] [rowS L] (ub ((psum L n).getD k 0)) [rowS L] := by
  obtain ⟨I, hI⟩ : ∃ I, I = rPI L n co k := ⟨_, rfl⟩
  have z0 : (psum L 0).getD k 0 = 0 := zeros_get k
  cases co <;>
  · refine FunT.ev tabOk mixed Try.func82 rfl ?_
    conv => whnf
    repeat (first | (refine ⟨(by kernel_rfl : chkR _ _ _ _ = true), ?_⟩; conv => whnf) | (refine EvOr.go ?_; conv => whnf))
    refine CodeT.loopN tabOk mixed I n _ (StW.ofP [0] ?_ ?_ ?_) (fun k => by subst hI; rfl) ?_
    · subst hI; kernel_rfl
    · subst hI; simp only [rPI, z0]; rfl
    · subst hI; rfl
    intro i hil
    subst hI
    have hp := psum_sec hL i (by omega)
    have hpl : (psum L i).getD k 0 < 256 := hp.get k
    show evC Try.prog tab _ _ ([.sc (.sl 0 0 64 n _), iv (-1), iv (k : Nat), .junk, .junk, .junk, .junk, ub ((psum L i).getD k 0), iv (i : Nat), .junk, .junk, .junk, .junk, .junk, .junk, .junk, .junk, .junk, .junk, .junk, .junk, .junk, .junk, .junk, .junk, .junk, .junk]) [rowS L] _
    by_cases hi : i < n
    · have hd := hL.at (i := i) (by omega)
      have hg := sec_get (L := L) (k := i) (by omega)
      have gw := refpow_ok (i : Nat) (by omega)
      have gm := refmul_ok (pwZ (i : Int)) ((L.getD i []).getD k 0) (pwZ_lt _) (hd.get k)
      have hsP : (psum L (i + 1)).getD k 0 = (psum L i).getD k 0 ^^^ (L.getD i []).getD k 0 := xorL_get (by rw [(psum_sec hL i (by omega)).len]; exact hk) (by rw [hd.len]; exact hk)
      have hsQ : (qsum L (i + 1)).getD k 0 = (qsum L i).getD k 0 ^^^ gmul (pwZ (i : Int)) ((L.getD i []).getD k 0) := by
        rw [gmul_comm (pwZ_lt _) (hd.get k), ← mulL_get (by rw [hd.len]; exact hk)]
        exact xorL_get (by rw [(qsum_sec hL i (by omega)).len]; exact hk) (by rw [mulL_length hd.len]; exact hk)
      have hxP := xor8 hpl (hd.get k)
      have hxQ := xor8 hpl (gmul_lt (b := (L.getD i []).getD k 0) (pwZ_lt (i : Int)))
      generalize (psum L i).getD k 0 = c at *
      conv => whnf
      repeat (first | (refine ⟨(by kernel_rfl : chkR _ _ _ _ = true), ?_⟩; conv => whnf) | (refine EvOr.go ?_; conv => whnf))
      intro c hc
      obtain rfl : c = true := by rw [hc]; exact decide_eq_true (by omega)
      conv => whnf
      repeat (first | (refine ⟨(by kernel_rfl : chkR _ _ _ _ = true), ?_⟩; conv => whnf) | (refine EvOr.go ?_; conv => whnf))
      intro c hc
      obtain rfl : c = true := by rw [hc]; simp <;> omega
      conv => whnf
      repeat (first | (refine ⟨(by kernel_rfl : chkR _ _ _ _ = true), ?_⟩; conv => whnf) | (refine EvOr.go ?_; conv => whnf))
      refine ⟨⟨by omega, by omega⟩, ?_⟩
      conv => whnf
      repeat (first | (refine ⟨(by kernel_rfl : chkR _ _ _ _ = true), ?_⟩; conv => whnf) | (refine EvOr.go ?_; conv => whnf))
      refine ⟨⟨by omega, by show (k : Int) < 64; omega⟩, ?_⟩
      conv => whnf
      repeat (first | (refine ⟨(by kernel_rfl : chkR _ _ _ _ = true), ?_⟩; conv => whnf) | (refine EvOr.go ?_; conv => whnf))
      refine ⟨_, hg, by show k < 64; omega, ?_⟩
      conv => whnf
      repeat (first | (refine ⟨(by kernel_rfl : chkR _ _ _ _ = true), ?_⟩; conv => whnf) | (refine EvOr.go ?_; conv => whnf))
      refine ⟨_, hxP, ?_⟩
      conv => whnf
      repeat (first | (refine ⟨(by kernel_rfl : chkR _ _ _ _ = true), ?_⟩; conv => whnf) | (refine EvOr.go ?_; conv => whnf))
      refine ⟨_, inc_nat (by omega), ?_⟩
      conv => whnf
      repeat (first | (refine ⟨(by kernel_rfl : chkR _ _ _ _ = true), ?_⟩; conv => whnf) | (refine EvOr.go ?_; conv => whnf))
      refine ⟨by omega, _, StW.ofP [0] ?_ ?_ ?_⟩
      · kernel_rfl
      · simp only [rPI, hsP]; rfl
      · rfl
    · obtain rfl : i = n := by omega
      conv => whnf
      repeat (first | (refine ⟨(by kernel_rfl : chkR _ _ _ _ = true), ?_⟩; conv => whnf) | (refine EvOr.go ?_; conv => whnf))
      intro c hc
      obtain rfl : c = false := by rw [hc]; exact decide_eq_false (by omega)
      conv => whnf
      repeat (first | (refine ⟨(by kernel_rfl : chkR _ _ _ _ = true), ?_⟩; conv => whnf) | (refine EvOr.go ?_; conv => whnf))
      exact retQ.one rfl (.inr rfl) rfl (Nat.le_of_ble_eq_true rfl) rfl
def rQI (L : List (List Nat)) (n : Nat) (co : Option Nat) (k i : Nat) : LTm × LHp :=
  ([.sc (.sl 0 0 64 n co), iv (-1), iv (k : Nat), .junk, .junk, .junk, .junk, ub ((qsum L i).getD k 0), iv (i : Nat), .junk, .junk, .junk, .junk, .junk, .junk, .junk, .junk, .junk, .junk, .junk, .junk, .junk, .junk, .junk, .junk, .junk, .junk, .junk, .junk, .junk], [rowS L])
theorem refQ_ok (L : List (List Nat)) (n : Nat) (co : Option Nat) (k : Nat) (hL : Secs L) (hn : n ≤ L.length) (hb : n < 2 ^ 32) (hk : k < 64) :
    FunT Try.prog 83 [.sc (.sl 0 0 64 n co), iv (-1), iv (k : Nat)] [rowS L] (ub ((qsum L n).getD k 0)) [rowS L] := by
  obtain ⟨I, hI⟩ : ∃ I, I = rQI L n co k := ⟨_, rfl⟩
  have z0 : (qsum L 0).getD k 0 = 0 := zeros_get k
  cases co <;>
  · refine FunT.ev tabOk mixed Try.func83 rfl ?_
    conv => whnf
    repeat (first | (refine ⟨(by kernel_rfl : chkR _ _ _ _ = true), ?_⟩; conv => whnf) | (refine EvOr.go ?_; conv => whnf))
    refine CodeT.loopN tabOk mixed I n _ (StW.ofP [0] ?_ ?_ ?_) (fun k => by subst hI; rfl) ?_
    · subst hI; kernel_rfl
    · subst hI; simp only [rQI, z0]; rfl
    · subst hI; rfl
    intro i hil
    subst hI
    have hp := qsum_sec hL i (by omega)
    have hpl : (qsum L i).getD k 0 < 256 := hp.get k
    show evC Try.prog tab _ _ ([.sc (.sl 0 0 64 n _), iv (-1), iv (k : Nat), .junk, .junk, .junk, .junk, ub ((qsum L i).getD k 0), iv (i : Nat), .junk, .junk, .junk, .junk, .junk, .junk, .junk, .junk, .junk, .junk, .junk, .junk, .junk, .junk, .junk, .junk, .junk, .junk, .junk, .junk, .junk]) [rowS L] _
    by_cases hi : i < n
    · have hd := hL.at (i := i) (by omega)
      have hg := sec_get (L := L) (k := i) (by omega)
      have gw := refpow_ok (i : Nat) (by omega)
      have gm := refmul_ok (pwZ (i : Int)) ((L.getD i []).getD k 0) (pwZ_lt _) (hd.get k)
      have hsP : (psum L (i + 1)).getD k 0 = (psum L i).getD k 0 ^^^ (L.getD i []).getD k 0 := xorL_get (by rw [(psum_sec hL i (by omega)).len]; exact hk) (by rw [hd.len]; exact hk)
      have hsQ : (qsum L (i + 1)).getD k 0 = (qsum L i).getD k 0 ^^^ gmul (pwZ (i : Int)) ((L.getD i []).getD k 0) := by
        rw [gmul_comm (pwZ_lt _) (hd.get k), ← mulL_get (by rw [hd.len]; exact hk)]
        exact xorL_get (by rw [(qsum_sec hL i (by omega)).len]; exact hk) (by rw [mulL_length hd.len]; exact hk)
      have hxP := xor8 hpl (hd.get k)
      have hxQ := xor8 hpl (gmul_lt (b := (L.getD i []).getD k 0) (pwZ_lt (i : Int)))
      generalize (qsum L i).getD k 0 = c at *
      conv => whnf
      repeat (first | (refine ⟨(by kernel_rfl : chkR _ _ _ _ = true), ?_⟩; conv => whnf) | (refine EvOr.go ?_; conv => whnf))
      intro c hc
      obtain rfl : c = true := by rw [hc]; exact decide_eq_true (by omega)
      conv => whnf
      repeat (first | (refine ⟨(by kernel_rfl : chkR _ _ _ _ = true), ?_⟩; conv => whnf) | (refine EvOr.go ?_; conv => whnf))
      intro c hc
      obtain rfl : c = true := by rw [hc]; simp <;> omega
      conv => whnf
      repeat (first | (refine ⟨(by kernel_rfl : chkR _ _ _ _ = true), ?_⟩; conv => whnf) | (refine EvOr.go ?_; conv => whnf))
      refine CallG.use gw c124 [] [] ?_ ?_ ?_ ?_ ?_ ?_; rfl; rfl; kernel_rfl; rfl; rfl
      conv => whnf
      repeat (first | (refine ⟨(by kernel_rfl : chkR _ _ _ _ = true), ?_⟩; conv => whnf) | (refine EvOr.go ?_; conv => whnf))
      refine ⟨⟨by omega, by omega⟩, ?_⟩
      conv => whnf
      repeat (first | (refine ⟨(by kernel_rfl : chkR _ _ _ _ = true), ?_⟩; conv => whnf) | (refine EvOr.go ?_; conv => whnf))
      refine ⟨⟨by omega, by show (k : Int) < 64; omega⟩, ?_⟩
      conv => whnf
      repeat (first | (refine ⟨(by kernel_rfl : chkR _ _ _ _ = true), ?_⟩; conv => whnf) | (refine EvOr.go ?_; conv => whnf))
      refine ⟨_, hg, by show k < 64; omega, ?_⟩
      conv => whnf
      repeat (first | (refine ⟨(by kernel_rfl : chkR _ _ _ _ = true), ?_⟩; conv => whnf) | (refine EvOr.go ?_; conv => whnf))
      refine CallG.use gm c123 [] [] ?_ ?_ ?_ ?_ ?_ ?_; rfl; rfl; kernel_rfl; rfl; rfl
      conv => whnf
      repeat (first | (refine ⟨(by kernel_rfl : chkR _ _ _ _ = true), ?_⟩; conv => whnf) | (refine EvOr.go ?_; conv => whnf))
      refine ⟨_, hxQ, ?_⟩
      conv => whnf
      repeat (first | (refine ⟨(by kernel_rfl : chkR _ _ _ _ = true), ?_⟩; conv => whnf) | (refine EvOr.go ?_; conv => whnf))
      refine ⟨_, inc_nat (by omega), ?_⟩
      conv => whnf
      repeat (first | (refine ⟨(by kernel_rfl : chkR _ _ _ _ = true), ?_⟩; conv => whnf) | (refine EvOr.go ?_; conv => whnf))
      refine ⟨by omega, _, StW.ofP [0] ?_ ?_ ?_⟩
      · kernel_rfl
      · simp only [rQI, hsQ]; rfl
      · rfl
    · obtain rfl : i = n := by omega
      conv => whnf
      repeat (first | (refine ⟨(by kernel_rfl : chkR _ _ _ _ = true), ?_⟩; conv => whnf) | (refine EvOr.go ?_; conv => whnf))
      intro c hc
      obtain rfl : c = false := by rw [hc]; exact decide_eq_false (by omega)
      conv => whnf
      repeat (first | (refine ⟨(by kernel_rfl : chkR _ _ _ _ = true), ?_⟩; conv => whnf) | (refine EvOr.go ?_; conv => whnf))
      exact retQ.one rfl (.inr rfl) rfl (Nat.le_of_ble_eq_true rfl) rfl
theorem conv8 {a : Nat} (ha : a < 256) : IntKind.u8.wrap (a : Nat) = ((a : Nat) : Int) := by rw [IntKind.wrap_u8]; omega
/-- The byte that a power takes to another one. -/
theorem single_un {q : Nat} (x : Int) (hq : q < 256) {a : Nat} (ha : a < 256) : gmul (pwZ x) a = q ↔ a = gmul q (pwZ (-x)) := by
  have hx := pwZ_lt x
  have hx' := pwZ_lt (-x)
  have e1 : gmul (pwZ x) (pwZ (-x)) = 1 := by rw [pwZ_add, show x + -x = 0 by omega]; rfl
  constructor
  · intro h
    rw [← h, gmul_comm hx ha, gmul_assoc ha hx hx', e1, gmul_one_right a ha]
  · intro h
    rw [h, gmul_comm hx (gmul_lt hq), gmul_assoc hq hx' hx, gmul_comm hx' hx, e1, gmul_one_right q hq]
def sinI (q : Nat) (x : Int) (a : Nat) : LTm × LHp := ([ub q, iv x, .junk, .junk, .junk, iv (a : Nat), .junk, .junk, .junk, .junk, .junk, .junk, .junk, .junk, .junk, .junk, .junk, .junk, .junk], [])
theorem single_ok (q : Nat) (x : Int) (hq : q < 256) (hx : -2 ^ 63 ≤ x ∧ x < 2 ^ 63) : FunT Try.prog 85 [ub q, iv x] [] (ub (gmul q (pwZ (-x)))) [] := by
  have hr : gmul q (pwZ (-x)) < 256 := gmul_lt hq
  have hu := fun a ha => single_un x hq (a := a) ha
  have gw := refpow_ok x hx
  have gm := fun a (ha : a < 256) => refmul_ok (pwZ x) a (pwZ_lt x) ha
  have hl := pwZ_lt x
  generalize gmul q (pwZ (-x)) = r at *
  generalize pwZ x = u at *
  obtain ⟨I, hI⟩ : ∃ I, I = sinI q x := ⟨_, rfl⟩
  refine FunT.ev tabOk mixed Try.func85 rfl ?_
  conv => whnf
  repeat (first | (refine ⟨(by kernel_rfl : chkR _ _ _ _ = true), ?_⟩; conv => whnf) | (refine EvOr.go ?_; conv => whnf))
  refine CodeT.loopN tabOk mixed I r _ (StW.ofP [] ?_ ?_ ?_) (fun k => by subst hI; rfl) ?_
  · subst hI; kernel_rfl
  · subst hI; rfl
  · subst hI; rfl
  intro k hkl
  subst hI
  have gm := gm k (by omega)
  have hu := hu k (by omega)
  conv => whnf
  repeat (first | (refine ⟨(by kernel_rfl : chkR _ _ _ _ = true), ?_⟩; conv => whnf) | (refine EvOr.go ?_; conv => whnf))
  intro c hc
  obtain rfl : c = true := by rw [hc]; exact decide_eq_true (by omega)
  conv => whnf
  repeat (first | (refine ⟨(by kernel_rfl : chkR _ _ _ _ = true), ?_⟩; conv => whnf) | (refine EvOr.go ?_; conv => whnf))
  refine CallG.use gw c124 [] [] ?_ ?_ ?_ ?_ ?_ ?_; rfl; rfl; kernel_rfl; rfl; rfl
  conv => whnf
  repeat (first | (refine ⟨(by kernel_rfl : chkR _ _ _ _ = true), ?_⟩; conv => whnf) | (refine EvOr.go ?_; conv => whnf))
  refine ⟨_, conv8 (by omega), ?_⟩
  conv => whnf
  repeat (first | (refine ⟨(by kernel_rfl : chkR _ _ _ _ = true), ?_⟩; conv => whnf) | (refine EvOr.go ?_; conv => whnf))
  refine CallG.use gm c123 [] [] ?_ ?_ ?_ ?_ ?_ ?_; rfl; rfl; kernel_rfl; rfl; rfl
  conv => whnf
  repeat (first | (refine ⟨(by kernel_rfl : chkR _ _ _ _ = true), ?_⟩; conv => whnf) | (refine EvOr.go ?_; conv => whnf))
  intro c hc
  by_cases hk : k = r
  · subst hk
    have := hu.2 rfl
    obtain rfl : c = true := by rw [hc, this]; simp
    conv => whnf
    repeat (first | (refine ⟨(by kernel_rfl : chkR _ _ _ _ = true), ?_⟩; conv => whnf) | (refine EvOr.go ?_; conv => whnf))
    refine ⟨_, conv8 (by omega), ?_⟩
    conv => whnf
    repeat (first | (refine ⟨(by kernel_rfl : chkR _ _ _ _ = true), ?_⟩; conv => whnf) | (refine EvOr.go ?_; conv => whnf))
    exact retQ.one rfl (.inr rfl) rfl (Nat.le_of_ble_eq_true rfl) rfl
  · have : ¬ gmul u k = q := fun h => hk (hu.1 h)
    obtain rfl : c = false := by rw [hc]; simp; omega
    conv => whnf
    repeat (first | (refine ⟨(by kernel_rfl : chkR _ _ _ _ = true), ?_⟩; conv => whnf) | (refine EvOr.go ?_; conv => whnf))
    refine ⟨_, inc_nat (by omega), ?_⟩
    conv => whnf
    repeat (first | (refine ⟨(by kernel_rfl : chkR _ _ _ _ = true), ?_⟩; conv => whnf) | (refine EvOr.go ?_; conv => whnf))
    refine ⟨by first | exact hk | omega, _, StW.ofP [] ?_ ?_ ?_⟩
    · kernel_rfl
    · rfl
    · rfl
theorem pair_un {p q u v : Nat} (hp : p < 256) (hq : q < 256) (hu : u < 256) (hv : v < 256) (h0 : u ^^^ v ≠ 0) {a : Nat} (ha : a < 256) :
    gmul u a ^^^ gmul v (a ^^^ p) = q ↔ a = gmul (q ^^^ gmul p v) (ginv (u ^^^ v)) := by
  have hw := xor_lt hu hv
  have hi := ginv_lt (u ^^^ v)
  have hpv : gmul p v < 256 := gmul_lt hp
  have e1 : gmul u a ^^^ gmul v (a ^^^ p) = gmul a (u ^^^ v) ^^^ gmul p v := by
    rw [gmul_xor_right v a p, gmul_comm hu ha, gmul_comm hv ha, gmul_comm hv hp, gmul_xor_right a u v, Nat.xor_assoc]
  have e2 : gmul (u ^^^ v) (ginv (u ^^^ v)) = 1 := gmul_ginv hw h0
  rw [e1]
  constructor
  · intro h
    have : gmul a (u ^^^ v) = q ^^^ gmul p v := by rw [← h, Nat.xor_assoc, Nat.xor_self, Nat.xor_zero]
    rw [← this, gmul_assoc ha hw hi, e2, gmul_one_right a ha]
  · intro h
    have : gmul a (u ^^^ v) = q ^^^ gmul p v := by
      rw [h, gmul_assoc (xor_lt hq hpv) hi hw, gmul_comm hi hw, e2, gmul_one_right _ (xor_lt hq hpv)]
    rw [this, Nat.xor_assoc, Nat.xor_self, Nat.xor_zero]
def paiI (p q : Nat) (x y : Int) (a : Nat) : LTm × LHp := ([ub p, ub q, iv x, iv y, .junk, .junk, .junk, .junk, .junk, .junk, iv (a : Nat), .junk, .junk, .junk, .junk, .junk, .junk, .junk, .junk, .junk, .junk, .junk, .junk, .junk, .junk, .junk, .junk, .junk, .junk, .junk, .junk, .junk, .junk, .junk, .junk], [])
theorem pair_ok (p q : Nat) (x y : Int) (hp : p < 256) (hq : q < 256) (hx : -2 ^ 63 ≤ x ∧ x < 2 ^ 63) (hy : -2 ^ 63 ≤ y ∧ y < 2 ^ 63) (hne : x % 255 ≠ y % 255) :
    FunT Try.prog 84 [ub p, ub q, iv x, iv y] [] (.tup [ub (gmul (q ^^^ gmul p (pwZ y)) (ginv (pwZ x ^^^ pwZ y))), ub (gmul (q ^^^ gmul p (pwZ y)) (ginv (pwZ x ^^^ pwZ y)) ^^^ p)]) [] := by
  have hd : pwZ x ^^^ pwZ y ≠ 0 := fun h => hne ((pwZ_eq_iff x y).1 (by have := congrArg (· ^^^ pwZ y) h; simpa [Nat.xor_assoc] using this))
  have hlx := pwZ_lt x
  have hly := pwZ_lt y
  have hr : gmul (q ^^^ gmul p (pwZ y)) (ginv (pwZ x ^^^ pwZ y)) < 256 := gmul_lt (xor_lt hq (gmul_lt hp))
  have hu := fun a ha => pair_un hp hq hlx hly hd (a := a) ha
  have gx := refpow_ok x hx
  have gy := refpow_ok y hy
  have m1 := fun a (ha : a < 256) => refmul_ok (pwZ x) a hlx ha
  have m2 := fun a (ha : a < 256) => refmul_ok (pwZ y) a hly ha
  generalize gmul (q ^^^ gmul p (pwZ y)) (ginv (pwZ x ^^^ pwZ y)) = r at *
  generalize pwZ x = u at *
  generalize pwZ y = v at *
  obtain ⟨I, hI⟩ : ∃ I, I = paiI p q x y := ⟨_, rfl⟩
  refine FunT.ev tabOk mixed Try.func84 rfl ?_
  conv => whnf
  repeat (first | (refine ⟨(by kernel_rfl : chkR _ _ _ _ = true), ?_⟩; conv => whnf) | (refine EvOr.go ?_; conv => whnf))
  refine CodeT.loopN tabOk mixed I r _ (StW.ofP [] ?_ ?_ ?_) (fun k => by subst hI; rfl) ?_
  · subst hI; kernel_rfl
  · subst hI; rfl
  · subst hI; rfl
  intro k hkl
  subst hI
  have hka : k < 256 := by omega
  have hx8 := xor8 hka hp
  have hkp := xor_lt hka hp
  have m1 := m1 k hka
  have m2 := m2 (k ^^^ p) hkp
  have hs := xor8 (gmul_lt (b := k) hlx) (gmul_lt (b := k ^^^ p) hly)
  have hu := hu k hka
  conv => whnf
  repeat (first | (refine ⟨(by kernel_rfl : chkR _ _ _ _ = true), ?_⟩; conv => whnf) | (refine EvOr.go ?_; conv => whnf))
  intro c hc
  obtain rfl : c = true := by rw [hc]; exact decide_eq_true (by omega)
  conv => whnf
  repeat (first | (refine ⟨(by kernel_rfl : chkR _ _ _ _ = true), ?_⟩; conv => whnf) | (refine EvOr.go ?_; conv => whnf))
  refine ⟨_, conv8 hka, ?_⟩
  conv => whnf
  repeat (first | (refine ⟨(by kernel_rfl : chkR _ _ _ _ = true), ?_⟩; conv => whnf) | (refine EvOr.go ?_; conv => whnf))
  refine ⟨_, hx8, ?_⟩
  conv => whnf
  repeat (first | (refine ⟨(by kernel_rfl : chkR _ _ _ _ = true), ?_⟩; conv => whnf) | (refine EvOr.go ?_; conv => whnf))
  refine CallG.use gx c124 [] [] ?_ ?_ ?_ ?_ ?_ ?_; rfl; rfl; kernel_rfl; rfl; rfl
  conv => whnf
  repeat (first | (refine ⟨(by kernel_rfl : chkR _ _ _ _ = true), ?_⟩; conv => whnf) | (refine EvOr.go ?_; conv => whnf))
  refine ⟨_, conv8 hka, ?_⟩
  conv => whnf
  repeat (first | (refine ⟨(by kernel_rfl : chkR _ _ _ _ = true), ?_⟩; conv => whnf) | (refine EvOr.go ?_; conv => whnf))
  refine CallG.use m1 c123 [] [] ?_ ?_ ?_ ?_ ?_ ?_; rfl; rfl; kernel_rfl; rfl; rfl
  conv => whnf
  repeat (first | (refine ⟨(by kernel_rfl : chkR _ _ _ _ = true), ?_⟩; conv => whnf) | (refine EvOr.go ?_; conv => whnf))
  refine CallG.use gy c124 [] [] ?_ ?_ ?_ ?_ ?_ ?_; rfl; rfl; kernel_rfl; rfl; rfl
  conv => whnf
  repeat (first | (refine ⟨(by kernel_rfl : chkR _ _ _ _ = true), ?_⟩; conv => whnf) | (refine EvOr.go ?_; conv => whnf))
  refine CallG.use m2 c123 [] [] ?_ ?_ ?_ ?_ ?_ ?_; rfl; rfl; kernel_rfl; rfl; rfl
  conv => whnf
  repeat (first | (refine ⟨(by kernel_rfl : chkR _ _ _ _ = true), ?_⟩; conv => whnf) | (refine EvOr.go ?_; conv => whnf))
  refine ⟨_, hs, ?_⟩
  conv => whnf
  repeat (first | (refine ⟨(by kernel_rfl : chkR _ _ _ _ = true), ?_⟩; conv => whnf) | (refine EvOr.go ?_; conv => whnf))
  intro c hc
  by_cases hk : k = r
  · subst hk
    have := hu.2 rfl
    obtain rfl : c = true := by rw [hc, this]; simp
    conv => whnf
    repeat (first | (refine ⟨(by kernel_rfl : chkR _ _ _ _ = true), ?_⟩; conv => whnf) | (refine EvOr.go ?_; conv => whnf))
    refine ⟨_, conv8 hka, ?_⟩
    conv => whnf
    repeat (first | (refine ⟨(by kernel_rfl : chkR _ _ _ _ = true), ?_⟩; conv => whnf) | (refine EvOr.go ?_; conv => whnf))
    exact retQ.all tabOk _ [ub k, ub (k ^^^ p)] rfl (by first | exact .inr rfl | exact .inl rfl) (by repeat' (first | exact trivial | rfl | (intro h; cases h; done) | (refine ⟨?_, ?_⟩))) rfl (by rfl) (Nat.le_of_ble_eq_true rfl) (by rfl)
  · have : ¬ gmul u k ^^^ gmul v (k ^^^ p) = q := fun h => hk (hu.1 h)
    obtain rfl : c = false := by rw [hc]; simp; omega
    conv => whnf
    repeat (first | (refine ⟨(by kernel_rfl : chkR _ _ _ _ = true), ?_⟩; conv => whnf) | (refine EvOr.go ?_; conv => whnf))
    refine ⟨_, inc_nat (by omega), ?_⟩
    conv => whnf
    repeat (first | (refine ⟨(by kernel_rfl : chkR _ _ _ _ = true), ?_⟩; conv => whnf) | (refine EvOr.go ?_; conv => whnf))
    refine ⟨by first | exact hk | omega, _, StW.ofP [] ?_ ?_ ?_⟩
    · kernel_rfl
    · rfl
    · rfl
end Go.Proofs.Ytdmcbfmpnakdfaa.Eng
