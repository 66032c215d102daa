/- Division; two columns found. -/
import Derived.Test.YtdmcbfmpnakdfaaQc
namespace Go.Proofs.Ytdmcbfmpnakdfaa.Eng
open Go Go.Proofs Go.Proofs.Ytdmcbfmpnakdfaa.Gf
set_option maxRecDepth 20000
set_option maxHeartbeats 4000000
theorem c120 : Callable Try.prog 120 := ⟨⟨_, Try.func120, by kernel_rfl, by kernel_rfl⟩⟩
theorem c136 : Callable Try.prog 136 := ⟨⟨_, Try.func136, by kernel_rfl, by kernel_rfl⟩⟩
theorem c148 : Callable Try.prog 148 := ⟨⟨_, Try.func148, by kernel_rfl, by kernel_rfl⟩⟩
theorem c76 : Callable Try.prog 76 := ⟨⟨_, Try.func76, by kernel_rfl, by kernel_rfl⟩⟩
def logI (a k : Nat) : LTm × LHp := ([ub a, .junk, .junk, .junk, ub (pw k), .junk, iv (k : Nat), .junk, .junk, .junk, .junk, .junk, .junk, .junk, .junk, .junk], [])
theorem log_ok (a : Nat) (ha : a < 256) (h0 : a ≠ 0) : FunT Try.prog 148 [ub a] [] (.tup [iv (lg a : Nat), iv 0]) [] := by
  obtain ⟨I, hI⟩ : ∃ I, I = logI a := ⟨_, rfl⟩
  have hl := lg_lt ha h0
  have hp := pw_lg ha h0
  refine FunT.ev tabOk mixed Try.func148 rfl ?_
  conv => whnf
  repeat (first | (refine ⟨(by kernel_rfl : chkR _ _ _ _ = true), ?_⟩; conv => whnf) | (refine EvOr.go ?_; conv => whnf))
  refine CodeT.loopN tabOk mixed I (lg a) _ (StW.ofP [] ?_ ?_ ?_) (fun k => by subst hI; rfl) ?_
  · subst hI; kernel_rfl
  · subst hI; rfl
  · subst hI; rfl
  intro k hkl
  subst hI
  have hm : FunT Try.prog 121 [ub (pw k), .sc (.raw (.int .u8 2))] [] (ub (pw (k + 1))) [] := by
    have := mul_ok (pw k) (pw 1) (pw_lt k) (pw_lt 1)
    rw [pw_add] at this
    exact this
  conv => whnf
  repeat (first | (refine ⟨(by kernel_rfl : chkR _ _ _ _ = true), ?_⟩; conv => whnf) | (refine EvOr.go ?_; conv => whnf))
  intro c hc
  obtain rfl : c = true := by rw [hc]; exact decide_eq_true (by omega)
  conv => whnf
  repeat (first | (refine ⟨(by kernel_rfl : chkR _ _ _ _ = true), ?_⟩; conv => whnf) | (refine EvOr.go ?_; conv => whnf))
  intro c hc
  by_cases hk : k = lg a
  · subst hk
    obtain rfl : c = true := by rw [hc, hp]; simp
    conv => whnf
    repeat (first | (refine ⟨(by kernel_rfl : chkR _ _ _ _ = true), ?_⟩; conv => whnf) | (refine EvOr.go ?_; conv => whnf))
    exact retQ.all tabOk _ [iv (lg a : Nat), iv 0] rfl (by first | exact .inr rfl | exact .inl rfl) (by repeat' (first | exact trivial | rfl | (intro h; cases h; done) | (refine ⟨?_, ?_⟩))) rfl (by rfl) (Nat.le_of_ble_eq_true rfl) (by rfl)
  · have : pw k ≠ a := fun h => by
      rw [← hp, pw_eq_iff] at h; omega
    obtain rfl : c = false := by rw [hc]; simp; omega
    conv => whnf
    repeat (first | (refine ⟨(by kernel_rfl : chkR _ _ _ _ = true), ?_⟩; conv => whnf) | (refine EvOr.go ?_; conv => whnf))
    refine CallG.use hm c121 [] [] ?_ ?_ ?_ ?_ ?_ ?_; rfl; rfl; kernel_rfl; rfl; rfl
    conv => whnf
    repeat (first | (refine ⟨(by kernel_rfl : chkR _ _ _ _ = true), ?_⟩; conv => whnf) | (refine EvOr.go ?_; conv => whnf))
    refine ⟨_, inc_nat (by omega), ?_⟩
    conv => whnf
    repeat (first | (refine ⟨(by kernel_rfl : chkR _ _ _ _ = true), ?_⟩; conv => whnf) | (refine EvOr.go ?_; conv => whnf))
    refine ⟨by first | exact hk | omega, _, StW.ofP [] ?_ ?_ ?_⟩
    · kernel_rfl
    · rfl
    · rfl
theorem inv_ok (a : Nat) (ha : a < 256) (h0 : a ≠ 0) : FunT Try.prog 136 [ub a] [] (.tup [ub (ginv a), iv 0]) [] := by
  have g1 := log_ok a ha h0
  have hl := lg_lt ha h0
  have g2 := pow_ok (-(lg a : Nat)) (by omega)
  refine FunT.ev tabOk mixed Try.func136 rfl ?_
  conv => whnf
  repeat (first | (refine ⟨(by kernel_rfl : chkR _ _ _ _ = true), ?_⟩; conv => whnf) | (refine EvOr.go ?_; conv => whnf))
  refine CallG.use g1 c148 [] [] ?_ ?_ ?_ ?_ ?_ ?_; rfl; rfl; kernel_rfl; rfl; rfl
  conv => whnf
  repeat (first | (refine ⟨(by kernel_rfl : chkR _ _ _ _ = true), ?_⟩; conv => whnf) | (refine EvOr.go ?_; conv => whnf))
  intro c hc
  obtain rfl : c = false := by rw [hc]; rfl
  conv => whnf
  repeat (first | (refine ⟨(by kernel_rfl : chkR _ _ _ _ = true), ?_⟩; conv => whnf) | (refine EvOr.go ?_; conv => whnf))
  refine ⟨-(lg a : Nat), by rw [IntWalk.i64_in _ ⟨by omega, by omega⟩]; omega, ?_⟩
  conv => whnf
  repeat (first | (refine ⟨(by kernel_rfl : chkR _ _ _ _ = true), ?_⟩; conv => whnf) | (refine EvOr.go ?_; conv => whnf))
  refine CallG.use g2 c80 [] [] ?_ ?_ ?_ ?_ ?_ ?_; rfl; rfl; kernel_rfl; rfl; rfl
  conv => whnf
  repeat (first | (refine ⟨(by kernel_rfl : chkR _ _ _ _ = true), ?_⟩; conv => whnf) | (refine EvOr.go ?_; conv => whnf))
  exact retQ.all tabOk _ [ub (ginv a), iv 0] rfl (by first | exact .inr rfl | exact .inl rfl) (by repeat' (first | exact trivial | rfl | (intro h; cases h; done) | (refine ⟨?_, ?_⟩))) rfl (by rfl) (Nat.le_of_ble_eq_true rfl) (by rfl)
theorem div_ok (x a : Nat) (hx : x < 256) (ha : a < 256) (h0 : a ≠ 0) : FunT Try.prog 120 [ub x, ub a] [] (.tup [ub (gmul x (ginv a)), iv 0]) [] := by
  have g1 := inv_ok a ha h0
  have g2 := mul_ok x (ginv a) hx (ginv_lt a)
  refine FunT.ev tabOk mixed Try.func120 rfl ?_
  conv => whnf
  repeat (first | (refine ⟨(by kernel_rfl : chkR _ _ _ _ = true), ?_⟩; conv => whnf) | (refine EvOr.go ?_; conv => whnf))
  refine CallG.use g1 c136 [] [] ?_ ?_ ?_ ?_ ?_ ?_; rfl; rfl; kernel_rfl; rfl; rfl
  conv => whnf
  repeat (first | (refine ⟨(by kernel_rfl : chkR _ _ _ _ = true), ?_⟩; conv => whnf) | (refine EvOr.go ?_; conv => whnf))
  intro c hc
  obtain rfl : c = false := by rw [hc]; rfl
  conv => whnf
  repeat (first | (refine ⟨(by kernel_rfl : chkR _ _ _ _ = true), ?_⟩; conv => whnf) | (refine EvOr.go ?_; conv => whnf))
  refine CallG.use g2 c121 [] [] ?_ ?_ ?_ ?_ ?_ ?_; rfl; rfl; kernel_rfl; rfl; rfl
  conv => whnf
  repeat (first | (refine ⟨(by kernel_rfl : chkR _ _ _ _ = true), ?_⟩; conv => whnf) | (refine EvOr.go ?_; conv => whnf))
  exact retQ.all tabOk _ [ub (gmul x (ginv a)), iv 0] rfl (by first | exact .inr rfl | exact .inl rfl) (by repeat' (first | exact trivial | rfl | (intro h; cases h; done) | (refine ⟨?_, ?_⟩))) rfl (by rfl) (Nat.le_of_ble_eq_true rfl) (by rfl)
def twoA (p q : List Nat) (u v : Nat) : List Nat := mulL (xorL q (mulL p v)) (ginv (u ^^^ v))
def twoB (p q : List Nat) (u v : Nat) : List Nat := xorL p (twoA p q u v)
theorem twoA_sec {p q : List Nat} {u v : Nat} (hp : Sec p) (hq : Sec q) : Sec (twoA p q u v) := mulL_sec (xorL_sec hq (mulL_sec hp))
theorem twoB_sec {p q : List Nat} {u v : Nat} (hp : Sec p) (hq : Sec q) : Sec (twoB p q u v) := xorL_sec hp (twoA_sec hp hq)
def twoI (p q : List Nat) (u v k : Nat) : LTm × LHp :=
  ([.junk, .junk, .junk, .junk, .sc (.ptr 0 0 64 0), .sc (.ptr 1 0 64 0), .junk, .junk, .sc (.ptr 2 0 64 0), .sc (.ptr 3 0 64 0), ub u, ub v, .junk, .junk, .junk, .junk, .junk, iv (k : Nat), .junk, .junk, .junk, .junk, .junk, .junk, .junk, .junk, .junk, .junk, .junk, .junk, .junk, .junk, .junk, .junk, .junk, .junk, .junk, .junk, .junk, .junk, .junk, .junk, .junk, .junk, .junk, .junk, .junk, .junk, .junk, .junk],
   [secB p, secB q, secB (mix (twoA p q u v) zeros k), secB (mix (twoB p q u v) zeros k)])
theorem two_ok (p q : List Nat) (x y : Int) (hp : Sec p) (hq : Sec q) (hx : -2 ^ 63 ≤ x ∧ x < 2 ^ 63) (hy : -2 ^ 63 ≤ y ∧ y < 2 ^ 63) (hne : x % 255 ≠ y % 255) :
    FunT Try.prog 76 [secV p, secV q, iv x, iv y] [] (.tup [secV (twoA p q (pwZ x) (pwZ y)), secV (twoB p q (pwZ x) (pwZ y))]) [] := by
  have gx := pow_ok x hx
  have gy := pow_ok y hy
  have hd : pwZ x ^^^ pwZ y ≠ 0 := fun h => hne ((pwZ_eq_iff x y).1 (by have := congrArg (· ^^^ pwZ y) h; simpa [Nat.xor_assoc] using this))
  have hu := pwZ_lt x
  have hv := pwZ_lt y
  generalize pwZ x = u at *
  generalize pwZ y = v at *
  have sA := twoA_sec (u := u) (v := v) hp hq
  have sB := twoB_sec (u := u) (v := v) hp hq
  have z0 : zs 64 = zeros := rfl
  obtain ⟨I, hI⟩ : ∃ I, I = twoI p q u v := ⟨_, rfl⟩
  refine FunT.ev tabOk mixed Try.func76 rfl ?_
  conv => whnf
  repeat (first | (refine ⟨(by kernel_rfl : chkR _ _ _ _ = true), ?_⟩; conv => whnf) | (refine EvOr.go ?_; conv => whnf))
  refine CallG.use gx c80 [] [] ?_ ?_ ?_ ?_ ?_ ?_; rfl; rfl; kernel_rfl; rfl; rfl
  conv => whnf
  repeat (first | (refine ⟨(by kernel_rfl : chkR _ _ _ _ = true), ?_⟩; conv => whnf) | (refine EvOr.go ?_; conv => whnf))
  refine CallG.use gy c80 [] [] ?_ ?_ ?_ ?_ ?_ ?_; rfl; rfl; kernel_rfl; rfl; rfl
  conv => whnf
  repeat (first | (refine ⟨(by kernel_rfl : chkR _ _ _ _ = true), ?_⟩; conv => whnf) | (refine EvOr.go ?_; conv => whnf))
  refine CodeT.loopN tabOk mixed I 64 _ (StW.ofP [0, 1, 2, 3] ?_ ?_ ?_) (fun k => by subst hI; rfl) ?_
  · subst hI; kernel_rfl
  · subst hI; rfl
  · subst hI; rfl
  intro k hkl
  subst hI
  have lA := mix_length (r := twoA p q u v) (a := zeros) (k := k) sA.len zeros_sec.len hkl
  have lB := mix_length (r := twoB p q u v) (a := zeros) (k := k) sB.len zeros_sec.len hkl
  show evC Try.prog tab _ _ (twoI p q u v k).1 [secB p, secB q, secB (mix (twoA p q u v) zeros k), secB (mix (twoB p q u v) zeros k)] _
  by_cases hk : k < 64
  · have eA : (twoA p q u v).getD k 0 = gmul (q.getD k 0 ^^^ gmul v (p.getD k 0)) (ginv (u ^^^ v)) := by
      unfold twoA
      rw [mulL_get (by rw [(xorL_sec hq (mulL_sec hp)).len]; exact hk), xorL_get (by rw [hq.len]; exact hk) (by rw [mulL_length hp.len]; exact hk), mulL_get (by rw [hp.len]; exact hk), gmul_comm hv (hp.get k)]
    have eB : (twoB p q u v).getD k 0 = p.getD k 0 ^^^ (twoA p q u v).getD k 0 := xorL_get (by rw [hp.len]; exact hk) (by rw [sA.len]; exact hk)
    have hA := mix_set (r := twoA p q u v) (a := zeros) sA.len zeros_sec.len hk
    have hB := mix_set (r := twoB p q u v) (a := zeros) sB.len zeros_sec.len hk
    have gA : ((mix (twoA p q u v) zeros k).set k ((twoA p q u v).getD k 0)).getD k 0 = (twoA p q u v).getD k 0 := by
      rw [List.getD_eq_getElem?_getD, List.getElem?_set_self (by omega)]; rfl
    have bA := sA.get k
    rw [eB] at hB
    have m1 := mul_ok v (p.getD k 0) hv (hp.get k)
    have hw := xor_lt (hq.get k) (gmul_lt (b := p.getD k 0) hv)
    have m2 := div_ok (q.getD k 0 ^^^ gmul v (p.getD k 0)) (u ^^^ v) hw (xor_lt hu hv) hd
    rw [← eA] at m2
    generalize (twoA p q u v).getD k 0 = ak at *
    generalize mix (twoA p q u v) zeros k = A at *
    generalize mix (twoB p q u v) zeros k = B at *
    conv => whnf
    repeat (first | (refine ⟨(by kernel_rfl : chkR _ _ _ _ = true), ?_⟩; conv => whnf) | (refine EvOr.go ?_; conv => whnf))
    intro c hc
    obtain rfl : c = true := by rw [hc]; exact decide_eq_true (by omega)
    conv => whnf
    repeat (first | (refine ⟨(by kernel_rfl : chkR _ _ _ _ = true), ?_⟩; conv => whnf) | (refine EvOr.go ?_; conv => whnf))
    refine ⟨⟨by omega, by show (k : Int) < 64; omega⟩, ?_⟩
    conv => whnf
    repeat (first | (refine ⟨(by kernel_rfl : chkR _ _ _ _ = true), ?_⟩; conv => whnf) | (refine EvOr.go ?_; conv => whnf))
    refine ⟨by show k < 64; omega, ?_⟩
    conv => whnf
    repeat (first | (refine ⟨(by kernel_rfl : chkR _ _ _ _ = true), ?_⟩; conv => whnf) | (refine EvOr.go ?_; conv => whnf))
    refine ⟨⟨by omega, by show (k : Int) < 64; omega⟩, ?_⟩
    conv => whnf
    repeat (first | (refine ⟨(by kernel_rfl : chkR _ _ _ _ = true), ?_⟩; conv => whnf) | (refine EvOr.go ?_; conv => whnf))
    refine ⟨by show k < 64; omega, ?_⟩
    conv => whnf
    repeat (first | (refine ⟨(by kernel_rfl : chkR _ _ _ _ = true), ?_⟩; conv => whnf) | (refine EvOr.go ?_; conv => whnf))
    refine CallG.use m1 c121 [] [] ?_ ?_ ?_ ?_ ?_ ?_; rfl; rfl; kernel_rfl; rfl; rfl
    conv => whnf
    repeat (first | (refine ⟨(by kernel_rfl : chkR _ _ _ _ = true), ?_⟩; conv => whnf) | (refine EvOr.go ?_; conv => whnf))
    refine ⟨_, xor8 (a := q.getD k 0) (hq.get k) (gmul_lt (b := p.getD k 0) hv), ?_⟩
    conv => whnf
    repeat (first | (refine ⟨(by kernel_rfl : chkR _ _ _ _ = true), ?_⟩; conv => whnf) | (refine EvOr.go ?_; conv => whnf))
    refine ⟨_, xor8 hu hv, ?_⟩
    conv => whnf
    repeat (first | (refine ⟨(by kernel_rfl : chkR _ _ _ _ = true), ?_⟩; conv => whnf) | (refine EvOr.go ?_; conv => whnf))
    refine CallG.use m2 c120 [] [] ?_ ?_ ?_ ?_ ?_ ?_; rfl; rfl; kernel_rfl; rfl; rfl
    conv => whnf
    repeat (first | (refine ⟨(by kernel_rfl : chkR _ _ _ _ = true), ?_⟩; conv => whnf) | (refine EvOr.go ?_; conv => whnf))
    refine ⟨⟨by omega, by show (k : Int) < 64; omega⟩, ?_⟩
    conv => whnf
    repeat (first | (refine ⟨(by kernel_rfl : chkR _ _ _ _ = true), ?_⟩; conv => whnf) | (refine EvOr.go ?_; conv => whnf))
    refine ⟨⟨by show k < 64; omega, by omega, by omega, rfl⟩, ?_⟩
    conv => whnf
    repeat (first | (refine ⟨(by kernel_rfl : chkR _ _ _ _ = true), ?_⟩; conv => whnf) | (refine EvOr.go ?_; conv => whnf))
    refine ⟨⟨by omega, by show (k : Int) < 64; omega⟩, ?_⟩
    conv => whnf
    repeat (first | (refine ⟨(by kernel_rfl : chkR _ _ _ _ = true), ?_⟩; conv => whnf) | (refine EvOr.go ?_; conv => whnf))
    refine ⟨by show k < 64; omega, ?_⟩
    conv => whnf
    repeat (first | (refine ⟨(by kernel_rfl : chkR _ _ _ _ = true), ?_⟩; conv => whnf) | (refine EvOr.go ?_; conv => whnf))
    refine ⟨⟨by omega, by show (k : Int) < 64; omega⟩, ?_⟩
    conv => whnf
    repeat (first | (refine ⟨(by kernel_rfl : chkR _ _ _ _ = true), ?_⟩; conv => whnf) | (refine EvOr.go ?_; conv => whnf))
    refine ⟨by show k < 64; omega, ?_⟩
    conv => whnf
    repeat (first | (refine ⟨(by kernel_rfl : chkR _ _ _ _ = true), ?_⟩; conv => whnf) | (refine EvOr.go ?_; conv => whnf))
    have hx2 : arithI .xor .u8 ((p.getD k 0 : Nat) : Int) (((A.set k ak).getD k 0 : Nat) : Int) = some ((p.getD k 0 ^^^ ak : Nat) : Int) := by rw [gA]; exact xor8 (hp.get k) bA
    refine ⟨_, hx2, ?_⟩
    conv => whnf
    repeat (first | (refine ⟨(by kernel_rfl : chkR _ _ _ _ = true), ?_⟩; conv => whnf) | (refine EvOr.go ?_; conv => whnf))
    refine ⟨⟨by omega, by show (k : Int) < 64; omega⟩, ?_⟩
    conv => whnf
    repeat (first | (refine ⟨(by kernel_rfl : chkR _ _ _ _ = true), ?_⟩; conv => whnf) | (refine EvOr.go ?_; conv => whnf))
    refine ⟨⟨by show k < 64; omega, by omega, by omega, rfl⟩, ?_⟩
    conv => whnf
    repeat (first | (refine ⟨(by kernel_rfl : chkR _ _ _ _ = true), ?_⟩; conv => whnf) | (refine EvOr.go ?_; conv => whnf))
    refine ⟨_, inc_nat (by omega), ?_⟩
    conv => whnf
    repeat (first | (refine ⟨(by kernel_rfl : chkR _ _ _ _ = true), ?_⟩; conv => whnf) | (refine EvOr.go ?_; conv => whnf))
    refine ⟨by omega, _, StW.ofP [0, 1, 2, 3] ?_ ?_ ?_⟩
    · kernel_rfl
    · rfl
    · simp only [twoI, ← hA, ← hB]; rfl
  · obtain rfl : k = 64 := by omega
    have e1 := mix_full sA.len zeros_sec.len
    have e2 := mix_full sB.len zeros_sec.len
    generalize mix (twoA p q u v) zeros 64 = A at e1 ⊢
    generalize mix (twoB p q u v) zeros 64 = B at e2 ⊢
    rw [← e1, ← e2]
    conv => whnf
    repeat (first | (refine ⟨(by kernel_rfl : chkR _ _ _ _ = true), ?_⟩; conv => whnf) | (refine EvOr.go ?_; conv => whnf))
    intro c hc
    obtain rfl : c = false := by rw [hc]; rfl
    conv => whnf
    repeat (first | (refine ⟨(by kernel_rfl : chkR _ _ _ _ = true), ?_⟩; conv => whnf) | (refine EvOr.go ?_; conv => whnf))
    exact retQ.all tabOk _ [secV A, secV B] rfl (by first | exact .inr rfl | exact .inl rfl) (by repeat' (first | exact trivial | rfl | (intro h; cases h; done) | (refine ⟨?_, ?_⟩))) rfl (by rfl) (Nat.le_of_ble_eq_true rfl) (by rfl)
end Go.Proofs.Ytdmcbfmpnakdfaa.Eng
