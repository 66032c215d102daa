/- Bytes multiplied, powers; sectors summed, multiplied; parities. -/
import Derived.Test.YtdmcbfmpnakdfaaQp
namespace Go.Proofs.Ytdmcbfmpnakdfaa.Eng
open Go Go.Proofs Go.Proofs.Ytdmcbfmpnakdfaa.Gf
set_option maxRecDepth 20000
set_option maxHeartbeats 4000000
theorem c121 : Callable Try.prog 121 := ⟨⟨_, Try.func121, by kernel_rfl, by kernel_rfl⟩⟩
theorem c80 : Callable Try.prog 80 := ⟨⟨_, Try.func80, by kernel_rfl, by kernel_rfl⟩⟩
theorem c77 : Callable Try.prog 77 := ⟨⟨_, Try.func77, by kernel_rfl, by kernel_rfl⟩⟩
theorem c79 : Callable Try.prog 79 := ⟨⟨_, Try.func79, by kernel_rfl, by kernel_rfl⟩⟩
theorem c73 : Callable Try.prog 73 := ⟨⟨_, Try.func73, by kernel_rfl, by kernel_rfl⟩⟩
def mulI (a b : Nat) (k : Nat) : LTm × LHp :=
  ([ub (mit a b k).1, ub (mit a b k).2.1, .junk, .junk, ub (mit a b k).2.2, .junk, iv (k : Nat), .junk, .junk, .junk, .junk, .junk, .junk, .junk, .junk, .junk, .junk, .junk, .junk, .junk, .junk, .junk, .junk, .junk, .junk], [])
theorem mul_ok (a b : Nat) (ha : a < 256) (hb : b < 256) : FunT Try.prog 121 [ub a, ub b] [] (ub (gmul a b)) [] := by
  obtain ⟨I, hI⟩ : ∃ I, I = mulI a b := ⟨_, rfl⟩
  refine FunT.ev tabOk mixed Try.func121 rfl ?_
  conv => whnf
  repeat (first | (refine ⟨(by kernel_rfl : chkR _ _ _ _ = true), ?_⟩; conv => whnf) | (refine EvOr.go ?_; conv => whnf))
  refine CodeT.loopN tabOk mixed I 8 _ (StW.ofP [] ?_ ?_ ?_) (fun k => by subst hI; rfl) ?_
  · subst hI; kernel_rfl
  · subst hI; rfl
  · subst hI; rfl
  intro k hkl
  subst hI
  have hlt := mit_lt ha hb k
  have hs : mit a b (k + 1) = (xt (mit a b k).1, (mit a b k).2.1 / 2, if (mit a b k).2.1 % 2 = 0 then (mit a b k).2.2 else (mit a b k).2.2 ^^^ (mit a b k).1) := rfl
  have h8 : k = 8 → (mit a b k).2.2 = gmul a b := fun h => by rw [h]; exact mit_eight a b
  show evC Try.prog tab _ _ ([ub (mit a b k).1, ub (mit a b k).2.1, .junk, .junk, ub (mit a b k).2.2, .junk, iv (k : Nat), .junk, .junk, .junk, .junk, .junk, .junk, .junk, .junk, .junk, .junk, .junk, .junk, .junk, .junk, .junk, .junk, .junk, .junk]) [] _
  obtain ⟨N, hN⟩ : ∃ N, N = mit a b (k + 1) := ⟨_, rfl⟩
  rw [← hN] at hs
  generalize mit a b k = M at hlt hs h8 ⊢
  obtain ⟨x, y, o⟩ := M
  obtain ⟨hx, hy, ho⟩ := hlt
  conv => whnf
  repeat (first | (refine ⟨(by kernel_rfl : chkR _ _ _ _ = true), ?_⟩; conv => whnf) | (refine EvOr.go ?_; conv => whnf))
  intro c hc
  by_cases hk : k < 8
  · obtain rfl : c = true := by rw [hc]; exact decide_eq_true (by omega)
    conv => whnf
    repeat (first | (refine ⟨(by kernel_rfl : chkR _ _ _ _ = true), ?_⟩; conv => whnf) | (refine EvOr.go ?_; conv => whnf))
    refine ⟨_, and1 hy, ?_⟩
    conv => whnf
    repeat (first | (refine ⟨(by kernel_rfl : chkR _ _ _ _ = true), ?_⟩; conv => whnf) | (refine EvOr.go ?_; conv => whnf))
    intro c hc
    cases c
    · have h0 : y % 2 = 0 := by simp at hc; omega
      conv => whnf
      repeat (first | (refine ⟨(by kernel_rfl : chkR _ _ _ _ = true), ?_⟩; conv => whnf) | (refine EvOr.go ?_; conv => whnf))
      refine ⟨_, shr7 hx, ?_⟩
      conv => whnf
      repeat (first | (refine ⟨(by kernel_rfl : chkR _ _ _ _ = true), ?_⟩; conv => whnf) | (refine EvOr.go ?_; conv => whnf))
      refine ⟨_, shl1 hx, ?_⟩
      conv => whnf
      repeat (first | (refine ⟨(by kernel_rfl : chkR _ _ _ _ = true), ?_⟩; conv => whnf) | (refine EvOr.go ?_; conv => whnf))
      refine ⟨_, mul29 (by omega), ?_⟩
      conv => whnf
      repeat (first | (refine ⟨(by kernel_rfl : chkR _ _ _ _ = true), ?_⟩; conv => whnf) | (refine EvOr.go ?_; conv => whnf))
      refine ⟨_, xor8 (by omega) (by omega), ?_⟩
      conv => whnf
      repeat (first | (refine ⟨(by kernel_rfl : chkR _ _ _ _ = true), ?_⟩; conv => whnf) | (refine EvOr.go ?_; conv => whnf))
      refine ⟨_, shr1 hy, ?_⟩
      conv => whnf
      repeat (first | (refine ⟨(by kernel_rfl : chkR _ _ _ _ = true), ?_⟩; conv => whnf) | (refine EvOr.go ?_; conv => whnf))
      refine ⟨_, inc_nat (by omega), ?_⟩
      conv => whnf
      repeat (first | (refine ⟨(by kernel_rfl : chkR _ _ _ _ = true), ?_⟩; conv => whnf) | (refine EvOr.go ?_; conv => whnf))
      refine ⟨by omega, _, StW.ofP [] ?_ ?_ ?_⟩
      · kernel_rfl
      · have hs' : mit a b (k + 1) = (xt x, y / 2, o) := by rw [← hN, hs]; simp [h0]
        simp only [mulI, hs']; rfl
      · rfl
    · have h0 : ¬ y % 2 = 0 := by simp at hc; omega
      conv => whnf
      repeat (first | (refine ⟨(by kernel_rfl : chkR _ _ _ _ = true), ?_⟩; conv => whnf) | (refine EvOr.go ?_; conv => whnf))
      refine ⟨_, xor8 ho hx, ?_⟩
      conv => whnf
      repeat (first | (refine ⟨(by kernel_rfl : chkR _ _ _ _ = true), ?_⟩; conv => whnf) | (refine EvOr.go ?_; conv => whnf))
      refine ⟨_, shr7 hx, ?_⟩
      conv => whnf
      repeat (first | (refine ⟨(by kernel_rfl : chkR _ _ _ _ = true), ?_⟩; conv => whnf) | (refine EvOr.go ?_; conv => whnf))
      refine ⟨_, shl1 hx, ?_⟩
      conv => whnf
      repeat (first | (refine ⟨(by kernel_rfl : chkR _ _ _ _ = true), ?_⟩; conv => whnf) | (refine EvOr.go ?_; conv => whnf))
      refine ⟨_, mul29 (by omega), ?_⟩
      conv => whnf
      repeat (first | (refine ⟨(by kernel_rfl : chkR _ _ _ _ = true), ?_⟩; conv => whnf) | (refine EvOr.go ?_; conv => whnf))
      refine ⟨_, xor8 (by omega) (by omega), ?_⟩
      conv => whnf
      repeat (first | (refine ⟨(by kernel_rfl : chkR _ _ _ _ = true), ?_⟩; conv => whnf) | (refine EvOr.go ?_; conv => whnf))
      refine ⟨_, shr1 hy, ?_⟩
      conv => whnf
      repeat (first | (refine ⟨(by kernel_rfl : chkR _ _ _ _ = true), ?_⟩; conv => whnf) | (refine EvOr.go ?_; conv => whnf))
      refine ⟨_, inc_nat (by omega), ?_⟩
      conv => whnf
      repeat (first | (refine ⟨(by kernel_rfl : chkR _ _ _ _ = true), ?_⟩; conv => whnf) | (refine EvOr.go ?_; conv => whnf))
      refine ⟨by omega, _, StW.ofP [] ?_ ?_ ?_⟩
      · kernel_rfl
      · have hs' : mit a b (k + 1) = (xt x, y / 2, o ^^^ x) := by rw [← hN, hs]; simp [h0]
        simp only [mulI, hs']; rfl
      · rfl
  · obtain rfl : c = false := by rw [hc]; exact decide_eq_false (by omega)
    conv => whnf
    repeat (first | (refine ⟨(by kernel_rfl : chkR _ _ _ _ = true), ?_⟩; conv => whnf) | (refine EvOr.go ?_; conv => whnf))
    refine retQ.one rfl (.inr rfl) ?_ (Nat.le_of_ble_eq_true rfl) rfl
    rw [← h8 (by omega)]; rfl
abbrev PX (R : Nat) := {x : Nat × Nat × Nat // x.1 < 255 ∧ pw (x.2.1 + x.2.2 * x.1) = R}
def powI {R : Nat} (x : PX R) : LTm × LHp := ([iv (x.1.1 : Nat), .junk, .junk, ub (pw x.1.2.1), ub (pw x.1.2.2), .junk, .junk, .junk, .junk, .junk, .junk, .junk, .junk, .junk, .junk, .junk, .junk, .junk, .junk, .junk, .junk, .junk, .junk, .junk, .junk], [])
theorem pow_ok (n : Int) (_hn : -2 ^ 63 ≤ n ∧ n < 2 ^ 63) : FunT Try.prog 80 [iv n] [] (ub (pwZ n)) [] := by
  have hm := Int.tmod_lt_of_pos n (show (0 : Int) < 255 by decide)
  have hm2 : -255 < n.tmod 255 := by
    have := Int.lt_tmod_of_pos n (show (0 : Int) < 255 by decide)
    omega
  have key : ∀ m : Nat, m < 255 → ((m : Nat) : Int) = n % 255 → CodeT Try.prog 0 (suf 3 (bodyC Try.f80)) ([iv (m : Nat), .junk, .junk, .junk, .junk, .junk, .junk, .junk, .junk, .junk, .junk, .junk, .junk, .junk, .junk, .junk, .junk, .junk, .junk, .junk, .junk, .junk, .junk, .junk, .junk]) [] (retQ Try.prog Try.f80 0 (ub (pwZ n)) []) := by
    intro m hm hme
    have hR : pw (0 + 1 * m) = pwZ n := by unfold pwZ; rw [← hme]; simp
    have hp : ∀ i j, FunT Try.prog 121 [ub (pw i), ub (pw j)] [] (ub (pw (i + j))) [] := fun i j => by
      rw [← pw_add]; exact mul_ok _ _ (pw_lt i) (pw_lt j)
    refine evC_sound tabOk mixed _ _ _ _ ?_
    conv => whnf
    repeat (first | (refine ⟨(by kernel_rfl : chkR _ _ _ _ = true), ?_⟩; conv => whnf) | (refine EvOr.go ?_; conv => whnf))
    refine CodeT.loopE tabOk mixed (powI (R := pwZ n)) (fun x => x.1.1) ⟨(m, 0, 1), hm, hR⟩ (fun i => i) (StW.same (Nat.le_of_ble_eq_true rfl) rfl rfl) (fun _ => rfl) ?_
    intro ⟨⟨m, i, j⟩, hm, hx⟩
    replace hm : m < 255 := hm
    replace hx : pw (i + j * m) = pwZ n := hx
    have hmd : j * m = (j + j) * (m / 2) + j * (m % 2) := by
      have e := Nat.div_add_mod m 2
      calc j * m = j * (2 * (m / 2) + m % 2) := by rw [e]
        _ = _ := by rw [Nat.mul_add, Nat.add_mul, ← Nat.mul_assoc, Nat.mul_comm j 2, Nat.mul_assoc]; omega
    conv => whnf
    repeat (first | (refine ⟨(by kernel_rfl : chkR _ _ _ _ = true), ?_⟩; conv => whnf) | (refine EvOr.go ?_; conv => whnf))
    intro c hc
    by_cases hk : 0 < m
    · obtain rfl : c = true := by rw [hc]; exact decide_eq_true (by show (0 : Int) < (m : Nat); omega)
      conv => whnf
      repeat (first | (refine ⟨(by kernel_rfl : chkR _ _ _ _ = true), ?_⟩; conv => whnf) | (refine EvOr.go ?_; conv => whnf))
      refine ⟨_, and1i (show m < 256 by omega), ?_⟩
      conv => whnf
      repeat (first | (refine ⟨(by kernel_rfl : chkR _ _ _ _ = true), ?_⟩; conv => whnf) | (refine EvOr.go ?_; conv => whnf))
      intro c hc
      cases c
      · have h0 : m % 2 = 0 := by simp at hc; omega
        conv => whnf
        repeat (first | (refine ⟨(by kernel_rfl : chkR _ _ _ _ = true), ?_⟩; conv => whnf) | (refine EvOr.go ?_; conv => whnf))
        refine CallG.use (hp j j) c121 [] [] ?_ ?_ ?_ ?_ ?_ ?_; rfl; rfl; kernel_rfl; rfl; rfl
        conv => whnf
        repeat (first | (refine ⟨(by kernel_rfl : chkR _ _ _ _ = true), ?_⟩; conv => whnf) | (refine EvOr.go ?_; conv => whnf))
        refine ⟨_, shr1i (show m < 256 by omega), ?_⟩
        conv => whnf
        repeat (first | (refine ⟨(by kernel_rfl : chkR _ _ _ _ = true), ?_⟩; conv => whnf) | (refine EvOr.go ?_; conv => whnf))
        exact ⟨⟨(m / 2, i, j + j), by show m / 2 < 255; omega, by show pw (i + (j + j) * (m / 2)) = _; rw [← hx, hmd, h0, Nat.mul_zero, Nat.add_zero]⟩, fun i => i, StW.same (Nat.le_of_ble_eq_true rfl) rfl rfl, by show m / 2 < m; omega⟩
      · have h0 : m % 2 = 1 := by simp at hc; omega
        conv => whnf
        repeat (first | (refine ⟨(by kernel_rfl : chkR _ _ _ _ = true), ?_⟩; conv => whnf) | (refine EvOr.go ?_; conv => whnf))
        refine CallG.use (hp i j) c121 [] [] ?_ ?_ ?_ ?_ ?_ ?_; rfl; rfl; kernel_rfl; rfl; rfl
        conv => whnf
        repeat (first | (refine ⟨(by kernel_rfl : chkR _ _ _ _ = true), ?_⟩; conv => whnf) | (refine EvOr.go ?_; conv => whnf))
        refine CallG.use (hp j j) c121 [] [] ?_ ?_ ?_ ?_ ?_ ?_; rfl; rfl; kernel_rfl; rfl; rfl
        conv => whnf
        repeat (first | (refine ⟨(by kernel_rfl : chkR _ _ _ _ = true), ?_⟩; conv => whnf) | (refine EvOr.go ?_; conv => whnf))
        refine ⟨_, shr1i (show m < 256 by omega), ?_⟩
        conv => whnf
        repeat (first | (refine ⟨(by kernel_rfl : chkR _ _ _ _ = true), ?_⟩; conv => whnf) | (refine EvOr.go ?_; conv => whnf))
        exact ⟨⟨(m / 2, i + j, j + j), by show m / 2 < 255; omega, by show pw (i + j + (j + j) * (m / 2)) = _; rw [← hx, hmd, h0, Nat.mul_one]; congr 1; omega⟩, fun i => i, StW.same (Nat.le_of_ble_eq_true rfl) rfl rfl, by show m / 2 < m; omega⟩
    · obtain rfl : c = false := by rw [hc]; exact decide_eq_false (by show ¬ (0 : Int) < (m : Nat); omega)
      obtain rfl : m = 0 := by omega
      conv => whnf
      repeat (first | (refine ⟨(by kernel_rfl : chkR _ _ _ _ = true), ?_⟩; conv => whnf) | (refine EvOr.go ?_; conv => whnf))
      refine retQ.one rfl (.inr rfl) ?_ (Nat.le_of_ble_eq_true rfl) rfl
      have e : pw i = pwZ n := by rw [← hx, Nat.mul_zero, Nat.add_zero]
      show ub (pw i) = ub (pwZ n)
      rw [e]
  have hdm : 255 * n.tdiv 255 + n.tmod 255 = n := Int.mul_tdiv_add_tmod n 255
  generalize n.tdiv 255 = q at hdm
  have gK := key (n % 255).toNat (by omega) (by omega)
  have e3 : arithI .rem .i64 n 255 = some (n.tmod 255) := rfl
  generalize n.tmod 255 = r at hm hm2 hdm e3
  clear key
  refine FunT.ev tabOk mixed Try.func80 rfl ?_
  conv => whnf
  repeat (first | (refine ⟨(by kernel_rfl : chkR _ _ _ _ = true), ?_⟩; conv => whnf) | (refine EvOr.go ?_; conv => whnf))
  refine ⟨_, e3, ?_⟩
  conv => whnf
  repeat (first | (refine ⟨(by kernel_rfl : chkR _ _ _ _ = true), ?_⟩; conv => whnf) | (refine EvOr.go ?_; conv => whnf))
  intro c hc
  cases c
  · have h0 : ¬ r < 0 := by simpa using hc
    have e4 : (((n % 255).toNat : Nat) : Int) = r := by omega
    rw [e4] at gK
    conv => whnf
    refine ⟨(by kernel_rfl : chkR _ _ _ _ = true), ?_⟩
    conv => whnf
    refine EvOr.go ?_
    conv => whnf
    refine EvOr.cut (CodeT.weaken _ (StW.ofP [] ?_ ?_ ?_) (gK))
    · kernel_rfl
    · rfl
    · rfl
  · have h0 : r < 0 := by simpa using hc
    have e4 : arithI .add .i64 r 255 = some (((n % 255).toNat : Nat) : Int) := by
      show some (IntKind.i64.wrap (r + 255)) = _
      rw [IntWalk.i64_in _ ⟨by omega, by omega⟩]
      congr 1; omega
    conv => whnf
    repeat (first | (refine ⟨(by kernel_rfl : chkR _ _ _ _ = true), ?_⟩; conv => whnf) | (refine EvOr.go ?_; conv => whnf))
    refine ⟨_, e4, ?_⟩
    conv => whnf
    repeat (refine ⟨(by kernel_rfl : chkR _ _ _ _ = true), ?_⟩; conv => whnf)
    refine EvOr.cut (CodeT.weaken _ (StW.ofP [] ?_ ?_ ?_) gK)
    · kernel_rfl
    · rfl
    · rfl
end Go.Proofs.Ytdmcbfmpnakdfaa.Eng
