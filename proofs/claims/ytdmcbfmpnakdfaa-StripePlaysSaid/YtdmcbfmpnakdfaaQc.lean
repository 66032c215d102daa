/- Of, Right, Change. -/
import Derived.Test.YtdmcbfmpnakdfaaQb
namespace Go.Proofs.Ytdmcbfmpnakdfaa.Eng
open Go Go.Proofs Go.Proofs.Ytdmcbfmpnakdfaa.Gf
set_option maxRecDepth 20000
set_option maxHeartbeats 4000000
theorem c22 : Callable Try.prog 22 := ⟨⟨_, Try.func22, by kernel_rfl, by kernel_rfl⟩⟩
theorem c25 : Callable Try.prog 25 := ⟨⟨_, Try.func25, by kernel_rfl, by kernel_rfl⟩⟩
theorem c23 : Callable Try.prog 23 := ⟨⟨_, Try.func23, by kernel_rfl, by kernel_rfl⟩⟩
def ofE (n : Nat) : Int := if n = 0 then 2 else if 62 < n then 3 else 0
def ofP (L : List (List Nat)) (n : Nat) : List Nat := if n = 0 then zs 64 else if 62 < n then zs 64 else psum L n
def ofQ (L : List (List Nat)) (n : Nat) : List Nat := if n = 0 then zs 64 else if 62 < n then zs 64 else qsum L n
theorem of_ok (L : List (List Nat)) (n : Nat) (co : Option Nat) (hL : Secs L) (hn : n ≤ L.length) :
    FunT Try.prog 22 [.sc (.sl 0 0 64 n co)] [rowS L] (.tup [secV (ofP L n), secV (ofQ L n), iv (ofE n)]) [rowS L] := by
  have gP := fun h => plain_ok L n co hL hn h
  unfold ofP ofQ ofE
  by_cases h0 : n = 0
  · subst h0
    rw [if_pos rfl, if_pos rfl, if_pos rfl]
    cases co <;>
    · refine FunT.ev tabOk mixed Try.func22 rfl ?_
      conv => whnf
      repeat (first | (refine ⟨(by kernel_rfl : chkR _ _ _ _ = true), ?_⟩; conv => whnf) | (refine EvOr.go ?_; conv => whnf))
      intro c hc
      obtain rfl : c = true := by rw [hc]; rfl
      conv => whnf
      repeat (first | (refine ⟨(by kernel_rfl : chkR _ _ _ _ = true), ?_⟩; conv => whnf) | (refine EvOr.go ?_; conv => whnf))
      exact retQ.all tabOk _ [secV (zs 64), secV (zs 64), iv 2] rfl (by first | exact .inr rfl | exact .inl rfl) (by repeat' (first | exact trivial | rfl | (intro h; cases h; done) | (refine ⟨?_, ?_⟩))) rfl (by rfl) (Nat.le_of_ble_eq_true rfl) (by rfl)
  rw [if_neg h0, if_neg h0, if_neg h0]
  by_cases h1 : 62 < n
  · rw [if_pos h1, if_pos h1, if_pos h1]
    cases co <;>
    · refine FunT.ev tabOk mixed Try.func22 rfl ?_
      conv => whnf
      repeat (first | (refine ⟨(by kernel_rfl : chkR _ _ _ _ = true), ?_⟩; conv => whnf) | (refine EvOr.go ?_; conv => whnf))
      intro c hc
      obtain rfl : c = false := by rw [hc]; simp; omega
      conv => whnf
      repeat (first | (refine ⟨(by kernel_rfl : chkR _ _ _ _ = true), ?_⟩; conv => whnf) | (refine EvOr.go ?_; conv => whnf))
      intro c hc
      obtain rfl : c = true := by rw [hc]; simp; omega
      conv => whnf
      repeat (first | (refine ⟨(by kernel_rfl : chkR _ _ _ _ = true), ?_⟩; conv => whnf) | (refine EvOr.go ?_; conv => whnf))
      exact retQ.all tabOk _ [secV (zs 64), secV (zs 64), iv 3] rfl (by first | exact .inr rfl | exact .inl rfl) (by repeat' (first | exact trivial | rfl | (intro h; cases h; done) | (refine ⟨?_, ?_⟩))) rfl (by rfl) (Nat.le_of_ble_eq_true rfl) (by rfl)
  rw [if_neg h1, if_neg h1, if_neg h1]
  have gP := gP (by omega)
  cases co <;>
  · refine FunT.ev tabOk mixed Try.func22 rfl ?_
    conv => whnf
    repeat (first | (refine ⟨(by kernel_rfl : chkR _ _ _ _ = true), ?_⟩; conv => whnf) | (refine EvOr.go ?_; conv => whnf))
    intro c hc
    obtain rfl : c = false := by rw [hc]; simp; omega
    conv => whnf
    repeat (first | (refine ⟨(by kernel_rfl : chkR _ _ _ _ = true), ?_⟩; conv => whnf) | (refine EvOr.go ?_; conv => whnf))
    intro c hc
    obtain rfl : c = false := by rw [hc]; simp; omega
    conv => whnf
    repeat (first | (refine ⟨(by kernel_rfl : chkR _ _ _ _ = true), ?_⟩; conv => whnf) | (refine EvOr.go ?_; conv => whnf))
    refine CallG.use gP c73 [0] [] ?_ ?_ ?_ ?_ ?_ ?_; rfl; rfl; kernel_rfl; rfl; rfl
    conv => whnf
    repeat (first | (refine ⟨(by kernel_rfl : chkR _ _ _ _ = true), ?_⟩; conv => whnf) | (refine EvOr.go ?_; conv => whnf))
    exact retQ.all tabOk _ [secV (psum L n), secV (qsum L n), iv 0] rfl (by first | exact .inr rfl | exact .inl rfl) (by repeat' (first | exact trivial | rfl | (intro h; cases h; done) | (refine ⟨?_, ?_⟩))) rfl (by rfl) (Nat.le_of_ble_eq_true rfl) (by rfl)
theorem of_nil : FunT Try.prog 22 [.sc nilS] [] (.tup [secV (zs 64), secV (zs 64), iv 2]) [] := by
  refine FunT.ev tabOk mixed Try.func22 rfl ?_
  conv => whnf
  repeat (first | (refine ⟨(by kernel_rfl : chkR _ _ _ _ = true), ?_⟩; conv => whnf) | (refine EvOr.go ?_; conv => whnf))
  intro c hc
  obtain rfl : c = true := by rw [hc]; rfl
  conv => whnf
  repeat (first | (refine ⟨(by kernel_rfl : chkR _ _ _ _ = true), ?_⟩; conv => whnf) | (refine EvOr.go ?_; conv => whnf))
  exact retQ.all tabOk _ [secV (zs 64), secV (zs 64), iv 2] rfl (by first | exact .inr rfl | exact .inl rfl) (by repeat' (first | exact trivial | rfl | (intro h; cases h; done) | (refine ⟨?_, ?_⟩))) rfl (by rfl) (Nat.le_of_ble_eq_true rfl) (by rfl)
theorem bysN_inj {a b : List Nat} (ha : Sec a) (hb : Sec b) : bysN 64 a = bysN 64 b ↔ a = b := bysN_eq ha.len hb.len
def rightB (L : List (List Nat)) : Bool :=
  if L.length < 3 then false else if 64 < L.length then false else psum L (L.length - 2) == L.getD (L.length - 2) [] && qsum L (L.length - 2) == L.getD (L.length - 1) []
theorem sub_nat {n m : Nat} (h : n < 2 ^ 62) (hm : m < 2 ^ 62) : arithI .sub .i64 (n : Int) (m : Int) = some ((n : Int) - m) := by
  show some (IntKind.i64.wrap _) = _
  rw [IntWalk.i64_in _ ⟨by omega, by omega⟩]
theorem right_ok (L : List (List Nat)) (co : Option Nat) (hL : Secs L) (hb : L.length < 2 ^ 32) (hco : ∀ c, co = some c → L.length ≤ c) :
    FunT Try.prog 25 [.sc (.sl 0 0 64 L.length co)] [rowS L] (bv (rightB L)) [rowS L] := by
  have gP := fun (m : Nat) (h : m ≤ L.length) => plain_ok L m co hL h (by omega)
  have e0 : arithI .sub .i64 (L.length : Int) 2 = some ((L.length : Int) - 2) := sub_nat (m := 2) (by omega) (by decide)
  obtain ⟨N, hN⟩ : ∃ N, N = L.length := ⟨_, rfl⟩
  unfold rightB
  rw [← hN] at e0 hco hb ⊢
  by_cases h0 : N < 3
  · rw [if_pos h0]
    cases co <;>
    · refine FunT.ev tabOk mixed Try.func25 rfl ?_
      conv => whnf
      repeat (first | (refine ⟨(by kernel_rfl : chkR _ _ _ _ = true), ?_⟩; conv => whnf) | (refine EvOr.go ?_; conv => whnf))
      refine ⟨_, e0, ?_⟩
      conv => whnf
      repeat (first | (refine ⟨(by kernel_rfl : chkR _ _ _ _ = true), ?_⟩; conv => whnf) | (refine EvOr.go ?_; conv => whnf))
      intro c hc
      obtain rfl : c = true := by rw [hc]; simp; omega
      conv => whnf
      repeat (first | (refine ⟨(by kernel_rfl : chkR _ _ _ _ = true), ?_⟩; conv => whnf) | (refine EvOr.go ?_; conv => whnf))
      exact retQ.one rfl (.inr rfl) rfl (Nat.le_of_ble_eq_true rfl) rfl
  rw [if_neg h0]
  by_cases h1 : 64 < N
  · rw [if_pos h1]
    cases co <;>
    · refine FunT.ev tabOk mixed Try.func25 rfl ?_
      conv => whnf
      repeat (first | (refine ⟨(by kernel_rfl : chkR _ _ _ _ = true), ?_⟩; conv => whnf) | (refine EvOr.go ?_; conv => whnf))
      refine ⟨_, e0, ?_⟩
      conv => whnf
      repeat (first | (refine ⟨(by kernel_rfl : chkR _ _ _ _ = true), ?_⟩; conv => whnf) | (refine EvOr.go ?_; conv => whnf))
      intro c hc
      obtain rfl : c = false := by rw [hc]; simp; omega
      conv => whnf
      repeat (first | (refine ⟨(by kernel_rfl : chkR _ _ _ _ = true), ?_⟩; conv => whnf) | (refine EvOr.go ?_; conv => whnf))
      intro c hc
      obtain rfl : c = true := by rw [hc]; simp; omega
      conv => whnf
      repeat (first | (refine ⟨(by kernel_rfl : chkR _ _ _ _ = true), ?_⟩; conv => whnf) | (refine EvOr.go ?_; conv => whnf))
      exact retQ.one rfl (.inr rfl) rfl (Nat.le_of_ble_eq_true rfl) rfl
  rw [if_neg h1]
  have e1 : arithI .sub .i64 (N : Int) 2 = some (((N - 2 : Nat) : Nat) : Int) := by rw [e0]; congr 1; omega
  have e2 : arithI .add .i64 ((N - 2 : Nat) : Int) 1 = some ((N - 1 : Nat) : Int) := by
    have := inc_nat (k := N - 2) (by omega)
    rw [this, show N - 2 + 1 = N - 1 by omega]
  have hm2 : N - 2 < L.length := by omega
  have hm1 : N - 1 < L.length := by omega
  have i1 := bysN_inj (psum_sec hL (N - 2) (by omega)) (hL.at hm2)
  have i2 := bysN_inj (qsum_sec hL (N - 2) (by omega)) (hL.at hm1)
  have gP := gP (N - 2) (by omega)
  have hml := hN
  generalize psum L (N - 2) = p at gP i1 ⊢
  generalize qsum L (N - 2) = q at gP i2 ⊢
  obtain ⟨m, hm⟩ : ∃ m, m = N - 2 := ⟨_, rfl⟩
  rw [← hm] at e1 e2 i1 gP ⊢
  have s1 := sec_get (L := L) (k := m) (by omega)
  have s2 := sec_get (L := L) (k := N - 1) (by omega)
  cases co <;>
  · refine FunT.ev tabOk mixed Try.func25 rfl ?_
    conv => whnf
    repeat (first | (refine ⟨(by kernel_rfl : chkR _ _ _ _ = true), ?_⟩; conv => whnf) | (refine EvOr.go ?_; conv => whnf))
    refine ⟨_, e1, ?_⟩
    conv => whnf
    repeat (first | (refine ⟨(by kernel_rfl : chkR _ _ _ _ = true), ?_⟩; conv => whnf) | (refine EvOr.go ?_; conv => whnf))
    intro c hc
    obtain rfl : c = false := by rw [hc]; simp; omega
    conv => whnf
    repeat (first | (refine ⟨(by kernel_rfl : chkR _ _ _ _ = true), ?_⟩; conv => whnf) | (refine EvOr.go ?_; conv => whnf))
    intro c hc
    obtain rfl : c = false := by rw [hc]; simp; omega
    conv => whnf
    repeat (first | (refine ⟨(by kernel_rfl : chkR _ _ _ _ = true), ?_⟩; conv => whnf) | (refine EvOr.go ?_; conv => whnf))
    refine ⟨⟨Int.le_refl _, by omega, by first | (show (m : Int) ≤ (N : Nat); omega) | (have := hco _ rfl; show (m : Int) ≤ (_ : Nat); omega), fun h => by first | (cases h; done) | exact ⟨_, _, _, _, _, rfl, by rw [List.length_map]; omega⟩⟩, fun _ => ?_, fun _ h => absurd h (by decide)⟩
    conv => whnf
    repeat (first | (refine ⟨(by kernel_rfl : chkR _ _ _ _ = true), ?_⟩; conv => whnf) | (refine EvOr.go ?_; conv => whnf))
    refine CallG.use gP c73 [0] [] ?_ ?_ ?_ ?_ ?_ ?_; rfl; rfl; kernel_rfl; rfl; rfl
    conv => whnf
    repeat (first | (refine ⟨(by kernel_rfl : chkR _ _ _ _ = true), ?_⟩; conv => whnf) | (refine EvOr.go ?_; conv => whnf))
    refine ⟨⟨by omega, by omega⟩, ?_⟩
    conv => whnf
    repeat (first | (refine ⟨(by kernel_rfl : chkR _ _ _ _ = true), ?_⟩; conv => whnf) | (refine EvOr.go ?_; conv => whnf))
    refine ⟨_, s1, ?_⟩
    conv => whnf
    repeat (first | (refine ⟨(by kernel_rfl : chkR _ _ _ _ = true), ?_⟩; conv => whnf) | (refine EvOr.go ?_; conv => whnf))
    refine ⟨rfl, ?_⟩
    refine ⟨eq34, ?_⟩
    conv => whnf
    repeat (first | (refine ⟨(by kernel_rfl : chkR _ _ _ _ = true), ?_⟩; conv => whnf) | (refine EvOr.go ?_; conv => whnf))
    intro c hc
    cases c
    · conv => whnf
      repeat (first | (refine ⟨(by kernel_rfl : chkR _ _ _ _ = true), ?_⟩; conv => whnf) | (refine EvOr.go ?_; conv => whnf))
      refine retQ.one rfl (.inr rfl) ?_ (Nat.le_of_ble_eq_true rfl) rfl
      have : ¬ p = L.getD m [] := fun h => by rw [i1] at hc; simpa using hc.2 h
      rw [show (p == L.getD m []) = false by simpa using this]; rfl
    · have h1 : p = L.getD m [] := i1.1 (hc.1 rfl)
      conv => whnf
      repeat (first | (refine ⟨(by kernel_rfl : chkR _ _ _ _ = true), ?_⟩; conv => whnf) | (refine EvOr.go ?_; conv => whnf))
      refine ⟨_, e2, ?_⟩
      conv => whnf
      repeat (first | (refine ⟨(by kernel_rfl : chkR _ _ _ _ = true), ?_⟩; conv => whnf) | (refine EvOr.go ?_; conv => whnf))
      refine ⟨⟨by omega, by omega⟩, ?_⟩
      conv => whnf
      repeat (first | (refine ⟨(by kernel_rfl : chkR _ _ _ _ = true), ?_⟩; conv => whnf) | (refine EvOr.go ?_; conv => whnf))
      refine ⟨_, s2, ?_⟩
      conv => whnf
      repeat (first | (refine ⟨(by kernel_rfl : chkR _ _ _ _ = true), ?_⟩; conv => whnf) | (refine EvOr.go ?_; conv => whnf))
      refine ⟨rfl, ?_⟩
      refine ⟨eq34, ?_⟩
      conv => whnf
      repeat (first | (refine ⟨(by kernel_rfl : chkR _ _ _ _ = true), ?_⟩; conv => whnf) | (refine EvOr.go ?_; conv => whnf))
      intro c hc
      have e : (p == L.getD m [] && q == L.getD (N - 1) []) = c := by
        rw [show (p == L.getD m []) = true by simpa using h1, Bool.true_and]
        rw [i2] at hc
        cases c
        · simpa using hc
        · simpa using hc
      rw [e]
      cases c
      · conv => whnf
        repeat (first | (refine ⟨(by kernel_rfl : chkR _ _ _ _ = true), ?_⟩; conv => whnf) | (refine EvOr.go ?_; conv => whnf))
        exact retQ.one rfl (.inr rfl) rfl (Nat.le_of_ble_eq_true rfl) rfl
      · conv => whnf
        repeat (first | (refine ⟨(by kernel_rfl : chkR _ _ _ _ = true), ?_⟩; conv => whnf) | (refine EvOr.go ?_; conv => whnf))
        exact retQ.one rfl (.inr rfl) rfl (Nat.le_of_ble_eq_true rfl) rfl
def chE (i : Int) : Int := if i < 0 then 2 else if 62 ≤ i then 2 else 0
def chP (p o d : List Nat) (i : Int) : List Nat := if i < 0 then zs 64 else if 62 ≤ i then zs 64 else xorL p (xorL o d)
def chQ (q o d : List Nat) (i : Int) : List Nat := if i < 0 then zs 64 else if 62 ≤ i then zs 64 else xorL q (mulL (xorL o d) (pwZ i))
def chO (d : List Nat) (i : Int) : List Nat := if i < 0 then zs 64 else if 62 ≤ i then zs 64 else d
abbrev rowV3 (p q o : List Nat) : AV := .agg [.byt 64 p, .byt 64 q, .byt 64 o]
theorem change_ok (p q o d : List Nat) (i : Int) (hp : Sec p) (hq : Sec q) (ho : Sec o) (hd : Sec d) (hi : -2 ^ 63 ≤ i ∧ i < 2 ^ 63) :
    FunT Try.prog 23 [rowV3 p q o, iv i, secV d] [] (.tup [rowV3 (chP p o d i) (chQ q o d i) (chO d i), iv (chE i)]) [] := by
  have g1 := sum_ok o d ho hd
  have hx := xorL_sec ho hd
  have g2 := sum_ok p (xorL o d) hp hx
  have g3 := pow_ok i hi
  have g4 := times_ok (xorL o d) (pwZ i) hx (pwZ_lt i)
  have g5 := sum_ok q (mulL (xorL o d) (pwZ i)) hq (mulL_sec hx)
  unfold chP chQ chO chE
  by_cases h0 : i < 0
  · rw [if_pos h0, if_pos h0, if_pos h0, if_pos h0]
    refine FunT.ev tabOk mixed Try.func23 rfl ?_
    conv => whnf
    repeat (first | (refine ⟨(by kernel_rfl : chkR _ _ _ _ = true), ?_⟩; conv => whnf) | (refine EvOr.go ?_; conv => whnf))
    intro c hc
    obtain rfl : c = true := by rw [hc]; simp; omega
    conv => whnf
    repeat (first | (refine ⟨(by kernel_rfl : chkR _ _ _ _ = true), ?_⟩; conv => whnf) | (refine EvOr.go ?_; conv => whnf))
    exact retQ.all tabOk _ [rowV3 (zs 64) (zs 64) (zs 64), iv 2] rfl (by first | exact .inr rfl | exact .inl rfl) (by repeat' (first | exact trivial | rfl | (intro h; cases h; done) | (refine ⟨?_, ?_⟩))) rfl (by rfl) (Nat.le_of_ble_eq_true rfl) (by rfl)
  rw [if_neg h0, if_neg h0, if_neg h0, if_neg h0]
  by_cases h1 : 62 ≤ i
  · rw [if_pos h1, if_pos h1, if_pos h1, if_pos h1]
    refine FunT.ev tabOk mixed Try.func23 rfl ?_
    conv => whnf
    repeat (first | (refine ⟨(by kernel_rfl : chkR _ _ _ _ = true), ?_⟩; conv => whnf) | (refine EvOr.go ?_; conv => whnf))
    intro c hc
    obtain rfl : c = false := by rw [hc]; simp; omega
    conv => whnf
    repeat (first | (refine ⟨(by kernel_rfl : chkR _ _ _ _ = true), ?_⟩; conv => whnf) | (refine EvOr.go ?_; conv => whnf))
    intro c hc
    obtain rfl : c = true := by rw [hc]; simp; omega
    conv => whnf
    repeat (first | (refine ⟨(by kernel_rfl : chkR _ _ _ _ = true), ?_⟩; conv => whnf) | (refine EvOr.go ?_; conv => whnf))
    exact retQ.all tabOk _ [rowV3 (zs 64) (zs 64) (zs 64), iv 2] rfl (by first | exact .inr rfl | exact .inl rfl) (by repeat' (first | exact trivial | rfl | (intro h; cases h; done) | (refine ⟨?_, ?_⟩))) rfl (by rfl) (Nat.le_of_ble_eq_true rfl) (by rfl)
  rw [if_neg h1, if_neg h1, if_neg h1, if_neg h1]
  refine FunT.ev tabOk mixed Try.func23 rfl ?_
  conv => whnf
  repeat (first | (refine ⟨(by kernel_rfl : chkR _ _ _ _ = true), ?_⟩; conv => whnf) | (refine EvOr.go ?_; conv => whnf))
  intro c hc
  obtain rfl : c = false := by rw [hc]; simp; omega
  conv => whnf
  repeat (first | (refine ⟨(by kernel_rfl : chkR _ _ _ _ = true), ?_⟩; conv => whnf) | (refine EvOr.go ?_; conv => whnf))
  intro c hc
  obtain rfl : c = false := by rw [hc]; simp; omega
  conv => whnf
  repeat (first | (refine ⟨(by kernel_rfl : chkR _ _ _ _ = true), ?_⟩; conv => whnf) | (refine EvOr.go ?_; conv => whnf))
  refine CallG.use g1 c77 [] [] ?_ ?_ ?_ ?_ ?_ ?_; rfl; rfl; kernel_rfl; rfl; rfl
  conv => whnf
  repeat (first | (refine ⟨(by kernel_rfl : chkR _ _ _ _ = true), ?_⟩; conv => whnf) | (refine EvOr.go ?_; conv => whnf))
  refine CallG.use g2 c77 [] [] ?_ ?_ ?_ ?_ ?_ ?_; rfl; rfl; kernel_rfl; rfl; rfl
  conv => whnf
  repeat (first | (refine ⟨(by kernel_rfl : chkR _ _ _ _ = true), ?_⟩; conv => whnf) | (refine EvOr.go ?_; conv => whnf))
  refine CallG.use g3 c80 [] [] ?_ ?_ ?_ ?_ ?_ ?_; rfl; rfl; kernel_rfl; rfl; rfl
  conv => whnf
  repeat (first | (refine ⟨(by kernel_rfl : chkR _ _ _ _ = true), ?_⟩; conv => whnf) | (refine EvOr.go ?_; conv => whnf))
  refine CallG.use g4 c79 [] [] ?_ ?_ ?_ ?_ ?_ ?_; rfl; rfl; kernel_rfl; rfl; rfl
  conv => whnf
  repeat (first | (refine ⟨(by kernel_rfl : chkR _ _ _ _ = true), ?_⟩; conv => whnf) | (refine EvOr.go ?_; conv => whnf))
  refine CallG.use g5 c77 [] [] ?_ ?_ ?_ ?_ ?_ ?_; rfl; rfl; kernel_rfl; rfl; rfl
  conv => whnf
  repeat (first | (refine ⟨(by kernel_rfl : chkR _ _ _ _ = true), ?_⟩; conv => whnf) | (refine EvOr.go ?_; conv => whnf))
  exact retQ.all tabOk _ [rowV3 (xorL p (xorL o d)) (xorL q (mulL (xorL o d) (pwZ i))) d, iv 0] rfl (by first | exact .inr rfl | exact .inl rfl) (by repeat' (first | exact trivial | rfl | (intro h; cases h; done) | (refine ⟨?_, ?_⟩))) rfl (by rfl) (Nat.le_of_ble_eq_true rfl) (by rfl)
end Go.Proofs.Ytdmcbfmpnakdfaa.Eng
