/- The row: put, lose, get, made. -/
import Derived.Test.YtdmcbfmpnakdfaaRd
namespace Go.Proofs.Ytdmcbfmpnakdfaa.Eng.St
open Go Go.RowKit Go.Shelf Go.Proofs Go.Proofs.Ytdmcbfmpnakdfaa.Gf Go.Proofs.Ytdmcbfmpnakdfaa.Rf
set_option maxRecDepth 20000
set_option maxHeartbeats 4000000
theorem has_in (x : Bool) (n : Nat) (L : List (List Nat)) (K : List Nat) (k : Nat) (hk : k < n) : FunT Try.prog 107 [rpV, iv (k : Nat)] (rw3 x n L K) (iv 0) (rw3 x n L K) := by
  have := has_ok x n L K (by omega) (k : Int)
  rwa [show hasE n (k : Int) = 0 from if_pos (by omega)] at this
theorem has_out (x : Bool) (n : Nat) (L : List (List Nat)) (K : List Nat) (h0 : 0 < n) (c : Int) (hc : ¬ (0 ≤ c ∧ c < n)) : FunT Try.prog 107 [rpV, iv c] (rw3 x n L K) (iv 2) (rw3 x n L K) := by
  have := has_ok x n L K h0 c
  rwa [show hasE n c = 2 from if_neg hc] at this
theorem kn_get {K : List Nat} {k : Nat} (hk : k < K.length) : ((kz K).map intS)[0 + (k : Int).toNat]? = some (intS (K.getD k 0 : Nat)) := by
  have h : (kz K).length = K.length := by simp [kz]
  rw [List.getD_eq_getElem?_getD, List.getElem?_eq_getElem hk]
  simp [kz, hk]
theorem kn_set {K : List Nat} {k v : Nat} : (kz (K.set k v)).map intS = ((kz K).map intS).set (0 + (k : Int).toNat) (intS (v : Nat)) := by
  simp [kz, List.map_set]
theorem put_out (x : Bool) (n : Nat) (L : List (List Nat)) (K : List Nat) (h0 : 0 < n) (c : Int) (s : List Nat) (hc : ¬ (0 ≤ c ∧ c < n)) : FunT Try.prog 52 [rpV, iv c, secV s] (rw3 x n L K) (iv 2) (rw3 x n L K) := by
  have i1 := has_out x n L K h0 c hc
  cases x <;>
  · refine FunT.ev tabOk mixed Try.func52 rfl ?_
    conv => whnf
    repeat (first | (refine ⟨(by kernel_rfl : chkR _ _ _ _ = true), ?_⟩; conv => whnf) | (refine EvOr.go ?_; conv => whnf))
    refine CallG.use i1 c107 [0, 1, 2] [] ?_ ?_ ?_ ?_ ?_ ?_; rfl; rfl; kernel_rfl; rfl; rfl
    conv => whnf
    repeat (first | (refine ⟨(by kernel_rfl : chkR _ _ _ _ = true), ?_⟩; conv => whnf) | (refine EvOr.go ?_; conv => whnf))
    intro c hc
    obtain rfl : c = true := by rw [hc]; rfl
    conv => whnf
    repeat (first | (refine ⟨(by kernel_rfl : chkR _ _ _ _ = true), ?_⟩; conv => whnf) | (refine EvOr.go ?_; conv => whnf))
    exact retQ.one rfl (.inr rfl) rfl (Nat.le_of_ble_eq_true rfl) rfl
theorem put_nil (c : Int) (s : List Nat) : FunT Try.prog 52 [nilP, iv c, secV s] [] (iv 1) [] := by
  refine FunT.ev tabOk mixed Try.func52 rfl ?_
  conv => whnf
  repeat (first | (refine ⟨(by kernel_rfl : chkR _ _ _ _ = true), ?_⟩; conv => whnf) | (refine EvOr.go ?_; conv => whnf))
  refine CallG.use (has_nil c) c107 [] [] ?_ ?_ ?_ ?_ ?_ ?_; rfl; rfl; kernel_rfl; rfl; rfl
  conv => whnf
  repeat (first | (refine ⟨(by kernel_rfl : chkR _ _ _ _ = true), ?_⟩; conv => whnf) | (refine EvOr.go ?_; conv => whnf))
  intro c hc
  obtain rfl : c = true := by rw [hc]; rfl
  conv => whnf
  repeat (first | (refine ⟨(by kernel_rfl : chkR _ _ _ _ = true), ?_⟩; conv => whnf) | (refine EvOr.go ?_; conv => whnf))
  exact retQ.one rfl (.inr rfl) rfl (Nat.le_of_ble_eq_true rfl) rfl
theorem put_in (x : Bool) (n : Nat) (L : List (List Nat)) (K : List Nat) (k : Nat) (s : List Nat) (hk : k < n) (hn : n < 2 ^ 32) (hL : L.length = n) (hK : K.length = n) (hb : K.getD k 0 < 2 ^ 40) :
    FunT Try.prog 52 [rpV, iv (k : Nat), secV s] (rw3 x n L K) (iv 0) (rw3 x n (L.set k s) (K.set k (K.getD k 0 + 1))) := by
  have i1 := has_in x n L K k hk
  have g1 := row_at (S := L) (k := k) (by omega)
  have g2 := kn_get (K := K) (k := k) (by omega)
  have e1 : (L.set k s).map secS = (L.map secS).set (0 + (k : Int).toNat) (secS s) := row_setS
  have e2 : (kz (K.set k (K.getD k 0 + 1))).map intS = ((kz K).map intS).set (0 + (k : Int).toNat) (intS (K.getD k 0 + 1 : Nat)) := kn_set
  have e3 : arithI .add .i64 (K.getD k 0 : Nat) 1 = some ((K.getD k 0 + 1 : Nat) : Int) := inc_nat (by omega)
  generalize K.getD k 0 = v at *
  cases x <;>
  · show FunT _ _ _ _ _ [_, some (.row _ 34 64 ((L.set k s).map secS) []), some (.row _ 3 1 ((kz (K.set k (v + 1))).map intS) [])]
    rw [e1, e2]
    refine FunT.ev tabOk mixed Try.func52 rfl ?_
    conv => whnf
    repeat (first | (refine ⟨(by kernel_rfl : chkR _ _ _ _ = true), ?_⟩; conv => whnf) | (refine EvOr.go ?_; conv => whnf))
    refine CallG.use i1 c107 [0, 1, 2] [] ?_ ?_ ?_ ?_ ?_ ?_; rfl; rfl; kernel_rfl; rfl; rfl
    conv => whnf
    repeat (first | (refine ⟨(by kernel_rfl : chkR _ _ _ _ = true), ?_⟩; conv => whnf) | (refine EvOr.go ?_; conv => whnf))
    intro c hc
    obtain rfl : c = false := by rw [hc]; rfl
    conv => whnf
    repeat (first | (refine ⟨(by kernel_rfl : chkR _ _ _ _ = true), ?_⟩; conv => whnf) | (refine EvOr.go ?_; conv => whnf))
    refine ⟨⟨by omega, by omega⟩, ?_⟩
    conv => whnf
    repeat (first | (refine ⟨(by kernel_rfl : chkR _ _ _ _ = true), ?_⟩; conv => whnf) | (refine EvOr.go ?_; conv => whnf))
    refine ⟨_, g1, ?_⟩
    conv => whnf
    repeat (first | (refine ⟨(by kernel_rfl : chkR _ _ _ _ = true), ?_⟩; conv => whnf) | (refine EvOr.go ?_; conv => whnf))
    refine ⟨⟨by omega, by omega⟩, ?_⟩
    conv => whnf
    repeat (first | (refine ⟨(by kernel_rfl : chkR _ _ _ _ = true), ?_⟩; conv => whnf) | (refine EvOr.go ?_; conv => whnf))
    refine ⟨_, g2, ?_⟩
    conv => whnf
    repeat (first | (refine ⟨(by kernel_rfl : chkR _ _ _ _ = true), ?_⟩; conv => whnf) | (refine EvOr.go ?_; conv => whnf))
    refine ⟨_, e3, ?_⟩
    conv => whnf
    repeat (first | (refine ⟨(by kernel_rfl : chkR _ _ _ _ = true), ?_⟩; conv => whnf) | (refine EvOr.go ?_; conv => whnf))
    refine ⟨⟨by omega, by omega⟩, ?_⟩
    conv => whnf
    repeat (first | (refine ⟨(by kernel_rfl : chkR _ _ _ _ = true), ?_⟩; conv => whnf) | (refine EvOr.go ?_; conv => whnf))
    refine ⟨_, g2, ?_⟩
    conv => whnf
    repeat (first | (refine ⟨(by kernel_rfl : chkR _ _ _ _ = true), ?_⟩; conv => whnf) | (refine EvOr.go ?_; conv => whnf))
    exact retQ.one rfl (.inr rfl) rfl (Nat.le_of_ble_eq_true rfl) rfl
theorem lose_out (x : Bool) (n : Nat) (L : List (List Nat)) (K : List Nat) (h0 : 0 < n) (c : Int) (hc : ¬ (0 ≤ c ∧ c < n)) : FunT Try.prog 54 [rpV, iv c] (rw3 x n L K) (iv 2) (rw3 x n L K) := by
  have i1 := has_out x n L K h0 c hc
  cases x <;>
  · refine FunT.ev tabOk mixed Try.func54 rfl ?_
    conv => whnf
    repeat (first | (refine ⟨(by kernel_rfl : chkR _ _ _ _ = true), ?_⟩; conv => whnf) | (refine EvOr.go ?_; conv => whnf))
    refine CallG.use i1 c107 [0, 1, 2] [] ?_ ?_ ?_ ?_ ?_ ?_; rfl; rfl; kernel_rfl; rfl; rfl
    conv => whnf
    repeat (first | (refine ⟨(by kernel_rfl : chkR _ _ _ _ = true), ?_⟩; conv => whnf) | (refine EvOr.go ?_; conv => whnf))
    intro c hc
    obtain rfl : c = true := by rw [hc]; rfl
    conv => whnf
    repeat (first | (refine ⟨(by kernel_rfl : chkR _ _ _ _ = true), ?_⟩; conv => whnf) | (refine EvOr.go ?_; conv => whnf))
    exact retQ.one rfl (.inr rfl) rfl (Nat.le_of_ble_eq_true rfl) rfl
theorem lose_emp (c : Int) : FunT Try.prog 54 [rpV, iv c] [empB] (iv 1) [empB] := by
  refine FunT.ev tabOk mixed Try.func54 rfl ?_
  conv => whnf
  repeat (first | (refine ⟨(by kernel_rfl : chkR _ _ _ _ = true), ?_⟩; conv => whnf) | (refine EvOr.go ?_; conv => whnf))
  refine CallG.use (has_emp c) c107 [0] [] ?_ ?_ ?_ ?_ ?_ ?_; rfl; rfl; kernel_rfl; rfl; rfl
  conv => whnf
  repeat (first | (refine ⟨(by kernel_rfl : chkR _ _ _ _ = true), ?_⟩; conv => whnf) | (refine EvOr.go ?_; conv => whnf))
  intro c hc
  obtain rfl : c = true := by rw [hc]; rfl
  conv => whnf
  repeat (first | (refine ⟨(by kernel_rfl : chkR _ _ _ _ = true), ?_⟩; conv => whnf) | (refine EvOr.go ?_; conv => whnf))
  exact retQ.one rfl (.inr rfl) rfl (Nat.le_of_ble_eq_true rfl) rfl
theorem lose_in (x : Bool) (n : Nat) (L : List (List Nat)) (K : List Nat) (k : Nat) (hk : k < n) (hK : K.length = n) :
    FunT Try.prog 54 [rpV, iv (k : Nat)] (rw3 x n L K) (iv 0) (rw3 x n L (K.set k 0)) := by
  have i1 := has_in x n L K k hk
  have g2 := kn_get (K := K) (k := k) (by omega)
  have e2 : (kz (K.set k 0)).map intS = ((kz K).map intS).set (0 + (k : Int).toNat) (intS (0 : Nat)) := kn_set
  cases x <;>
  · show FunT _ _ _ _ _ [_, _, some (.row _ 3 1 ((kz (K.set k 0)).map intS) [])]
    rw [e2]
    refine FunT.ev tabOk mixed Try.func54 rfl ?_
    conv => whnf
    repeat (first | (refine ⟨(by kernel_rfl : chkR _ _ _ _ = true), ?_⟩; conv => whnf) | (refine EvOr.go ?_; conv => whnf))
    refine CallG.use i1 c107 [0, 1, 2] [] ?_ ?_ ?_ ?_ ?_ ?_; rfl; rfl; kernel_rfl; rfl; rfl
    conv => whnf
    repeat (first | (refine ⟨(by kernel_rfl : chkR _ _ _ _ = true), ?_⟩; conv => whnf) | (refine EvOr.go ?_; conv => whnf))
    intro c hc
    obtain rfl : c = false := by rw [hc]; rfl
    conv => whnf
    repeat (first | (refine ⟨(by kernel_rfl : chkR _ _ _ _ = true), ?_⟩; conv => whnf) | (refine EvOr.go ?_; conv => whnf))
    refine ⟨⟨by omega, by omega⟩, ?_⟩
    conv => whnf
    repeat (first | (refine ⟨(by kernel_rfl : chkR _ _ _ _ = true), ?_⟩; conv => whnf) | (refine EvOr.go ?_; conv => whnf))
    refine ⟨_, g2, ?_⟩
    conv => whnf
    repeat (first | (refine ⟨(by kernel_rfl : chkR _ _ _ _ = true), ?_⟩; conv => whnf) | (refine EvOr.go ?_; conv => whnf))
    exact retQ.one rfl (.inr rfl) rfl (Nat.le_of_ble_eq_true rfl) rfl
theorem get_out (x : Bool) (n : Nat) (L : List (List Nat)) (K : List Nat) (h0 : 0 < n) (c : Int) (hc : ¬ (0 ≤ c ∧ c < n)) : FunT Try.prog 57 [rpV, iv c] (rw3 x n L K) (.tup [secV (zs 64), iv 2]) (rw3 x n L K) := by
  have i1 := has_out x n L K h0 c hc
  cases x <;>
  · refine FunT.ev tabOk mixed Try.func57 rfl ?_
    conv => whnf
    repeat (first | (refine ⟨(by kernel_rfl : chkR _ _ _ _ = true), ?_⟩; conv => whnf) | (refine EvOr.go ?_; conv => whnf))
    refine CallG.use i1 c107 [0, 1, 2] [] ?_ ?_ ?_ ?_ ?_ ?_; rfl; rfl; kernel_rfl; rfl; rfl
    conv => whnf
    repeat (first | (refine ⟨(by kernel_rfl : chkR _ _ _ _ = true), ?_⟩; conv => whnf) | (refine EvOr.go ?_; conv => whnf))
    intro c hc
    obtain rfl : c = true := by rw [hc]; rfl
    conv => whnf
    repeat (first | (refine ⟨(by kernel_rfl : chkR _ _ _ _ = true), ?_⟩; conv => whnf) | (refine EvOr.go ?_; conv => whnf))
    exact retQ.all tabOk _ [secV (zs 64), iv 2] rfl (by first | exact .inr rfl | exact .inl rfl) (by repeat' (first | exact trivial | rfl | (intro h; cases h; done) | (refine ⟨?_, ?_⟩))) rfl (by rfl) (Nat.le_of_ble_eq_true rfl) (by rfl)
theorem get_nil (c : Int) : FunT Try.prog 57 [nilP, iv c] [] (.tup [secV (zs 64), iv 1]) [] := by
  refine FunT.ev tabOk mixed Try.func57 rfl ?_
  conv => whnf
  repeat (first | (refine ⟨(by kernel_rfl : chkR _ _ _ _ = true), ?_⟩; conv => whnf) | (refine EvOr.go ?_; conv => whnf))
  refine CallG.use (has_nil c) c107 [] [] ?_ ?_ ?_ ?_ ?_ ?_; rfl; rfl; kernel_rfl; rfl; rfl
  conv => whnf
  repeat (first | (refine ⟨(by kernel_rfl : chkR _ _ _ _ = true), ?_⟩; conv => whnf) | (refine EvOr.go ?_; conv => whnf))
  intro c hc
  obtain rfl : c = true := by rw [hc]; rfl
  conv => whnf
  repeat (first | (refine ⟨(by kernel_rfl : chkR _ _ _ _ = true), ?_⟩; conv => whnf) | (refine EvOr.go ?_; conv => whnf))
  exact retQ.all tabOk _ [secV (zs 64), iv 1] rfl (by first | exact .inr rfl | exact .inl rfl) (by repeat' (first | exact trivial | rfl | (intro h; cases h; done) | (refine ⟨?_, ?_⟩))) rfl (by rfl) (Nat.le_of_ble_eq_true rfl) (by rfl)
def getE (K : List Nat) (k : Nat) : Int := if K.getD k 0 = 0 then 5 else 0
def getS (L : List (List Nat)) (K : List Nat) (k : Nat) : List Nat := if K.getD k 0 = 0 then zs 64 else L.getD k []
theorem get_in (x : Bool) (n : Nat) (L : List (List Nat)) (K : List Nat) (k : Nat) (hk : k < n) (hL : L.length = n) (hK : K.length = n) :
    FunT Try.prog 57 [rpV, iv (k : Nat)] (rw3 x n L K) (.tup [secV (getS L K k), iv (getE K k)]) (rw3 x n L K) := by
  have i1 := has_in x n L K k hk
  have g1 := row_at (S := L) (k := k) (by omega)
  have g2 := kn_get (K := K) (k := k) (by omega)
  unfold getS getE
  by_cases hv : K.getD k 0 = 0
  · rw [if_pos hv, if_pos hv]
    rw [hv] at g2
    cases x <;>
    · refine FunT.ev tabOk mixed Try.func57 rfl ?_
      conv => whnf
      repeat (first | (refine ⟨(by kernel_rfl : chkR _ _ _ _ = true), ?_⟩; conv => whnf) | (refine EvOr.go ?_; conv => whnf))
      refine CallG.use i1 c107 [0, 1, 2] [] ?_ ?_ ?_ ?_ ?_ ?_; rfl; rfl; kernel_rfl; rfl; rfl
      conv => whnf
      repeat (first | (refine ⟨(by kernel_rfl : chkR _ _ _ _ = true), ?_⟩; conv => whnf) | (refine EvOr.go ?_; conv => whnf))
      intro c hc
      obtain rfl : c = false := by rw [hc]; rfl
      conv => whnf
      repeat (first | (refine ⟨(by kernel_rfl : chkR _ _ _ _ = true), ?_⟩; conv => whnf) | (refine EvOr.go ?_; conv => whnf))
      refine ⟨⟨by omega, by omega⟩, ?_⟩
      conv => whnf
      repeat (first | (refine ⟨(by kernel_rfl : chkR _ _ _ _ = true), ?_⟩; conv => whnf) | (refine EvOr.go ?_; conv => whnf))
      refine ⟨_, g2, ?_⟩
      conv => whnf
      repeat (first | (refine ⟨(by kernel_rfl : chkR _ _ _ _ = true), ?_⟩; conv => whnf) | (refine EvOr.go ?_; conv => whnf))
      intro c hc
      obtain rfl : c = true := by rw [hc]; rfl
      conv => whnf
      repeat (first | (refine ⟨(by kernel_rfl : chkR _ _ _ _ = true), ?_⟩; conv => whnf) | (refine EvOr.go ?_; conv => whnf))
      exact retQ.all tabOk _ [secV (zs 64), iv 5] rfl (by first | exact .inr rfl | exact .inl rfl) (by repeat' (first | exact trivial | rfl | (intro h; cases h; done) | (refine ⟨?_, ?_⟩))) rfl (by rfl) (Nat.le_of_ble_eq_true rfl) (by rfl)
  · rw [if_neg hv, if_neg hv]
    generalize K.getD k 0 = v at *
    generalize L.getD k [] = S at *
    cases x <;>
    · refine FunT.ev tabOk mixed Try.func57 rfl ?_
      conv => whnf
      repeat (first | (refine ⟨(by kernel_rfl : chkR _ _ _ _ = true), ?_⟩; conv => whnf) | (refine EvOr.go ?_; conv => whnf))
      refine CallG.use i1 c107 [0, 1, 2] [] ?_ ?_ ?_ ?_ ?_ ?_; rfl; rfl; kernel_rfl; rfl; rfl
      conv => whnf
      repeat (first | (refine ⟨(by kernel_rfl : chkR _ _ _ _ = true), ?_⟩; conv => whnf) | (refine EvOr.go ?_; conv => whnf))
      intro c hc
      obtain rfl : c = false := by rw [hc]; rfl
      conv => whnf
      repeat (first | (refine ⟨(by kernel_rfl : chkR _ _ _ _ = true), ?_⟩; conv => whnf) | (refine EvOr.go ?_; conv => whnf))
      refine ⟨⟨by omega, by omega⟩, ?_⟩
      conv => whnf
      repeat (first | (refine ⟨(by kernel_rfl : chkR _ _ _ _ = true), ?_⟩; conv => whnf) | (refine EvOr.go ?_; conv => whnf))
      refine ⟨_, g2, ?_⟩
      conv => whnf
      repeat (first | (refine ⟨(by kernel_rfl : chkR _ _ _ _ = true), ?_⟩; conv => whnf) | (refine EvOr.go ?_; conv => whnf))
      intro c hc
      obtain rfl : c = false := by rw [hc]; simp; omega
      conv => whnf
      repeat (first | (refine ⟨(by kernel_rfl : chkR _ _ _ _ = true), ?_⟩; conv => whnf) | (refine EvOr.go ?_; conv => whnf))
      refine ⟨⟨by omega, by omega⟩, ?_⟩
      conv => whnf
      repeat (first | (refine ⟨(by kernel_rfl : chkR _ _ _ _ = true), ?_⟩; conv => whnf) | (refine EvOr.go ?_; conv => whnf))
      refine ⟨_, g1, ?_⟩
      conv => whnf
      repeat (first | (refine ⟨(by kernel_rfl : chkR _ _ _ _ = true), ?_⟩; conv => whnf) | (refine EvOr.go ?_; conv => whnf))
      exact retQ.all tabOk _ [secV S, iv 0] rfl (by first | exact .inr rfl | exact .inl rfl) (by repeat' (first | exact trivial | rfl | (intro h; cases h; done) | (refine ⟨?_, ?_⟩))) rfl (by rfl) (Nat.le_of_ble_eq_true rfl) (by rfl)
theorem new_bad (c : Int) (hc : ¬ (4 ≤ c ∧ c ≤ 64)) : FunT Try.prog 50 [iv c] [] (.tup [nilP, iv 2]) [] := by
  by_cases h1 : c < 4
  · refine FunT.ev tabOk mixed Try.func50 rfl ?_
    conv => whnf
    repeat (first | (refine ⟨(by kernel_rfl : chkR _ _ _ _ = true), ?_⟩; conv => whnf) | (refine EvOr.go ?_; conv => whnf))
    intro c hc
    obtain rfl : c = true := by rw [hc]; exact decide_eq_true (by omega)
    conv => whnf
    repeat (first | (refine ⟨(by kernel_rfl : chkR _ _ _ _ = true), ?_⟩; conv => whnf) | (refine EvOr.go ?_; conv => whnf))
    exact retQ.all tabOk _ [nilP, iv 2] rfl (by first | exact .inr rfl | exact .inl rfl) (by repeat' (first | exact trivial | rfl | (intro h; cases h; done) | (refine ⟨?_, ?_⟩))) rfl (by rfl) (Nat.le_of_ble_eq_true rfl) (by rfl)
  · refine FunT.ev tabOk mixed Try.func50 rfl ?_
    conv => whnf
    repeat (first | (refine ⟨(by kernel_rfl : chkR _ _ _ _ = true), ?_⟩; conv => whnf) | (refine EvOr.go ?_; conv => whnf))
    intro c hc
    obtain rfl : c = false := by rw [hc]; exact decide_eq_false (by omega)
    conv => whnf
    repeat (first | (refine ⟨(by kernel_rfl : chkR _ _ _ _ = true), ?_⟩; conv => whnf) | (refine EvOr.go ?_; conv => whnf))
    intro c hc
    obtain rfl : c = true := by rw [hc]; exact decide_eq_true (by omega)
    conv => whnf
    repeat (first | (refine ⟨(by kernel_rfl : chkR _ _ _ _ = true), ?_⟩; conv => whnf) | (refine EvOr.go ?_; conv => whnf))
    exact retQ.all tabOk _ [nilP, iv 2] rfl (by first | exact .inr rfl | exact .inl rfl) (by repeat' (first | exact trivial | rfl | (intro h; cases h; done) | (refine ⟨?_, ?_⟩))) rfl (by rfl) (Nat.le_of_ble_eq_true rfl) (by rfl)
theorem new_ok (n : Nat) (h4 : 4 ≤ n) (h64 : n ≤ 64) : FunT Try.prog 50 [iv (n : Nat)] [] (.tup [rpV, iv 0]) (rw3 false n (List.replicate n (zs 64)) (List.replicate n 0)) := by
  have e1 : (List.replicate n (zs 64)).map secS = List.replicate n [.byt 64 (zs 64)] := List.map_replicate
  have e2 : (kz (List.replicate n 0)).map intS = List.replicate n [.one (.raw (.int .i64 0))] := by
    rw [kz, List.map_replicate, List.map_replicate]; rfl
  show FunT _ _ _ _ _ [_, some (.row .ex 34 64 ((List.replicate n (zs 64)).map secS) []), some (.row _ 3 1 ((kz (List.replicate n 0)).map intS) [])]
  rw [e1, e2]
  refine FunT.ev tabOk mixed Try.func50 rfl ?_
  conv => whnf
  repeat (first | (refine ⟨(by kernel_rfl : chkR _ _ _ _ = true), ?_⟩; conv => whnf) | (refine EvOr.go ?_; conv => whnf))
  intro c hc
  obtain rfl : c = false := by rw [hc]; exact decide_eq_false (by omega)
  conv => whnf
  repeat (first | (refine ⟨(by kernel_rfl : chkR _ _ _ _ = true), ?_⟩; conv => whnf) | (refine EvOr.go ?_; conv => whnf))
  intro c hc
  obtain rfl : c = false := by rw [hc]; exact decide_eq_false (by omega)
  conv => whnf
  repeat (first | (refine ⟨(by kernel_rfl : chkR _ _ _ _ = true), ?_⟩; conv => whnf) | (refine EvOr.go ?_; conv => whnf))
  refine ⟨⟨by omega, by omega, by show (n : Int) * 64 ≤ 2 ^ 48; omega⟩, ?_⟩
  conv => whnf
  repeat (first | (refine ⟨(by kernel_rfl : chkR _ _ _ _ = true), ?_⟩; conv => whnf) | (refine EvOr.go ?_; conv => whnf))
  refine ⟨⟨by omega, by omega, by show (n : Int) * 8 ≤ 2 ^ 48; omega⟩, ?_⟩
  conv => whnf
  repeat (first | (refine ⟨(by kernel_rfl : chkR _ _ _ _ = true), ?_⟩; conv => whnf) | (refine EvOr.go ?_; conv => whnf))
  exact retQ.allS tabOk [2, 0, 1] _ [.sc (.ptr 2 0 2 0), iv 0] rfl (by first | exact .inr rfl | exact .inl rfl) (by repeat' (first | exact trivial | rfl | (intro h; cases h; done) | (refine ⟨?_, ?_⟩))) rfl (by rfl) (by kernel_rfl) (by first | rfl | kernel_rfl)
end Go.Proofs.Ytdmcbfmpnakdfaa.Eng.St
