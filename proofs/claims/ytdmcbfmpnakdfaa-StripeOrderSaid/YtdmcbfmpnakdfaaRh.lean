/- The row: written. -/
import Derived.Test.YtdmcbfmpnakdfaaRg
namespace Go.Proofs.Ytdmcbfmpnakdfaa.Eng.St
open Go Go.RowKit Go.Shelf Go.Proofs Go.Proofs.Ytdmcbfmpnakdfaa.Gf Go.Proofs.Ytdmcbfmpnakdfaa.Rf
set_option maxRecDepth 20000
set_option maxHeartbeats 4000000
theorem c23 : Callable Try.prog 23 := ⟨⟨_, Try.func23, by kernel_rfl, by kernel_rfl⟩⟩
theorem c72 : Callable Try.prog 72 := ⟨⟨_, Try.func72, by kernel_rfl, by kernel_rfl⟩⟩
/-- The columns that are others now. -/
def othr (L M : List (List Nat)) (k : Nat) : Bool := decide (¬ M.getD k [] = L.getD k [])
abbrev bx22 (n : Nat) : Option ABlk := some (.row .one 22 1 [[.one (.sl 4 0 64 n none)]] [4])
abbrev ww8 (x : Bool) (n : Nat) (L M : List (List Nat)) (K : List Nat) : LHp := rw3 x n M K ++ [bxP 0, rowX L, bx22 n, bxP 0, bxF 113 [.ptr 3 0 1 0, .ptr 5 0 1 0]]
theorem write1_ok (x : Bool) (n : Nat) (L M : List (List Nat)) (K : List Nat) (k : Nat) (hk : k < n) (hL : L.length = n) (hM : M.length = n) (hS : Secs L) (hT : Secs M) :
    FunT Try.prog 113 [iv (k : Nat), .sc (.ptr 3 0 1 0), .sc (.ptr 5 0 1 0)] (roL (ww8 x n L M K)) (bv (othr L M k)) (roL (ww8 x n L M K)) := by
  have g1 := row_at (S := L) (k := k) (by omega)
  have g2 := row_at (S := M) (k := k) (by omega)
  have s1 : Sec (L.getD k []) := by
    rw [List.getD_eq_getElem?_getD, List.getElem?_eq_getElem (by omega)]; exact hS _ (List.getElem_mem _)
  have s2 : Sec (M.getD k []) := by
    rw [List.getD_eq_getElem?_getD, List.getElem?_eq_getElem (by omega)]; exact hT _ (List.getElem_mem _)
  unfold othr
  generalize L.getD k [] = a at *
  generalize M.getD k [] = b at *
  cases x
  · show FunT _ _ _ (ro6 (some n) n M K [roP, rowS L, some (.row .ro 22 1 [[.one (.sl 4 0 64 n none)]] [4]), roP, some (.row .ro 113 1 [[.one (.fn (.func 113) [] [.ptr 3 0 1 0, .ptr 5 0 1 0])]] [3, 5])]) _ (ro6 (some n) n M K [roP, rowS L, some (.row .ro 22 1 [[.one (.sl 4 0 64 n none)]] [4]), roP, some (.row .ro 113 1 [[.one (.fn (.func 113) [] [.ptr 3 0 1 0, .ptr 5 0 1 0])]] [3, 5])])
    refine FunT.ev tabOk mixed Try.func113 rfl ?_
    conv => whnf
    repeat (first | (refine ⟨(by kernel_rfl : chkR _ _ _ _ = true), ?_⟩; conv => whnf) | (refine EvOr.go ?_; conv => whnf))
    refine ⟨_, rfl, ?_⟩
    conv => whnf
    repeat (first | (refine ⟨(by kernel_rfl : chkR _ _ _ _ = true), ?_⟩; conv => whnf) | (refine EvOr.go ?_; conv => whnf))
    refine ⟨_, rfl, ?_⟩
    conv => whnf
    repeat (first | (refine ⟨(by kernel_rfl : chkR _ _ _ _ = true), ?_⟩; conv => whnf) | (refine EvOr.go ?_; conv => whnf))
    refine ⟨⟨by omega, by omega⟩, ?_⟩
    conv => whnf
    repeat (first | (refine ⟨(by kernel_rfl : chkR _ _ _ _ = true), ?_⟩; conv => whnf) | (refine EvOr.go ?_; conv => whnf))
    refine ⟨_, g2, ?_⟩
    conv => whnf
    repeat (first | (refine ⟨(by kernel_rfl : chkR _ _ _ _ = true), ?_⟩; conv => whnf) | (refine EvOr.go ?_; conv => whnf))
    refine ⟨_, rfl, ?_⟩
    conv => whnf
    repeat (first | (refine ⟨(by kernel_rfl : chkR _ _ _ _ = true), ?_⟩; conv => whnf) | (refine EvOr.go ?_; conv => whnf))
    refine ⟨⟨by omega, by omega⟩, ?_⟩
    conv => whnf
    repeat (first | (refine ⟨(by kernel_rfl : chkR _ _ _ _ = true), ?_⟩; conv => whnf) | (refine EvOr.go ?_; conv => whnf))
    refine ⟨_, g1, ?_⟩
    conv => whnf
    repeat (first | (refine ⟨(by kernel_rfl : chkR _ _ _ _ = true), ?_⟩; conv => whnf) | (refine EvOr.go ?_; conv => whnf))
    refine ⟨rfl, ?_⟩
    refine ⟨eq34, ?_⟩
    conv => whnf
    repeat (first | (refine ⟨(by kernel_rfl : chkR _ _ _ _ = true), ?_⟩; conv => whnf) | (refine EvOr.go ?_; conv => whnf))
    intro c hc
    obtain rfl : c = decide (¬ b = a) := by
      rw [Bool.eq_iff_iff, hc, decide_eq_true_iff]
      exact not_congr (bysN_inj s2 s1)
    conv => whnf
    repeat (first | (refine ⟨(by kernel_rfl : chkR _ _ _ _ = true), ?_⟩; conv => whnf) | (refine EvOr.go ?_; conv => whnf))
    exact retQ.one rfl (.inr rfl) rfl (Nat.le_of_ble_eq_true rfl) rfl
  · show FunT _ _ _ (ro6 none n M K [roP, rowS L, some (.row .ro 22 1 [[.one (.sl 4 0 64 n none)]] [4]), roP, some (.row .ro 113 1 [[.one (.fn (.func 113) [] [.ptr 3 0 1 0, .ptr 5 0 1 0])]] [3, 5])]) _ (ro6 none n M K [roP, rowS L, some (.row .ro 22 1 [[.one (.sl 4 0 64 n none)]] [4]), roP, some (.row .ro 113 1 [[.one (.fn (.func 113) [] [.ptr 3 0 1 0, .ptr 5 0 1 0])]] [3, 5])])
    refine FunT.ev tabOk mixed Try.func113 rfl ?_
    conv => whnf
    repeat (first | (refine ⟨(by kernel_rfl : chkR _ _ _ _ = true), ?_⟩; conv => whnf) | (refine EvOr.go ?_; conv => whnf))
    refine ⟨_, rfl, ?_⟩
    conv => whnf
    repeat (first | (refine ⟨(by kernel_rfl : chkR _ _ _ _ = true), ?_⟩; conv => whnf) | (refine EvOr.go ?_; conv => whnf))
    refine ⟨_, rfl, ?_⟩
    conv => whnf
    repeat (first | (refine ⟨(by kernel_rfl : chkR _ _ _ _ = true), ?_⟩; conv => whnf) | (refine EvOr.go ?_; conv => whnf))
    refine ⟨⟨by omega, by omega⟩, ?_⟩
    conv => whnf
    repeat (first | (refine ⟨(by kernel_rfl : chkR _ _ _ _ = true), ?_⟩; conv => whnf) | (refine EvOr.go ?_; conv => whnf))
    refine ⟨_, g2, ?_⟩
    conv => whnf
    repeat (first | (refine ⟨(by kernel_rfl : chkR _ _ _ _ = true), ?_⟩; conv => whnf) | (refine EvOr.go ?_; conv => whnf))
    refine ⟨_, rfl, ?_⟩
    conv => whnf
    repeat (first | (refine ⟨(by kernel_rfl : chkR _ _ _ _ = true), ?_⟩; conv => whnf) | (refine EvOr.go ?_; conv => whnf))
    refine ⟨⟨by omega, by omega⟩, ?_⟩
    conv => whnf
    repeat (first | (refine ⟨(by kernel_rfl : chkR _ _ _ _ = true), ?_⟩; conv => whnf) | (refine EvOr.go ?_; conv => whnf))
    refine ⟨_, g1, ?_⟩
    conv => whnf
    repeat (first | (refine ⟨(by kernel_rfl : chkR _ _ _ _ = true), ?_⟩; conv => whnf) | (refine EvOr.go ?_; conv => whnf))
    refine ⟨rfl, ?_⟩
    refine ⟨eq34, ?_⟩
    conv => whnf
    repeat (first | (refine ⟨(by kernel_rfl : chkR _ _ _ _ = true), ?_⟩; conv => whnf) | (refine EvOr.go ?_; conv => whnf))
    intro c hc
    obtain rfl : c = decide (¬ b = a) := by
      rw [Bool.eq_iff_iff, hc, decide_eq_true_iff]
      exact not_congr (bysN_inj s2 s1)
    conv => whnf
    repeat (first | (refine ⟨(by kernel_rfl : chkR _ _ _ _ = true), ?_⟩; conv => whnf) | (refine EvOr.go ?_; conv => whnf))
    exact retQ.one rfl (.inr rfl) rfl (Nat.le_of_ble_eq_true rfl) rfl
theorem which_write : FunT Try.prog 111 [.sc (.ptr 0 0 2 0), .sc (.fn (.func 113) [] [.ptr 1 0 1 0, .ptr 2 0 1 0])] [none, none, none] (.sc (.fn (.func 133) [] [.ptr 3 0 1 0, .ptr 4 0 1 0])) [none, none, none, bxP 0, bxF 113 [.ptr 1 0 1 0, .ptr 2 0 1 0]] := by
  refine FunT.ev tabOk mixed Try.func111 rfl ?_
  conv => whnf
  repeat (first | (refine ⟨(by kernel_rfl : chkR _ _ _ _ = true), ?_⟩; conv => whnf) | (refine EvOr.go ?_; conv => whnf))
  exact retQ.one rfl (.inr rfl) rfl (Nat.le_of_ble_eq_true rfl) rfl
abbrev othL (n : Nat) (L M : List (List Nat)) : List Int := hold (othr L M) n
theorem coll_write (x : Bool) (n : Nat) (L M : List (List Nat)) (K : List Nat) (hn : n ≤ 64) (hL : L.length = n) (hM : M.length = n) (hS : Secs L) (hT : Secs M) :
    FunT Try.prog 110 [.sc (.fn (.func 133) [] [.ptr 6 0 1 0, .ptr 7 0 1 0])] (ww8 x n L M K) (.sc (nrS (othL n L M) 8)) (ww8 x n L M K ++ [nrB (othL n L M)]) := by
  refine collect_T (r := 0) (g := 113) (cs := [.ptr 3 0 1 0, .ptr 5 0 1 0]) ⟨hn, by cases x <;> rfl, ⟨_, rfl⟩, ⟨_, rfl⟩, ⟨_, _, _, _, rfl⟩, c113, fun i hi => ⟨_, write1_ok x n L M K i hi hL hM hS hT⟩⟩
theorem write_emp (c : Int) (s : List Nat) : FunT Try.prog 60 [rpV, iv c, secV s] [empB] (.tup [.sc nilS, iv 1]) [empB] := by
  refine FunT.ev tabOk mixed Try.func60 rfl ?_
  conv => whnf
  repeat (first | (refine ⟨(by kernel_rfl : chkR _ _ _ _ = true), ?_⟩; conv => whnf) | (refine EvOr.go ?_; conv => whnf))
  refine CallG.use (has_emp c) c107 [0] [] ?_ ?_ ?_ ?_ ?_ ?_; rfl; rfl; kernel_rfl; rfl; rfl
  conv => whnf
  repeat (first | (refine ⟨(by kernel_rfl : chkR _ _ _ _ = true), ?_⟩; conv => whnf) | (refine EvOr.go ?_; conv => whnf))
  intro c hc
  obtain rfl : c = true := by rw [hc]; rfl
  conv => whnf
  repeat (first | (refine ⟨(by kernel_rfl : chkR _ _ _ _ = true), ?_⟩; conv => whnf) | (refine EvOr.go ?_; conv => whnf))
  exact retQ.all tabOk _ [.sc nilS, iv 1] rfl (by first | exact .inr rfl | exact .inl rfl) (by repeat' (first | exact trivial | rfl | (intro h; cases h; done) | (refine ⟨?_, ?_⟩))) rfl (by rfl) (Nat.le_of_ble_eq_true rfl) (by rfl)
theorem write_out (x : Bool) (m : Nat) (L : List (List Nat)) (K : List Nat) (c : Int) (s : List Nat) (hm : m ≤ 62) (hc : ¬ (0 ≤ c ∧ c < m)) :
    FunT Try.prog 60 [rpV, iv c, secV s] (rw3 x (m + 2) L K) (.tup [.sc nilS, iv 2]) (rw3 x (m + 2) L K) := by
  by_cases h : 0 ≤ c ∧ c < ((m + 2 : Nat) : Int)
  · obtain ⟨k, rfl⟩ : ∃ k : Nat, c = k := ⟨c.toNat, by omega⟩
    have i1 := has_in x (m + 2) L K k (by omega)
    have e0 : arithI .sub .i64 ((m + 2 : Nat) : Int) 2 = some ((m : Nat) : Int) := subn (a := m + 2) (b := 2) (by omega) (by omega)
    cases x <;>
    · refine FunT.ev tabOk mixed Try.func60 rfl ?_
      conv => whnf
      repeat (first | (refine ⟨(by kernel_rfl : chkR _ _ _ _ = true), ?_⟩; conv => whnf) | (refine EvOr.go ?_; conv => whnf))
      refine CallG.use i1 c107 [0, 1, 2] [] ?_ ?_ ?_ ?_ ?_ ?_; rfl; rfl; kernel_rfl; rfl; rfl
      conv => whnf
      repeat (first | (refine ⟨(by kernel_rfl : chkR _ _ _ _ = true), ?_⟩; conv => whnf) | (refine EvOr.go ?_; conv => whnf))
      intro c hc
      obtain rfl : c = false := by rw [hc]; rfl
      conv => whnf
      repeat (first | (refine ⟨(by kernel_rfl : chkR _ _ _ _ = true), ?_⟩; conv => whnf) | (refine EvOr.go ?_; conv => whnf))
      refine ⟨_, e0, ?_⟩
      conv => whnf
      repeat (first | (refine ⟨(by kernel_rfl : chkR _ _ _ _ = true), ?_⟩; conv => whnf) | (refine EvOr.go ?_; conv => whnf))
      intro c hc
      obtain rfl : c = true := by rw [hc]; exact decide_eq_true (by omega)
      conv => whnf
      repeat (first | (refine ⟨(by kernel_rfl : chkR _ _ _ _ = true), ?_⟩; conv => whnf) | (refine EvOr.go ?_; conv => whnf))
      exact retQ.all tabOk _ [.sc nilS, iv 2] rfl (by first | exact .inr rfl | exact .inl rfl) (by repeat' (first | exact trivial | rfl | (intro h; cases h; done) | (refine ⟨?_, ?_⟩))) rfl (by rfl) (Nat.le_of_ble_eq_true rfl) (by rfl)
  · have i1 := has_out x (m + 2) L K (by omega) c h
    cases x <;>
    · refine FunT.ev tabOk mixed Try.func60 rfl ?_
      conv => whnf
      repeat (first | (refine ⟨(by kernel_rfl : chkR _ _ _ _ = true), ?_⟩; conv => whnf) | (refine EvOr.go ?_; conv => whnf))
      refine CallG.use i1 c107 [0, 1, 2] [] ?_ ?_ ?_ ?_ ?_ ?_; rfl; rfl; kernel_rfl; rfl; rfl
      conv => whnf
      repeat (first | (refine ⟨(by kernel_rfl : chkR _ _ _ _ = true), ?_⟩; conv => whnf) | (refine EvOr.go ?_; conv => whnf))
      intro c hc
      obtain rfl : c = true := by rw [hc]; rfl
      conv => whnf
      repeat (first | (refine ⟨(by kernel_rfl : chkR _ _ _ _ = true), ?_⟩; conv => whnf) | (refine EvOr.go ?_; conv => whnf))
      exact retQ.all tabOk _ [.sc nilS, iv 2] rfl (by first | exact .inr rfl | exact .inl rfl) (by repeat' (first | exact trivial | rfl | (intro h; cases h; done) | (refine ⟨?_, ?_⟩))) rfl (by rfl) (Nat.le_of_ble_eq_true rfl) (by rfl)
theorem write_none (x : Bool) (m : Nat) (L : List (List Nat)) (K : List Nat) (k : Nat) (s : List Nat) (hm : m ≤ 62) (hk : k < m) (hK : K.length = m + 2) (hO : lostL (m + 2) K ≠ []) :
    FunT Try.prog 60 [rpV, iv (k : Nat), secV s] (rw3 x (m + 2) L K) (.tup [.sc nilS, iv 5]) (rw3 x (m + 2) L K) := by
  have i1 := has_in x (m + 2) L K k (by omega)
  have i2 := whole_ok x (m + 2) L K (by omega) hK
  rw [decide_eq_false hO] at i2
  have e0 : arithI .sub .i64 ((m + 2 : Nat) : Int) 2 = some ((m : Nat) : Int) := subn (a := m + 2) (b := 2) (by omega) (by omega)
  cases x <;>
  · refine FunT.ev tabOk mixed Try.func60 rfl ?_
    conv => whnf
    repeat (first | (refine ⟨(by kernel_rfl : chkR _ _ _ _ = true), ?_⟩; conv => whnf) | (refine EvOr.go ?_; conv => whnf))
    refine CallG.use i1 c107 [0, 1, 2] [] ?_ ?_ ?_ ?_ ?_ ?_; rfl; rfl; kernel_rfl; rfl; rfl
    conv => whnf
    repeat (first | (refine ⟨(by kernel_rfl : chkR _ _ _ _ = true), ?_⟩; conv => whnf) | (refine EvOr.go ?_; conv => whnf))
    intro c hc
    obtain rfl : c = false := by rw [hc]; rfl
    conv => whnf
    repeat (first | (refine ⟨(by kernel_rfl : chkR _ _ _ _ = true), ?_⟩; conv => whnf) | (refine EvOr.go ?_; conv => whnf))
    refine ⟨_, e0, ?_⟩
    conv => whnf
    repeat (first | (refine ⟨(by kernel_rfl : chkR _ _ _ _ = true), ?_⟩; conv => whnf) | (refine EvOr.go ?_; conv => whnf))
    intro c hc
    obtain rfl : c = false := by rw [hc]; exact decide_eq_false (by omega)
    conv => whnf
    repeat (first | (refine ⟨(by kernel_rfl : chkR _ _ _ _ = true), ?_⟩; conv => whnf) | (refine EvOr.go ?_; conv => whnf))
    refine CallG.use i2 c109 [0, 1, 2] [] ?_ ?_ ?_ ?_ ?_ ?_; rfl; rfl; kernel_rfl; rfl; rfl
    conv => whnf
    repeat (first | (refine ⟨(by kernel_rfl : chkR _ _ _ _ = true), ?_⟩; conv => whnf) | (refine EvOr.go ?_; conv => whnf))
    exact retQ.all tabOk _ [.sc nilS, iv 5] rfl (by first | exact .inr rfl | exact .inl rfl) (by repeat' (first | exact trivial | rfl | (intro h; cases h; done) | (refine ⟨?_, ?_⟩))) rfl (by rfl) (Nat.le_of_ble_eq_true rfl) (by rfl)
def wriP (m : Nat) (L : List (List Nat)) (k : Nat) (s : List Nat) : List Nat := xorL (L.getD m []) (xorL (L.getD k []) s)
def wriQ (m : Nat) (L : List (List Nat)) (k : Nat) (s : List Nat) : List Nat := xorL (L.getD (m + 1) []) (mulL (xorL (L.getD k []) s) (pwZ k))
def wri (m : Nat) (L : List (List Nat)) (k : Nat) (s : List Nat) : List (List Nat) := ((L.set k s).set m (wriP m L k s)).set (m + 1) (wriQ m L k s)
theorem sec_at {L : List (List Nat)} {k : Nat} (hS : Secs L) (hk : k < L.length) : Sec (L.getD k []) := by
  rw [List.getD_eq_getElem?_getD, List.getElem?_eq_getElem hk]; exact hS _ (List.getElem_mem _)
theorem wri_len {m : Nat} {L : List (List Nat)} {k : Nat} {s : List Nat} : (wri m L k s).length = L.length := by simp [wri]
theorem wri_secs {m : Nat} {L : List (List Nat)} {k : Nat} {s : List Nat} (hS : Secs L) (hL : L.length = m + 2) (hk : k < m) (hs : Sec s) : Secs (wri m L k s) := by
  have h1 := sec_at hS (k := k) (by omega)
  exact set_secs (set_secs (set_secs hS hs) (xorL_sec (sec_at hS (by omega)) (xorL_sec h1 hs))) (xorL_sec (sec_at hS (by omega)) (mulL_sec (xorL_sec h1 hs)))
theorem write_ok (x : Bool) (m : Nat) (L : List (List Nat)) (K : List Nat) (k : Nat) (s : List Nat) (hm : m ≤ 62) (hk : k < m) (hL : L.length = m + 2) (hK : K.length = m + 2) (hS : Secs L) (hs : Sec s) (hO : lostL (m + 2) K = []) :
    FunT Try.prog 60 [rpV, iv (k : Nat), secV s] (rw3 x (m + 2) L K) (.tup [.sc (nrS (othL (m + 2) L (wri m L k s)) 3), iv 0]) (rw3 x (m + 2) (wri m L k s) K ++ [nrB (othL (m + 2) L (wri m L k s))]) := by
  have i1 := has_in x (m + 2) L K k (by omega)
  have i2 := whole_ok x (m + 2) L K (by omega) hK
  rw [decide_eq_true hO] at i2
  have i3 := cloneS_ok L (capX x (m + 2)) (by omega) (by omega)
  rw [hL] at i3
  have i4 := change_ok (L.getD m []) (L.getD (m + 1) []) (L.getD k []) s (k : Nat) (sec_at hS (by omega)) (sec_at hS (by omega)) (sec_at hS (by omega)) hs ⟨by omega, by omega⟩
  have i5 := coll_write x (m + 2) L (wri m L k s) K (by omega) hL (wri_len.trans hL) hS (wri_secs hS hL hk hs)
  have e0 : arithI .sub .i64 ((m + 2 : Nat) : Int) 2 = some ((m : Nat) : Int) := subn (a := m + 2) (b := 2) (by omega) (by omega)
  have e1 : arithI .add .i64 (m : Nat) 1 = some ((m + 1 : Nat) : Int) := inc_nat (by omega)
  have g1 := row_at (S := L) (k := k) (by omega)
  have g2 := row_at (S := L) (k := m) (by omega)
  have g3 := row_at (S := L) (k := m + 1) (by omega)
  have c1 : chP (L.getD m []) (L.getD k []) s (k : Nat) = wriP m L k s := by unfold chP; rw [if_neg (by omega), if_neg (by omega)]; rfl
  have c2 : chQ (L.getD (m + 1) []) (L.getD k []) s (k : Nat) = wriQ m L k s := by unfold chQ; rw [if_neg (by omega), if_neg (by omega)]; rfl
  have c3 : chO s (k : Nat) = s := by unfold chO; rw [if_neg (by omega), if_neg (by omega)]
  have c4 : chE (k : Nat) = 0 := by unfold chE; rw [if_neg (by omega), if_neg (by omega)]
  rw [c1, c2, c3, c4] at i4
  have e2 : (wri m L k s).map secS = (((L.map secS).set (0 + (k : Int).toNat) [.byt 64 s]).set (0 + (m : Int).toNat) [.byt 64 (wriP m L k s)]).set (0 + ((m + 1 : Nat) : Int).toNat) [.byt 64 (wriQ m L k s)] := by
    unfold wri
    rw [row_setS, row_setS, row_setS]; rfl
  have g4 : ((L.map secS).set (0 + (k : Int).toNat) [.byt 64 s])[0 + (m : Int).toNat]? = some (secS ((L.set k s).getD m [])) := by
    have := row_at (S := L.set k s) (k := m) (by rw [List.length_set]; omega)
    rwa [row_setS] at this
  have g5 : (((L.map secS).set (0 + (k : Int).toNat) [.byt 64 s]).set (0 + (m : Int).toNat) [.byt 64 (wriP m L k s)])[0 + ((m + 1 : Nat) : Int).toNat]? = some (secS (((L.set k s).set m (wriP m L k s)).getD (m + 1) [])) := by
    have := row_at (S := (L.set k s).set m (wriP m L k s)) (k := m + 1) (by rw [List.length_set, List.length_set]; omega)
    rwa [row_setS, row_setS] at this
  generalize ((L.set k s).set m (wriP m L k s)).getD (m + 1) [] = y5 at *
  generalize (L.set k s).getD m [] = y4 at *
  generalize othL (m + 2) L (wri m L k s) = D at *
  generalize wri m L k s = M at *
  generalize wriP m L k s = P at *
  generalize wriQ m L k s = Q at *
  generalize L.getD m [] = a1 at *
  generalize L.getD (m + 1) [] = a2 at *
  generalize L.getD k [] = a3 at *
  by_cases hD : D = []
  · subst hD
    cases x <;>
    · simp only [ww8, rw3, colB, rowX, e2] at i5 ⊢
      refine FunT.ev tabOk mixed Try.func60 rfl ?_
      conv => whnf
      repeat (first | (refine ⟨(by kernel_rfl : chkR _ _ _ _ = true), ?_⟩; conv => whnf) | (refine EvOr.go ?_; conv => whnf))
      refine CallG.use i1 c107 [0, 1, 2] [] ?_ ?_ ?_ ?_ ?_ ?_; rfl; rfl; kernel_rfl; rfl; rfl
      conv => whnf
      repeat (first | (refine ⟨(by kernel_rfl : chkR _ _ _ _ = true), ?_⟩; conv => whnf) | (refine EvOr.go ?_; conv => whnf))
      intro c hc
      obtain rfl : c = false := by rw [hc]; rfl
      conv => whnf
      repeat (first | (refine ⟨(by kernel_rfl : chkR _ _ _ _ = true), ?_⟩; conv => whnf) | (refine EvOr.go ?_; conv => whnf))
      refine ⟨_, e0, ?_⟩
      conv => whnf
      repeat (first | (refine ⟨(by kernel_rfl : chkR _ _ _ _ = true), ?_⟩; conv => whnf) | (refine EvOr.go ?_; conv => whnf))
      intro c hc
      obtain rfl : c = false := by rw [hc]; exact decide_eq_false (by omega)
      conv => whnf
      repeat (first | (refine ⟨(by kernel_rfl : chkR _ _ _ _ = true), ?_⟩; conv => whnf) | (refine EvOr.go ?_; conv => whnf))
      refine CallG.use i2 c109 [0, 1, 2] [] ?_ ?_ ?_ ?_ ?_ ?_; rfl; rfl; kernel_rfl; rfl; rfl
      conv => whnf
      repeat (first | (refine ⟨(by kernel_rfl : chkR _ _ _ _ = true), ?_⟩; conv => whnf) | (refine EvOr.go ?_; conv => whnf))
      refine CallG.use i3 c72 [1] [] ?_ ?_ ?_ ?_ ?_ ?_; rfl; rfl; kernel_rfl; rfl; rfl
      conv => whnf
      repeat (first | (refine ⟨(by kernel_rfl : chkR _ _ _ _ = true), ?_⟩; conv => whnf) | (refine EvOr.go ?_; conv => whnf))
      refine ⟨⟨by omega, by omega⟩, ?_⟩
      conv => whnf
      repeat (first | (refine ⟨(by kernel_rfl : chkR _ _ _ _ = true), ?_⟩; conv => whnf) | (refine EvOr.go ?_; conv => whnf))
      refine ⟨_, g2, ?_⟩
      conv => whnf
      repeat (first | (refine ⟨(by kernel_rfl : chkR _ _ _ _ = true), ?_⟩; conv => whnf) | (refine EvOr.go ?_; conv => whnf))
      refine ⟨_, e1, ?_⟩
      conv => whnf
      repeat (first | (refine ⟨(by kernel_rfl : chkR _ _ _ _ = true), ?_⟩; conv => whnf) | (refine EvOr.go ?_; conv => whnf))
      refine ⟨⟨by omega, by omega⟩, ?_⟩
      conv => whnf
      repeat (first | (refine ⟨(by kernel_rfl : chkR _ _ _ _ = true), ?_⟩; conv => whnf) | (refine EvOr.go ?_; conv => whnf))
      refine ⟨_, g3, ?_⟩
      conv => whnf
      repeat (first | (refine ⟨(by kernel_rfl : chkR _ _ _ _ = true), ?_⟩; conv => whnf) | (refine EvOr.go ?_; conv => whnf))
      refine ⟨⟨by omega, by omega⟩, ?_⟩
      conv => whnf
      repeat (first | (refine ⟨(by kernel_rfl : chkR _ _ _ _ = true), ?_⟩; conv => whnf) | (refine EvOr.go ?_; conv => whnf))
      refine ⟨_, g1, ?_⟩
      conv => whnf
      repeat (first | (refine ⟨(by kernel_rfl : chkR _ _ _ _ = true), ?_⟩; conv => whnf) | (refine EvOr.go ?_; conv => whnf))
      refine CallG.use i4 c23 [] [] ?_ ?_ ?_ ?_ ?_ ?_; rfl; rfl; kernel_rfl; rfl; rfl
      conv => whnf
      repeat (first | (refine ⟨(by kernel_rfl : chkR _ _ _ _ = true), ?_⟩; conv => whnf) | (refine EvOr.go ?_; conv => whnf))
      refine ⟨_, e1, ?_⟩
      conv => whnf
      repeat (first | (refine ⟨(by kernel_rfl : chkR _ _ _ _ = true), ?_⟩; conv => whnf) | (refine EvOr.go ?_; conv => whnf))
      refine ⟨⟨by omega, by omega⟩, ?_⟩
      conv => whnf
      repeat (first | (refine ⟨(by kernel_rfl : chkR _ _ _ _ = true), ?_⟩; conv => whnf) | (refine EvOr.go ?_; conv => whnf))
      refine ⟨_, g1, ?_⟩
      conv => whnf
      repeat (first | (refine ⟨(by kernel_rfl : chkR _ _ _ _ = true), ?_⟩; conv => whnf) | (refine EvOr.go ?_; conv => whnf))
      refine ⟨⟨by omega, by omega⟩, ?_⟩
      conv => whnf
      repeat (first | (refine ⟨(by kernel_rfl : chkR _ _ _ _ = true), ?_⟩; conv => whnf) | (refine EvOr.go ?_; conv => whnf))
      refine ⟨_, g4, ?_⟩
      conv => whnf
      repeat (first | (refine ⟨(by kernel_rfl : chkR _ _ _ _ = true), ?_⟩; conv => whnf) | (refine EvOr.go ?_; conv => whnf))
      refine ⟨⟨by omega, by omega⟩, ?_⟩
      conv => whnf
      repeat (first | (refine ⟨(by kernel_rfl : chkR _ _ _ _ = true), ?_⟩; conv => whnf) | (refine EvOr.go ?_; conv => whnf))
      refine ⟨_, g5, ?_⟩
      conv => whnf
      repeat (first | (refine ⟨(by kernel_rfl : chkR _ _ _ _ = true), ?_⟩; conv => whnf) | (refine EvOr.go ?_; conv => whnf))
      refine CallG.use which_write c111 [0, 3, 6] [] ?_ ?_ ?_ ?_ ?_ ?_; rfl; rfl; kernel_rfl; rfl; rfl
      conv => whnf
      repeat (first | (refine ⟨(by kernel_rfl : chkR _ _ _ _ = true), ?_⟩; conv => whnf) | (refine EvOr.go ?_; conv => whnf))
      refine CallG.use i5 c110 [0, 1, 2, 3, 5, 6, 8, 9] [] ?_ ?_ ?_ ?_ ?_ ?_; rfl; rfl; kernel_rfl; rfl; rfl
      conv => whnf
      repeat (first | (refine ⟨(by kernel_rfl : chkR _ _ _ _ = true), ?_⟩; conv => whnf) | (refine EvOr.go ?_; conv => whnf))
      exact retQ.allS tabOk [0, 1, 2, 10] _ [.sc nilS, iv 0] rfl (by first | exact .inr rfl | exact .inl rfl) (by repeat' (first | exact trivial | rfl | (intro h; cases h; done) | (refine ⟨?_, ?_⟩))) rfl (by rfl) (by kernel_rfl) (by first | rfl | kernel_rfl)
  · obtain ⟨q1, q2⟩ := nr_row 8 (List.length_pos_iff.2 hD)
    obtain ⟨q3, _⟩ := nr_row 3 (List.length_pos_iff.2 hD)
    rw [q1, q2] at i5
    rw [q2, q3]
    cases x <;>
    · simp only [ww8, rw3, colB, rowX, e2] at i5 ⊢
      refine FunT.ev tabOk mixed Try.func60 rfl ?_
      conv => whnf
      repeat (first | (refine ⟨(by kernel_rfl : chkR _ _ _ _ = true), ?_⟩; conv => whnf) | (refine EvOr.go ?_; conv => whnf))
      refine CallG.use i1 c107 [0, 1, 2] [] ?_ ?_ ?_ ?_ ?_ ?_; rfl; rfl; kernel_rfl; rfl; rfl
      conv => whnf
      repeat (first | (refine ⟨(by kernel_rfl : chkR _ _ _ _ = true), ?_⟩; conv => whnf) | (refine EvOr.go ?_; conv => whnf))
      intro c hc
      obtain rfl : c = false := by rw [hc]; rfl
      conv => whnf
      repeat (first | (refine ⟨(by kernel_rfl : chkR _ _ _ _ = true), ?_⟩; conv => whnf) | (refine EvOr.go ?_; conv => whnf))
      refine ⟨_, e0, ?_⟩
      conv => whnf
      repeat (first | (refine ⟨(by kernel_rfl : chkR _ _ _ _ = true), ?_⟩; conv => whnf) | (refine EvOr.go ?_; conv => whnf))
      intro c hc
      obtain rfl : c = false := by rw [hc]; exact decide_eq_false (by omega)
      conv => whnf
      repeat (first | (refine ⟨(by kernel_rfl : chkR _ _ _ _ = true), ?_⟩; conv => whnf) | (refine EvOr.go ?_; conv => whnf))
      refine CallG.use i2 c109 [0, 1, 2] [] ?_ ?_ ?_ ?_ ?_ ?_; rfl; rfl; kernel_rfl; rfl; rfl
      conv => whnf
      repeat (first | (refine ⟨(by kernel_rfl : chkR _ _ _ _ = true), ?_⟩; conv => whnf) | (refine EvOr.go ?_; conv => whnf))
      refine CallG.use i3 c72 [1] [] ?_ ?_ ?_ ?_ ?_ ?_; rfl; rfl; kernel_rfl; rfl; rfl
      conv => whnf
      repeat (first | (refine ⟨(by kernel_rfl : chkR _ _ _ _ = true), ?_⟩; conv => whnf) | (refine EvOr.go ?_; conv => whnf))
      refine ⟨⟨by omega, by omega⟩, ?_⟩
      conv => whnf
      repeat (first | (refine ⟨(by kernel_rfl : chkR _ _ _ _ = true), ?_⟩; conv => whnf) | (refine EvOr.go ?_; conv => whnf))
      refine ⟨_, g2, ?_⟩
      conv => whnf
      repeat (first | (refine ⟨(by kernel_rfl : chkR _ _ _ _ = true), ?_⟩; conv => whnf) | (refine EvOr.go ?_; conv => whnf))
      refine ⟨_, e1, ?_⟩
      conv => whnf
      repeat (first | (refine ⟨(by kernel_rfl : chkR _ _ _ _ = true), ?_⟩; conv => whnf) | (refine EvOr.go ?_; conv => whnf))
      refine ⟨⟨by omega, by omega⟩, ?_⟩
      conv => whnf
      repeat (first | (refine ⟨(by kernel_rfl : chkR _ _ _ _ = true), ?_⟩; conv => whnf) | (refine EvOr.go ?_; conv => whnf))
      refine ⟨_, g3, ?_⟩
      conv => whnf
      repeat (first | (refine ⟨(by kernel_rfl : chkR _ _ _ _ = true), ?_⟩; conv => whnf) | (refine EvOr.go ?_; conv => whnf))
      refine ⟨⟨by omega, by omega⟩, ?_⟩
      conv => whnf
      repeat (first | (refine ⟨(by kernel_rfl : chkR _ _ _ _ = true), ?_⟩; conv => whnf) | (refine EvOr.go ?_; conv => whnf))
      refine ⟨_, g1, ?_⟩
      conv => whnf
      repeat (first | (refine ⟨(by kernel_rfl : chkR _ _ _ _ = true), ?_⟩; conv => whnf) | (refine EvOr.go ?_; conv => whnf))
      refine CallG.use i4 c23 [] [] ?_ ?_ ?_ ?_ ?_ ?_; rfl; rfl; kernel_rfl; rfl; rfl
      conv => whnf
      repeat (first | (refine ⟨(by kernel_rfl : chkR _ _ _ _ = true), ?_⟩; conv => whnf) | (refine EvOr.go ?_; conv => whnf))
      refine ⟨_, e1, ?_⟩
      conv => whnf
      repeat (first | (refine ⟨(by kernel_rfl : chkR _ _ _ _ = true), ?_⟩; conv => whnf) | (refine EvOr.go ?_; conv => whnf))
      refine ⟨⟨by omega, by omega⟩, ?_⟩
      conv => whnf
      repeat (first | (refine ⟨(by kernel_rfl : chkR _ _ _ _ = true), ?_⟩; conv => whnf) | (refine EvOr.go ?_; conv => whnf))
      refine ⟨_, g1, ?_⟩
      conv => whnf
      repeat (first | (refine ⟨(by kernel_rfl : chkR _ _ _ _ = true), ?_⟩; conv => whnf) | (refine EvOr.go ?_; conv => whnf))
      refine ⟨⟨by omega, by omega⟩, ?_⟩
      conv => whnf
      repeat (first | (refine ⟨(by kernel_rfl : chkR _ _ _ _ = true), ?_⟩; conv => whnf) | (refine EvOr.go ?_; conv => whnf))
      refine ⟨_, g4, ?_⟩
      conv => whnf
      repeat (first | (refine ⟨(by kernel_rfl : chkR _ _ _ _ = true), ?_⟩; conv => whnf) | (refine EvOr.go ?_; conv => whnf))
      refine ⟨⟨by omega, by omega⟩, ?_⟩
      conv => whnf
      repeat (first | (refine ⟨(by kernel_rfl : chkR _ _ _ _ = true), ?_⟩; conv => whnf) | (refine EvOr.go ?_; conv => whnf))
      refine ⟨_, g5, ?_⟩
      conv => whnf
      repeat (first | (refine ⟨(by kernel_rfl : chkR _ _ _ _ = true), ?_⟩; conv => whnf) | (refine EvOr.go ?_; conv => whnf))
      refine CallG.use which_write c111 [0, 3, 6] [] ?_ ?_ ?_ ?_ ?_ ?_; rfl; rfl; kernel_rfl; rfl; rfl
      conv => whnf
      repeat (first | (refine ⟨(by kernel_rfl : chkR _ _ _ _ = true), ?_⟩; conv => whnf) | (refine EvOr.go ?_; conv => whnf))
      refine CallG.use i5 c110 [0, 1, 2, 3, 5, 6, 8, 9] [] ?_ ?_ ?_ ?_ ?_ ?_; rfl; rfl; kernel_rfl; rfl; rfl
      conv => whnf
      repeat (first | (refine ⟨(by kernel_rfl : chkR _ _ _ _ = true), ?_⟩; conv => whnf) | (refine EvOr.go ?_; conv => whnf))
      exact retQ.allS tabOk [0, 1, 2, 10] _ [.sc (.sl 10 0 1 D.length none), iv 0] rfl (by first | exact .inr rfl | exact .inl rfl) (by repeat' (first | exact trivial | rfl | (intro h; cases h; done) | (refine ⟨?_, ?_⟩))) rfl (by rfl) (by kernel_rfl) (by first | rfl | kernel_rfl)
end Go.Proofs.Ytdmcbfmpnakdfaa.Eng.St
