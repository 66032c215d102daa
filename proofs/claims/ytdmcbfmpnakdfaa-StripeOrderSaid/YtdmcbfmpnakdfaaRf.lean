/- The row: lost, whole, right. -/
import Derived.Test.YtdmcbfmpnakdfaaRe
namespace Go.Proofs.Ytdmcbfmpnakdfaa.Eng.St
open Go Go.RowKit Go.Shelf Go.Proofs Go.Proofs.Ytdmcbfmpnakdfaa.Gf Go.Proofs.Ytdmcbfmpnakdfaa.Rf
set_option maxRecDepth 20000
set_option maxHeartbeats 4000000
/-- The columns that are lost. -/
def gone (K : List Nat) (k : Nat) : Bool := decide (K.getD k 0 = 0)
abbrev lostL (n : Nat) (K : List Nat) : List Int := hold (gone K) n
abbrev bxP (r : Nat) : Option ABlk := some (.row .one 79 1 [[.one (.ptr r 0 2 0)]] [r])
abbrev bxF (g : Nat) (cs : List SV) : Option ABlk := some (.row .one 113 1 [[.one (.fn (.func g) [] cs)]] (SV.idss cs))
abbrev ll6 (x : Bool) (n : Nat) (L : List (List Nat)) (K : List Nat) : LHp := rw3 x n L K ++ [bxP 0, bxP 0, bxF 112 [.ptr 3 0 1 0]]
theorem roL3 (x : Bool) (n : Nat) (L : List (List Nat)) (K : List Nat) : roL (rw3 x n L K) = [some (.row .ro 108 2 [[.one (.sl 1 0 64 n (capX x n)), .one (.sl 2 0 1 n (some n))]] [1, 2]), rowS L, some (.row .ro 3 1 ((kz K).map intS) [])] := by
  cases x <;> rfl
abbrev ro6 (c : Option Nat) (n : Nat) (L : List (List Nat)) (K : List Nat) (l : LHp) : LHp := [some (.row .ro 108 2 [[.one (.sl 1 0 64 n c), .one (.sl 2 0 1 n (some n))]] [1, 2]), rowS L, some (.row .ro 3 1 ((kz K).map intS) [])] ++ l
abbrev roP : Option ABlk := some (.row .ro 79 1 [[.one (.ptr 0 0 2 0)]] [0])
theorem lost1_ok (x : Bool) (n : Nat) (L : List (List Nat)) (K : List Nat) (k : Nat) (hk : k < n) (hK : K.length = n) :
    FunT Try.prog 112 [iv (k : Nat), .sc (.ptr 3 0 1 0)] (roL (ll6 x n L K)) (bv (gone K k)) (roL (ll6 x n L K)) := by
  have g2 := kn_get (K := K) (k := k) (by omega)
  unfold gone
  generalize K.getD k 0 = v at *
  cases x
  · show FunT _ _ _ (ro6 (some n) n L K [roP, roP, some (.row .ro 113 1 [[.one (.fn (.func 112) [] [.ptr 3 0 1 0])]] [3])]) _ (ro6 (some n) n L K [roP, roP, some (.row .ro 113 1 [[.one (.fn (.func 112) [] [.ptr 3 0 1 0])]] [3])])
    refine FunT.ev tabOk mixed Try.func112 rfl ?_
    conv => whnf
    repeat (first | (refine ⟨(by kernel_rfl : chkR _ _ _ _ = true), ?_⟩; conv => whnf) | (refine EvOr.go ?_; conv => whnf))
    refine ⟨_, rfl, ?_⟩
    conv => whnf
    repeat (first | (refine ⟨(by kernel_rfl : chkR _ _ _ _ = true), ?_⟩; conv => whnf) | (refine EvOr.go ?_; conv => whnf))
    refine ⟨_, rfl, ?_⟩
    conv => whnf
    repeat (first | (refine ⟨(by kernel_rfl : chkR _ _ _ _ = true), ?_⟩; conv => whnf) | (refine EvOr.go ?_; conv => whnf))
    refine ⟨⟨by omega, by omega⟩, ?_⟩
    conv => whnf
    repeat (first | (refine ⟨(by kernel_rfl : chkR _ _ _ _ = true), ?_⟩; conv => whnf) | (refine EvOr.go ?_; conv => whnf))
    refine ⟨_, g2, ?_⟩
    conv => whnf
    repeat (first | (refine ⟨(by kernel_rfl : chkR _ _ _ _ = true), ?_⟩; conv => whnf) | (refine EvOr.go ?_; conv => whnf))
    intro c hc
    obtain rfl : c = decide (v = 0) := by rw [hc, Bool.eq_iff_iff]; simp
    conv => whnf
    repeat (first | (refine ⟨(by kernel_rfl : chkR _ _ _ _ = true), ?_⟩; conv => whnf) | (refine EvOr.go ?_; conv => whnf))
    exact retQ.one rfl (.inr rfl) rfl (Nat.le_of_ble_eq_true rfl) rfl
  · show FunT _ _ _ (ro6 none n L K [roP, roP, some (.row .ro 113 1 [[.one (.fn (.func 112) [] [.ptr 3 0 1 0])]] [3])]) _ (ro6 none n L K [roP, roP, some (.row .ro 113 1 [[.one (.fn (.func 112) [] [.ptr 3 0 1 0])]] [3])])
    refine FunT.ev tabOk mixed Try.func112 rfl ?_
    conv => whnf
    repeat (first | (refine ⟨(by kernel_rfl : chkR _ _ _ _ = true), ?_⟩; conv => whnf) | (refine EvOr.go ?_; conv => whnf))
    refine ⟨_, rfl, ?_⟩
    conv => whnf
    repeat (first | (refine ⟨(by kernel_rfl : chkR _ _ _ _ = true), ?_⟩; conv => whnf) | (refine EvOr.go ?_; conv => whnf))
    refine ⟨_, rfl, ?_⟩
    conv => whnf
    repeat (first | (refine ⟨(by kernel_rfl : chkR _ _ _ _ = true), ?_⟩; conv => whnf) | (refine EvOr.go ?_; conv => whnf))
    refine ⟨⟨by omega, by omega⟩, ?_⟩
    conv => whnf
    repeat (first | (refine ⟨(by kernel_rfl : chkR _ _ _ _ = true), ?_⟩; conv => whnf) | (refine EvOr.go ?_; conv => whnf))
    refine ⟨_, g2, ?_⟩
    conv => whnf
    repeat (first | (refine ⟨(by kernel_rfl : chkR _ _ _ _ = true), ?_⟩; conv => whnf) | (refine EvOr.go ?_; conv => whnf))
    intro c hc
    obtain rfl : c = decide (v = 0) := by rw [hc, Bool.eq_iff_iff]; simp
    conv => whnf
    repeat (first | (refine ⟨(by kernel_rfl : chkR _ _ _ _ = true), ?_⟩; conv => whnf) | (refine EvOr.go ?_; conv => whnf))
    exact retQ.one rfl (.inr rfl) rfl (Nat.le_of_ble_eq_true rfl) rfl
theorem whole1_ok (x : Bool) (n : Nat) (L : List (List Nat)) (K : List Nat) (k : Nat) (hk : k < n) (hK : K.length = n) :
    FunT Try.prog 131 [iv (k : Nat), .sc (.ptr 3 0 1 0)] (roL (rw3 x n L K) ++ [some (.row .ro 79 1 [[.one (.ptr 0 0 2 0)]] [0])]) (bv (gone K k)) (roL (rw3 x n L K) ++ [some (.row .ro 79 1 [[.one (.ptr 0 0 2 0)]] [0])]) := by
  have g2 := kn_get (K := K) (k := k) (by omega)
  unfold gone
  generalize K.getD k 0 = v at *
  cases x
  · show FunT _ _ _ (ro6 (some n) n L K [roP]) _ (ro6 (some n) n L K [roP])
    refine FunT.ev tabOk mixed Try.func131 rfl ?_
    conv => whnf
    repeat (first | (refine ⟨(by kernel_rfl : chkR _ _ _ _ = true), ?_⟩; conv => whnf) | (refine EvOr.go ?_; conv => whnf))
    refine ⟨_, rfl, ?_⟩
    conv => whnf
    repeat (first | (refine ⟨(by kernel_rfl : chkR _ _ _ _ = true), ?_⟩; conv => whnf) | (refine EvOr.go ?_; conv => whnf))
    refine ⟨_, rfl, ?_⟩
    conv => whnf
    repeat (first | (refine ⟨(by kernel_rfl : chkR _ _ _ _ = true), ?_⟩; conv => whnf) | (refine EvOr.go ?_; conv => whnf))
    refine ⟨⟨by omega, by omega⟩, ?_⟩
    conv => whnf
    repeat (first | (refine ⟨(by kernel_rfl : chkR _ _ _ _ = true), ?_⟩; conv => whnf) | (refine EvOr.go ?_; conv => whnf))
    refine ⟨_, g2, ?_⟩
    conv => whnf
    repeat (first | (refine ⟨(by kernel_rfl : chkR _ _ _ _ = true), ?_⟩; conv => whnf) | (refine EvOr.go ?_; conv => whnf))
    intro c hc
    obtain rfl : c = decide (v = 0) := by rw [hc, Bool.eq_iff_iff]; simp
    conv => whnf
    repeat (first | (refine ⟨(by kernel_rfl : chkR _ _ _ _ = true), ?_⟩; conv => whnf) | (refine EvOr.go ?_; conv => whnf))
    exact retQ.one rfl (.inr rfl) rfl (Nat.le_of_ble_eq_true rfl) rfl
  · show FunT _ _ _ (ro6 none n L K [roP]) _ (ro6 none n L K [roP])
    refine FunT.ev tabOk mixed Try.func131 rfl ?_
    conv => whnf
    repeat (first | (refine ⟨(by kernel_rfl : chkR _ _ _ _ = true), ?_⟩; conv => whnf) | (refine EvOr.go ?_; conv => whnf))
    refine ⟨_, rfl, ?_⟩
    conv => whnf
    repeat (first | (refine ⟨(by kernel_rfl : chkR _ _ _ _ = true), ?_⟩; conv => whnf) | (refine EvOr.go ?_; conv => whnf))
    refine ⟨_, rfl, ?_⟩
    conv => whnf
    repeat (first | (refine ⟨(by kernel_rfl : chkR _ _ _ _ = true), ?_⟩; conv => whnf) | (refine EvOr.go ?_; conv => whnf))
    refine ⟨⟨by omega, by omega⟩, ?_⟩
    conv => whnf
    repeat (first | (refine ⟨(by kernel_rfl : chkR _ _ _ _ = true), ?_⟩; conv => whnf) | (refine EvOr.go ?_; conv => whnf))
    refine ⟨_, g2, ?_⟩
    conv => whnf
    repeat (first | (refine ⟨(by kernel_rfl : chkR _ _ _ _ = true), ?_⟩; conv => whnf) | (refine EvOr.go ?_; conv => whnf))
    intro c hc
    obtain rfl : c = decide (v = 0) := by rw [hc, Bool.eq_iff_iff]; simp
    conv => whnf
    repeat (first | (refine ⟨(by kernel_rfl : chkR _ _ _ _ = true), ?_⟩; conv => whnf) | (refine EvOr.go ?_; conv => whnf))
    exact retQ.one rfl (.inr rfl) rfl (Nat.le_of_ble_eq_true rfl) rfl
theorem whole_ok (x : Bool) (n : Nat) (L : List (List Nat)) (K : List Nat) (hn : n ≤ 64) (hK : K.length = n) :
    FunT Try.prog 109 [rpV] (rw3 x n L K) (bv (decide (lostL n K = []))) (rw3 x n L K) :=
  whole_T (r := 0) (h := rw3 x n L K) hn (by cases x <;> rfl) rfl (by show 0 < 3; decide) fun i hi => ⟨_, whole1_ok x n L K i hi hK⟩
theorem which_lost : FunT Try.prog 111 [.sc (.ptr 0 0 2 0), .sc (.fn (.func 112) [] [.ptr 3 0 1 0])] [none, none, none, none] (.sc (.fn (.func 133) [] [.ptr 4 0 1 0, .ptr 5 0 1 0])) [none, none, none, none, bxP 0, bxF 112 [.ptr 3 0 1 0]] := by
  refine FunT.ev tabOk mixed Try.func111 rfl ?_
  conv => whnf
  repeat (first | (refine ⟨(by kernel_rfl : chkR _ _ _ _ = true), ?_⟩; conv => whnf) | (refine EvOr.go ?_; conv => whnf))
  exact retQ.one rfl (.inr rfl) rfl (Nat.le_of_ble_eq_true rfl) rfl
theorem itLost (x : Bool) (n : Nat) (L : List (List Nat)) (K : List Nat) (hn : n ≤ 64) (hK : K.length = n) : ItAt (ll6 x n L K) 0 4 5 112 n [.ptr 3 0 1 0] (gone K) := by
  refine ⟨hn, by cases x <;> rfl, ⟨_, rfl⟩, ⟨_, rfl⟩, ⟨_, _, _, _, rfl⟩, c112, fun i hi => ⟨_, lost1_ok x n L K i hi hK⟩⟩
theorem coll_lost (x : Bool) (n : Nat) (L : List (List Nat)) (K : List Nat) (hn : n ≤ 64) (hK : K.length = n) : FunT Try.prog 110 [.sc (.fn (.func 133) [] [.ptr 4 0 1 0, .ptr 5 0 1 0])] (ll6 x n L K) (.sc (nrS (lostL n K) 6)) (ll6 x n L K ++ [nrB (lostL n K)]) := collect_T (itLost x n L K hn hK)
theorem lost_nil : FunT Try.prog 59 [nilP] [] (.sc nilS) [] := by
  refine FunT.ev tabOk mixed Try.func59 rfl ?_
  conv => whnf
  repeat (first | (refine ⟨(by kernel_rfl : chkR _ _ _ _ = true), ?_⟩; conv => whnf) | (refine EvOr.go ?_; conv => whnf))
  refine CallG.use is_nil c108 [] [] ?_ ?_ ?_ ?_ ?_ ?_; rfl; rfl; kernel_rfl; rfl; rfl
  conv => whnf
  repeat (first | (refine ⟨(by kernel_rfl : chkR _ _ _ _ = true), ?_⟩; conv => whnf) | (refine EvOr.go ?_; conv => whnf))
  exact retQ.one rfl (.inr rfl) rfl (Nat.le_of_ble_eq_true rfl) rfl
theorem lost_ok (x : Bool) (n : Nat) (L : List (List Nat)) (K : List Nat) (h0 : 0 < n) (hn : n ≤ 64) (hK : K.length = n) : FunT Try.prog 59 [rpV] (rw3 x n L K) (.sc (nrS (lostL n K) 3)) (rw3 x n L K ++ [nrB (lostL n K)]) := by
  have i1 := is_ok x n L K h0
  have i2 := coll_lost x n L K hn hK
  generalize lostL n K = O at *
  by_cases hO : O = []
  · subst hO
    cases x <;>
    · refine FunT.ev tabOk mixed Try.func59 rfl ?_
      conv => whnf
      repeat (first | (refine ⟨(by kernel_rfl : chkR _ _ _ _ = true), ?_⟩; conv => whnf) | (refine EvOr.go ?_; conv => whnf))
      refine CallG.use i1 c108 [0, 1, 2] [] ?_ ?_ ?_ ?_ ?_ ?_; rfl; rfl; kernel_rfl; rfl; rfl
      conv => whnf
      repeat (first | (refine ⟨(by kernel_rfl : chkR _ _ _ _ = true), ?_⟩; conv => whnf) | (refine EvOr.go ?_; conv => whnf))
      refine CallG.use which_lost c111 [0, 1, 2, 3] [] ?_ ?_ ?_ ?_ ?_ ?_; rfl; rfl; kernel_rfl; rfl; rfl
      conv => whnf
      repeat (first | (refine ⟨(by kernel_rfl : chkR _ _ _ _ = true), ?_⟩; conv => whnf) | (refine EvOr.go ?_; conv => whnf))
      refine CallG.use i2 c110 [0, 1, 2, 3, 4, 5] [] ?_ ?_ ?_ ?_ ?_ ?_; rfl; rfl; kernel_rfl; rfl; rfl
      conv => whnf
      repeat (first | (refine ⟨(by kernel_rfl : chkR _ _ _ _ = true), ?_⟩; conv => whnf) | (refine EvOr.go ?_; conv => whnf))
      exact retQ.oneS [0, 1, 2, 6] rfl (by first | exact .inr rfl | exact .inl rfl) rfl (by kernel_rfl) (by first | rfl | kernel_rfl)
  · obtain ⟨q1, q2⟩ := nr_row 6 (List.length_pos_iff.2 hO)
    obtain ⟨q3, _⟩ := nr_row 3 (List.length_pos_iff.2 hO)
    rw [q1, q2] at i2
    rw [q2, q3]
    cases x <;>
    · refine FunT.ev tabOk mixed Try.func59 rfl ?_
      conv => whnf
      repeat (first | (refine ⟨(by kernel_rfl : chkR _ _ _ _ = true), ?_⟩; conv => whnf) | (refine EvOr.go ?_; conv => whnf))
      refine CallG.use i1 c108 [0, 1, 2] [] ?_ ?_ ?_ ?_ ?_ ?_; rfl; rfl; kernel_rfl; rfl; rfl
      conv => whnf
      repeat (first | (refine ⟨(by kernel_rfl : chkR _ _ _ _ = true), ?_⟩; conv => whnf) | (refine EvOr.go ?_; conv => whnf))
      refine CallG.use which_lost c111 [0, 1, 2, 3] [] ?_ ?_ ?_ ?_ ?_ ?_; rfl; rfl; kernel_rfl; rfl; rfl
      conv => whnf
      repeat (first | (refine ⟨(by kernel_rfl : chkR _ _ _ _ = true), ?_⟩; conv => whnf) | (refine EvOr.go ?_; conv => whnf))
      refine CallG.use i2 c110 [0, 1, 2, 3, 4, 5] [] ?_ ?_ ?_ ?_ ?_ ?_; rfl; rfl; kernel_rfl; rfl; rfl
      conv => whnf
      repeat (first | (refine ⟨(by kernel_rfl : chkR _ _ _ _ = true), ?_⟩; conv => whnf) | (refine EvOr.go ?_; conv => whnf))
      exact retQ.oneS [0, 1, 2, 6] rfl (by first | exact .inr rfl | exact .inl rfl) rfl (by kernel_rfl) (by first | rfl | kernel_rfl)
end Go.Proofs.Ytdmcbfmpnakdfaa.Eng.St
