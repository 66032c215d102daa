/- A right row made of data. -/
import Derived.Test.YtdmcbfmpnakdfaaRi
import Derived.Test.YtdmcbfmpnakdfaaRq
namespace Go.Proofs.Ytdmcbfmpnakdfaa.Eng.St
open Go Go.RowKit Go.Shelf Go.Proofs Go.Proofs.Ytdmcbfmpnakdfaa.Gf Go.Proofs.Ytdmcbfmpnakdfaa.Rf
set_option maxRecDepth 20000
set_option maxHeartbeats 4000000
theorem c22 : Callable Try.prog 22 := ⟨⟨_, Try.func22, by kernel_rfl, by kernel_rfl⟩⟩
/-- The first k of A stand, behind them the first value. -/
def fl {α : Type} (A : List α) (z : α) (k : Nat) : List α := A.take k ++ List.replicate (A.length - k) z
theorem fl_len {α : Type} {A : List α} {z : α} {k : Nat} (h : k ≤ A.length) : (fl A z k).length = A.length := by simp [fl]; omega
theorem fl_zero {α : Type} {A : List α} {z : α} : fl A z 0 = List.replicate A.length z := by simp [fl]
theorem fl_full {α : Type} {A : List α} {z : α} : fl A z A.length = A := by simp [fl]
theorem fl_at {α : Type} {A : List α} {z d : α} {k : Nat} (h : k < A.length) : (fl A z k).getD k d = z := by
  unfold fl
  rw [List.getD_eq_getElem?_getD, List.getElem?_append_right (by simp; omega), List.getElem?_replicate, if_pos (by simp; omega)]; rfl
theorem fl_set {α : Type} {A : List α} {z d : α} {k : Nat} (h : k < A.length) : (fl A z k).set k (A.getD k d) = fl A z (k + 1) := by
  unfold fl
  have e : A.length - k = (A.length - (k + 1)) + 1 := by omega
  rw [List.set_append, if_neg (by simp; omega), show k - (A.take k).length = 0 by simp; omega, e, List.replicate_succ, List.set_cons_zero, List.take_succ_eq_append_getElem h, List.append_assoc, List.getD_eq_getElem?_getD, List.getElem?_eq_getElem h]
  rfl
abbrev ones (n : Nat) : List Nat := List.replicate n 1
/-- One put of the row's making. -/
theorem put_fl {n : Nat} {L : List (List Nat)} {k : Nat} (hL : L.length = n) (hk : k < n) (hn : n < 2 ^ 32) :
    FunT Try.prog 52 [rpV, iv (k : Nat), secV (L.getD k [])] (rw3 false n (fl L (zs 64) k) (fl (ones n) 0 k)) (iv 0) (rw3 false n (fl L (zs 64) (k + 1)) (fl (ones n) 0 (k + 1))) := by
  have l1 : (ones n).length = n := List.length_replicate
  have := put_in false n (fl L (zs 64) k) (fl (ones n) 0 k) k (L.getD k []) hk hn (by rw [fl_len (by omega), hL]) (by rw [fl_len (by omega), l1]) (by rw [fl_at (by omega)]; decide)
  rw [fl_set (by omega), fl_at (by omega)] at this
  have e : (ones n).getD k 0 = 0 + 1 := by
    unfold ones
    rw [List.getD_eq_getElem?_getD, List.getElem?_replicate, if_pos hk]; rfl
  rw [← e, fl_set (by omega)] at this
  exact this
def rigI (c : Option Nat) (T : List (List Nat)) (p q : List Nat) (k : Nat) : LTm × LHp :=
  ([.sc (.sl 0 0 64 T.length c), .junk, .junk, .sc (.ptr 1 0 2 0), .junk, .sc (.ptr 4 0 64 0), .sc (.ptr 5 0 64 0), .junk, iv (k : Nat), .junk, .junk, .junk, .junk, .junk, .junk, .junk, .junk, .junk, .junk, .junk, .junk, .junk, .junk, .junk, .junk, .junk, .junk, .junk, .junk, .junk, .junk, .junk, .junk, .junk, .junk, .junk, .junk, .junk, .junk, .junk, .junk, .junk, .junk, .junk, .junk, .junk, .junk, .junk, .junk, .junk, .junk, .junk, .junk],
   [rowS T, some (.row .one 108 2 [[.one (.sl 2 0 64 (T.length + 2) (some (T.length + 2))), .one (.sl 3 0 1 (T.length + 2) (some (T.length + 2)))]] [2, 3]),
    colB false (fl (rowOf T) (zs 64) k), knB (fl (ones (T.length + 2)) 0 k), secB p, secB q])
theorem rig_ok (c : Option Nat) (T : List (List Nat)) (hT : Secs T) (h2 : 2 ≤ T.length) (h62 : T.length ≤ 62) :
    FunT Try.prog 58 [.sc (.sl 0 0 64 T.length c)] [rowS T] (.sc (.ptr 1 0 2 0)) [rowS T, some (.row .one 108 2 [[.one (.sl 2 0 64 (T.length + 2) (some (T.length + 2))), .one (.sl 3 0 1 (T.length + 2) (some (T.length + 2)))]] [2, 3]), colB false (rowOf T), knB (ones (T.length + 2))] := by
  have e1 : arithI .add .i64 (T.length : Nat) 2 = some ((T.length + 2 : Nat) : Int) := add_nat (b := 2) (by omega) (by decide)
  have e2 : arithI .add .i64 (T.length : Nat) 1 = some ((T.length + 1 : Nat) : Int) := inc_nat (by omega)
  have n0 := new_ok (T.length + 2) (by omega) (by omega)
  have o0 := of_ok T T.length c hT (Nat.le_refl _)
  have q1 : ofE T.length = 0 := by unfold ofE; rw [if_neg (by omega), if_neg (by omega)]
  have q2 : ofP T T.length = psum T T.length := by unfold ofP; rw [if_neg (by omega), if_neg (by omega)]
  have q3 : ofQ T T.length = qsum T T.length := by unfold ofQ; rw [if_neg (by omega), if_neg (by omega)]
  rw [q1, q2, q3] at o0
  have hl := rowOf_len T
  have pc := fun k (hk : k < T.length + 2) => put_fl (L := rowOf T) hl hk (by omega)
  have z1 : List.replicate (T.length + 2) (zs 64) = fl (rowOf T) (zs 64) 0 := by rw [fl_zero, hl]
  have z2 : List.replicate (T.length + 2) 0 = fl (ones (T.length + 2)) 0 0 := by rw [fl_zero, List.length_replicate]
  rw [z1, z2] at n0
  have pp := pc T.length (by omega)
  have pq := pc (T.length + 1) (by omega)
  rw [rowOf_p] at pp
  rw [rowOf_q] at pq
  have y1 : fl (rowOf T) (zs 64) (T.length + 1 + 1) = rowOf T := by rw [show T.length + 1 + 1 = (rowOf T).length from hl.symm, fl_full]
  have y2 : fl (ones (T.length + 2)) 0 (T.length + 1 + 1) = ones (T.length + 2) := by
    have : (ones (T.length + 2)).length = T.length + 1 + 1 := List.length_replicate
    have h := fl_full (A := ones (T.length + 2)) (z := 0)
    rwa [this] at h
  rw [y1, y2] at pq
  generalize psum T T.length = p at *
  generalize qsum T T.length = q at *
  obtain ⟨I, hI⟩ : ∃ I, I = rigI c T p q := ⟨_, rfl⟩
  cases c <;>
  · refine FunT.ev tabOk mixed Try.func58 rfl ?_
    conv => whnf
    repeat (first | (refine ⟨(by kernel_rfl : chkR _ _ _ _ = true), ?_⟩; conv => whnf) | (refine EvOr.go ?_; conv => whnf))
    refine ⟨_, e1, ?_⟩
    conv => whnf
    repeat (first | (refine ⟨(by kernel_rfl : chkR _ _ _ _ = true), ?_⟩; conv => whnf) | (refine EvOr.go ?_; conv => whnf))
    refine CallG.use n0 c50 [] [] ?_ ?_ ?_ ?_ ?_ ?_; rfl; rfl; kernel_rfl; rfl; rfl
    conv => whnf
    repeat (first | (refine ⟨(by kernel_rfl : chkR _ _ _ _ = true), ?_⟩; conv => whnf) | (refine EvOr.go ?_; conv => whnf))
    refine CallG.use o0 c22 [0] [] ?_ ?_ ?_ ?_ ?_ ?_; rfl; rfl; kernel_rfl; rfl; rfl
    conv => whnf
    repeat (first | (refine ⟨(by kernel_rfl : chkR _ _ _ _ = true), ?_⟩; conv => whnf) | (refine EvOr.go ?_; conv => whnf))
    repeat (intro c hc; simp [] at hc; subst hc; (conv => whnf); repeat (first | (refine ⟨(by kernel_rfl : chkR _ _ _ _ = true), ?_⟩; (conv => whnf)) | (refine EvOr.go ?_; (conv => whnf))))
    refine CodeT.loopN tabOk mixed I T.length _ (StW.ofP [0, 1, 2, 3, 4, 5] ?_ ?_ ?_) (fun k => by subst hI; rfl) ?_
    · subst hI; kernel_rfl
    · subst hI; rfl
    · subst hI; rfl
    intro k hkl
    subst hI
    show evC Try.prog tab _ _ (rigI _ T p q k).1 (rigI _ T p q k).2 _
    by_cases hk : k < T.length
    · have g1 := row_at (S := T) hk
      have pk := pc k (by omega)
      rw [rowOf_lo hk] at pk
      unfold rigI
      conv => whnf
      repeat (first | (refine ⟨(by kernel_rfl : chkR _ _ _ _ = true), ?_⟩; conv => whnf) | (refine EvOr.go ?_; conv => whnf))
      intro c hc
      obtain rfl : c = true := by rw [hc]; exact decide_eq_true (by omega)
      conv => whnf
      repeat (first | (refine ⟨(by kernel_rfl : chkR _ _ _ _ = true), ?_⟩; conv => whnf) | (refine EvOr.go ?_; conv => whnf))
      refine ⟨⟨by omega, by omega⟩, ?_⟩
      conv => whnf
      repeat (first | (refine ⟨(by kernel_rfl : chkR _ _ _ _ = true), ?_⟩; conv => whnf) | (refine EvOr.go ?_; conv => whnf))
      refine ⟨_, g1, ?_⟩
      conv => whnf
      repeat (first | (refine ⟨(by kernel_rfl : chkR _ _ _ _ = true), ?_⟩; conv => whnf) | (refine EvOr.go ?_; conv => whnf))
      refine CallG.use pk c52 [1, 2, 3] [1, 2] ?_ ?_ ?_ ?_ ?_ ?_; rfl; rfl; kernel_rfl; rfl; rfl
      conv => whnf
      repeat (first | (refine ⟨(by kernel_rfl : chkR _ _ _ _ = true), ?_⟩; conv => whnf) | (refine EvOr.go ?_; conv => whnf))
      refine ⟨_, inc_nat (by omega), ?_⟩
      conv => whnf
      repeat (first | (refine ⟨(by kernel_rfl : chkR _ _ _ _ = true), ?_⟩; conv => whnf) | (refine EvOr.go ?_; conv => whnf))
      refine ⟨by first | exact hk | omega, _, StW.ofP [0, 1, 2, 3, 4, 5] ?_ ?_ ?_⟩
      · kernel_rfl
      · rfl
      · rfl
    · obtain rfl : k = T.length := by omega
      unfold rigI
      conv => whnf
      repeat (first | (refine ⟨(by kernel_rfl : chkR _ _ _ _ = true), ?_⟩; conv => whnf) | (refine EvOr.go ?_; conv => whnf))
      intro c hc
      obtain rfl : c = false := by rw [hc]; exact decide_eq_false (by omega)
      conv => whnf
      repeat (first | (refine ⟨(by kernel_rfl : chkR _ _ _ _ = true), ?_⟩; conv => whnf) | (refine EvOr.go ?_; conv => whnf))
      refine CallG.use pp c52 [1, 2, 3] [1, 2] ?_ ?_ ?_ ?_ ?_ ?_; rfl; rfl; kernel_rfl; rfl; rfl
      conv => whnf
      repeat (first | (refine ⟨(by kernel_rfl : chkR _ _ _ _ = true), ?_⟩; conv => whnf) | (refine EvOr.go ?_; conv => whnf))
      refine ⟨_, e2, ?_⟩
      conv => whnf
      repeat (first | (refine ⟨(by kernel_rfl : chkR _ _ _ _ = true), ?_⟩; conv => whnf) | (refine EvOr.go ?_; conv => whnf))
      refine CallG.use pq c52 [1, 2, 3] [1, 2] ?_ ?_ ?_ ?_ ?_ ?_; rfl; rfl; kernel_rfl; rfl; rfl
      conv => whnf
      repeat (first | (refine ⟨(by kernel_rfl : chkR _ _ _ _ = true), ?_⟩; conv => whnf) | (refine EvOr.go ?_; conv => whnf))
      exact retQ.one rfl (.inr rfl) rfl (Nat.le_of_ble_eq_true rfl) rfl
end Go.Proofs.Ytdmcbfmpnakdfaa.Eng.St
