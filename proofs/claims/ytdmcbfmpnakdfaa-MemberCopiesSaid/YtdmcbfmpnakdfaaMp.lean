/- Members: what Set does to the log. -/
import Derived.Test.YtdmcbfmpnakdfaaMh
namespace Go.Proofs.Ytdmcbfmpnakdfaa.Eng
open Go Go.Proofs
set_option maxRecDepth 20000
set_option maxHeartbeats 4000000
theorem c43 : Callable Try.prog 43 := ⟨⟨_, Try.func43, by kernel_rfl, by kernel_rfl⟩⟩
theorem c44 : Callable Try.prog 44 := ⟨⟨_, Try.func44, by kernel_rfl, by kernel_rfl⟩⟩
abbrev boxI (i : Int) : Option ABlk := some (.row .one 3 1 [[.one (.raw (.int .i64 i))]] [])
theorem keepS_ok (p : Int × List Nat) (i : Int) : FunT Try.prog 106 [.agg (encW p), .sc (.ptr 0 0 1 0)] [boxI i] (bv (p.1 == i)) [boxI i] := by
  refine FunT.ev tabOk mixed Try.func106 rfl ?_
  conv => whnf
  repeat (first | (refine ⟨(by kernel_rfl : chkR _ _ _ _ = true), ?_⟩; conv => whnf) | (refine EvOr.go ?_; conv => whnf))
  intro c hc
  cases c
  · conv => whnf
    repeat (first | (refine ⟨(by kernel_rfl : chkR _ _ _ _ = true), ?_⟩; conv => whnf) | (refine EvOr.go ?_; conv => whnf))
    refine retQ.one rfl (.inr rfl) ?_ (Nat.le_of_ble_eq_true rfl) rfl
    rw [show (p.1 == i) = false from hc.symm]; rfl
  · conv => whnf
    repeat (first | (refine ⟨(by kernel_rfl : chkR _ _ _ _ = true), ?_⟩; conv => whnf) | (refine EvOr.go ?_; conv => whnf))
    refine retQ.one rfl (.inr rfl) ?_ (Nat.le_of_ble_eq_true rfl) rfl
    rw [show (p.1 == i) = true from hc.symm]; rfl
/-- The first write to a sector; as many as there are, if there is none. -/
def fstW (l : Img) (i : Int) : Nat := l.findIdx (fun p => p.1 == i)
theorem fstW_le (l : Img) (i : Int) : fstW l i ≤ l.length := List.findIdx_le_length
theorem fstW_not {l : Img} {i : Int} {k : Nat} (hk : k < l.length) (h : k < fstW l i) : (l[k].1 == i) = false := by
  have := List.not_of_lt_findIdx h
  simpa using this
theorem fstW_at {l : Img} {i : Int} (h : fstW l i < l.length) : (l[fstW l i].1 == i) = true := List.findIdx_getElem (w := h)
def idxW (l : Img) (i : Int) : Int := if fstW l i < l.length then fstW l i else -1
abbrev fnS : AV := .sc (.fn (.func 106) [] [.ptr 1 0 1 0])
def idxI (Ml : Img) (J : List Segs) (i : Int) (k : Nat) : LTm × LHp :=
  ([.sc (.sl 0 0 65 Ml.length none), fnS, .junk, .junk, .junk, .junk, .junk, iv (Ml.length : Nat), iv (k : Nat), .junk, .junk, .junk, .junk, .junk, .junk, .junk, .junk, .junk, .junk],
   [some (.row .inx 127 65 (Ml.map encW ++ J) []), boxI i])
theorem idx_ok (l : Img) (J : List Segs) (i : Int) (hb : l.length < 2 ^ 62) :
    FunT Try.prog 130 [.sc (.sl 0 0 65 l.length none), fnS] [some (.row .inx 127 65 (l.map encW ++ J) []), boxI i] (iv (idxW l i)) [some (.row .inx 127 65 (l.map encW ++ J) []), boxI i] := by
  obtain ⟨I, hI⟩ : ∃ I, I = idxI l J i := ⟨_, rfl⟩
  have hle := fstW_le l i
  refine FunT.ev tabOk mixed Try.func130 rfl ?_
  conv => whnf
  repeat (first | (refine ⟨(by kernel_rfl : chkR _ _ _ _ = true), ?_⟩; conv => whnf) | (refine EvOr.go ?_; conv => whnf))
  refine CodeT.loopN tabOk mixed I (fstW l i) _ (StW.ofP [0, 1] ?_ ?_ ?_) (fun k => by subst hI; rfl) ?_
  · subst hI; kernel_rfl
  · subst hI; rfl
  · subst hI; rfl
  intro k hkl
  subst hI
  conv => whnf
  repeat (first | (refine ⟨(by kernel_rfl : chkR _ _ _ _ = true), ?_⟩; conv => whnf) | (refine EvOr.go ?_; conv => whnf))
  intro c hc
  by_cases hk : k < l.length
  · obtain rfl : c = true := by rw [hc]; exact decide_eq_true (by omega)
    have hK := keepS_ok l[k] i
    conv => whnf
    repeat (first | (refine ⟨(by kernel_rfl : chkR _ _ _ _ = true), ?_⟩; conv => whnf) | (refine EvOr.go ?_; conv => whnf))
    refine ⟨⟨by omega, by omega⟩, ?_⟩
    conv => whnf
    repeat (first | (refine ⟨(by kernel_rfl : chkR _ _ _ _ = true), ?_⟩; conv => whnf) | (refine EvOr.go ?_; conv => whnf))
    refine ⟨_, log_get hk, ?_⟩
    conv => whnf
    repeat (first | (refine ⟨(by kernel_rfl : chkR _ _ _ _ = true), ?_⟩; conv => whnf) | (refine EvOr.go ?_; conv => whnf))
    rcases Nat.lt_or_eq_of_le hkl with h | h
    · rw [fstW_not hk h] at hK
      refine CallG.use hK c106 [1] [] ?_ ?_ ?_ ?_ ?_ ?_; rfl; rfl; kernel_rfl; rfl; rfl
      conv => whnf
      repeat (first | (refine ⟨(by kernel_rfl : chkR _ _ _ _ = true), ?_⟩; conv => whnf) | (refine EvOr.go ?_; conv => whnf))
      refine ⟨_, inc_nat (by omega), ?_⟩
      conv => whnf
      repeat (first | (refine ⟨(by kernel_rfl : chkR _ _ _ _ = true), ?_⟩; conv => whnf) | (refine EvOr.go ?_; conv => whnf))
      refine ⟨by first | exact hk | omega, _, StW.ofP [0, 1] ?_ ?_ ?_⟩
      · kernel_rfl
      · rfl
      · rfl
    · have hm := fstW_at (l := l) (i := i) (h ▸ hk)
      have hm' : (l[k].1 == i) = true := by
        have : ∀ (j : Nat) (hj : j < l.length), k = j → (l[j].1 == i) = true → (l[k].1 == i) = true := fun j hj e h => by subst e; exact h
        exact this _ _ h hm
      rw [hm'] at hK
      refine CallG.use hK c106 [1] [] ?_ ?_ ?_ ?_ ?_ ?_; rfl; rfl; kernel_rfl; rfl; rfl
      conv => whnf
      repeat (first | (refine ⟨(by kernel_rfl : chkR _ _ _ _ = true), ?_⟩; conv => whnf) | (refine EvOr.go ?_; conv => whnf))
      refine retQ.one rfl (.inr rfl) ?_ (Nat.le_of_ble_eq_true rfl) rfl
      have : idxW l i = (k : Nat) := by unfold idxW; rw [if_pos (by omega), h]
      rw [this]; rfl
  · obtain rfl : c = false := by rw [hc]; exact decide_eq_false (by omega)
    conv => whnf
    repeat (first | (refine ⟨(by kernel_rfl : chkR _ _ _ _ = true), ?_⟩; conv => whnf) | (refine EvOr.go ?_; conv => whnf))
    refine retQ.one rfl (.inr rfl) ?_ (Nat.le_of_ble_eq_true rfl) rfl
    have : idxW l i = -1 := by unfold idxW; rw [if_neg (by omega)]
    rw [this]; rfl
/-- The log without the writes to a sector. -/
def delW (i : Int) (l : Img) : Img := l.filter (fun p => !(p.1 == i))
def mD (l : Img) (i : Int) (k : Nat) : Nat := (delW i (l.take (fstW l i + 1 + k))).length
def rowD (l : Img) (i : Int) (k : Nat) : Img := delW i (l.take (fstW l i + 1 + k)) ++ l.drop (mD l i k)
theorem delW_F (l : Img) (i : Int) (h : fstW l i < l.length) : delW i (l.take (fstW l i + 1)) = l.take (fstW l i) := by
  unfold delW
  rw [List.take_succ_eq_append_getElem h, List.filter_append]
  have h1 : List.filter (fun p => !(p.1 == i)) (l.take (fstW l i)) = l.take (fstW l i) := by
    rw [List.filter_eq_self]
    intro p hp
    obtain ⟨k, hk, rfl⟩ := List.getElem_of_mem hp
    rw [List.length_take] at hk
    rw [List.getElem_take, fstW_not (by omega) (by omega)]; rfl
  rw [h1]
  have := fstW_at h
  simp only [List.filter_cons, this, Bool.not_true, Bool.false_eq_true, if_false, List.filter_nil, List.append_nil]
theorem mD_zero {l : Img} {i : Int} (h : fstW l i < l.length) : mD l i 0 = fstW l i := by
  unfold mD
  rw [Nat.add_zero, delW_F l i h, List.length_take]; omega
theorem rowD_zero {l : Img} {i : Int} (h : fstW l i < l.length) : rowD l i 0 = l := by
  unfold rowD
  rw [mD_zero h, Nat.add_zero, delW_F l i h, List.take_append_drop]
theorem mD_lt {l : Img} {i : Int} (h : fstW l i < l.length) (k : Nat) : mD l i k ≤ fstW l i + k := by
  unfold mD
  have e : l.take (fstW l i + 1 + k) = l.take (fstW l i + 1) ++ (l.drop (fstW l i + 1)).take k := by
    rw [List.take_add]
  rw [e]
  have : delW i (l.take (fstW l i + 1) ++ (l.drop (fstW l i + 1)).take k) = delW i (l.take (fstW l i + 1)) ++ delW i ((l.drop (fstW l i + 1)).take k) := List.filter_append ..
  rw [this, delW_F l i h, List.length_append, List.length_take]
  have h2 : (delW i ((l.drop (fstW l i + 1)).take k)).length ≤ ((l.drop (fstW l i + 1)).take k).length := List.length_filter_le ..
  rw [List.length_take] at h2
  omega
theorem rowD_get {l : Img} {i : Int} (h : fstW l i < l.length) {k : Nat} (hk : fstW l i + 1 + k < l.length) : (rowD l i k)[fstW l i + 1 + k]? = some l[fstW l i + 1 + k] := by
  have := mD_lt h k
  unfold rowD
  rw [List.getElem?_append_right (by unfold mD at this; omega), List.getElem?_drop]
  rw [show mD l i k + (fstW l i + 1 + k - (delW i (l.take (fstW l i + 1 + k))).length) = fstW l i + 1 + k by unfold mD at this ⊢; omega, List.getElem?_eq_getElem hk]
theorem rowD_length {l : Img} {i : Int} (h : fstW l i < l.length) {k : Nat} (hk : fstW l i + 1 + k ≤ l.length) : (rowD l i k).length = l.length := by
  have := mD_lt h k
  unfold rowD
  rw [List.length_append, List.length_drop]
  show mD l i k + _ = _
  omega
theorem delW_succ {l : Img} {i : Int} {j : Nat} (hj : j < l.length) : delW i (l.take (j + 1)) = delW i (l.take j) ++ (if l[j].1 == i then [] else [l[j]]) := by
  unfold delW
  rw [List.take_succ_eq_append_getElem hj, List.filter_append]
  congr 1
  cases h : l[j].1 == i <;> simp [h]
theorem mD_del {l : Img} {i : Int} {k : Nat} (hk : fstW l i + 1 + k < l.length) (hd : (l[fstW l i + 1 + k].1 == i) = true) : mD l i (k + 1) = mD l i k ∧ rowD l i (k + 1) = rowD l i k := by
  have e : mD l i (k + 1) = mD l i k := by
    unfold mD
    rw [show fstW l i + 1 + (k + 1) = fstW l i + 1 + k + 1 by omega, delW_succ hk, hd, if_pos rfl, List.append_nil]
  refine ⟨e, ?_⟩
  unfold rowD
  rw [e, show fstW l i + 1 + (k + 1) = fstW l i + 1 + k + 1 by omega, delW_succ hk, hd, if_pos rfl, List.append_nil]
theorem mD_keep {l : Img} {i : Int} {k : Nat} (h : fstW l i < l.length) (hk : fstW l i + 1 + k < l.length) (hd : (l[fstW l i + 1 + k].1 == i) = false) : mD l i (k + 1) = mD l i k + 1 ∧ rowD l i (k + 1) = (rowD l i k).set (mD l i k) l[fstW l i + 1 + k] := by
  have e : mD l i (k + 1) = mD l i k + 1 := by
    unfold mD
    rw [show fstW l i + 1 + (k + 1) = fstW l i + 1 + k + 1 by omega, delW_succ hk, hd, if_neg (by decide), List.length_append]; rfl
  refine ⟨e, ?_⟩
  unfold rowD
  rw [e, show fstW l i + 1 + (k + 1) = fstW l i + 1 + k + 1 by omega, delW_succ hk, hd, if_neg (by decide)]
  have hm := mD_lt h k
  rw [List.set_append, if_neg (by unfold mD; omega)]
  have : mD l i k - (delW i (l.take (fstW l i + 1 + k))).length = 0 := by unfold mD; omega
  rw [this, List.append_assoc]
  congr 1
  rw [List.drop_eq_getElem_cons (i := mD l i k) (by omega)]; rfl
abbrev zW : Segs := [.one (.raw (.int .i64 0)), .byt 64 (zs 64)]
/-- What lies behind the log then. -/
def junkD (l : Img) (i : Int) (J : List Segs) : List Segs := if fstW l i < l.length then List.replicate (l.length - (delW i l).length) zW ++ J else J
theorem delW_none {l : Img} {i : Int} (h : ¬ fstW l i < l.length) : delW i l = l := by
  unfold delW
  rw [List.filter_eq_self]
  intro p hp
  obtain ⟨k, hk, rfl⟩ := List.getElem_of_mem hp
  rw [fstW_not hk (by omega)]; rfl
def delI2 (l : Img) (J : List Segs) (i : Int) (k : Nat) : LTm × LHp :=
  ([.sc (.sl 0 0 65 l.length none), fnS, .junk, .junk, .junk, iv (mD l i k : Nat), iv (fstW l i + 1 + k : Nat), .junk, .junk, .junk, .junk, .junk, .junk, .junk, .junk, .junk, .junk, .junk, .junk, .junk, .junk, .junk, .junk, .junk, .junk, .junk, .junk, .junk, .junk, .junk, .junk, .junk, .junk, .junk, .junk, .junk, .junk, .junk, .junk, .junk, .junk, .junk],
   [some (.row .inx 127 65 ((rowD l i k).map encW ++ J) []), boxI i])
theorem row_get {L : Img} {J : List Segs} {k : Nat} {p : Int × List Nat} (h : L[k]? = some p) : (L.map encW ++ J)[0 + (k : Int).toNat]? = some (encW p) := by
  have hk := (List.getElem?_eq_some_iff.1 h).1
  rw [Nat.zero_add, Int.toNat_natCast, List.getElem?_append_left (by simpa using hk), List.getElem?_map, h]; rfl
theorem row_set {L : Img} {J : List Segs} {k : Nat} {p : Int × List Nat} (hk : k < L.length) : (L.map encW ++ J).set (0 + (k : Int).toNat) (encW p) = (L.set k p).map encW ++ J := by
  rw [Nat.zero_add, Int.toNat_natCast, List.set_append, if_pos (by simpa using hk), List.map_set]
theorem row_clr {l : Img} {i : Int} {J : List Segs} {k : Nat} (h : fstW l i < l.length) (hk : fstW l i + 1 + k = l.length) :
    ((rowD l i k).map encW ++ J).take (0 + (mD l i k : Int).toNat) ++ (List.replicate ((l.length : Nat) - (mD l i k : Nat) : Int).toNat zW ++ ((rowD l i k).map encW ++ J).drop (0 + (mD l i k : Int).toNat + ((l.length : Nat) - (mD l i k : Nat) : Int).toNat)) = (delW i l).map encW ++ junkD l i J := by
  have hm := mD_lt h k
  have hdl : delW i (l.take (fstW l i + 1 + k)) = delW i l := by rw [hk, List.take_length]
  have hml : mD l i k = (delW i l).length := by unfold mD; rw [hdl]
  have hrl := rowD_length h (k := k) (by omega)
  rw [Nat.zero_add, Int.toNat_natCast, show ((l.length : Nat) - (mD l i k : Nat) : Int).toNat = l.length - mD l i k by omega]
  unfold junkD
  rw [if_pos h]
  have e1 : ((rowD l i k).map encW ++ J).take (mD l i k) = (delW i l).map encW := by
    unfold rowD
    rw [hdl, List.map_append, List.append_assoc, List.take_left' (by rw [List.length_map, hml])]
  have e2 : ((rowD l i k).map encW ++ J).drop (mD l i k + (l.length - mD l i k)) = J := by
    rw [show mD l i k + (l.length - mD l i k) = l.length by omega, List.drop_left' (by rw [List.length_map, hrl])]
  rw [e1, e2, hml]
theorem del_ok (l : Img) (J : List Segs) (i : Int) (hb : l.length < 2 ^ 62) :
    FunT Try.prog 105 [.sc (.sl 0 0 65 l.length none), fnS] [some (.row .inx 127 65 (l.map encW ++ J) []), boxI i] (.sc (.sl 0 0 65 (delW i l).length none)) [some (.row .inx 127 65 ((delW i l).map encW ++ junkD l i J) []), boxI i] := by
  have hX := idx_ok l J i hb
  by_cases hF : fstW l i < l.length
  · have hi : idxW l i = (fstW l i : Nat) := by unfold idxW; rw [if_pos hF]
    rw [hi] at hX
    refine FunT.ev tabOk mixed Try.func105 rfl ?_
    conv => whnf
    repeat (first | (refine ⟨(by kernel_rfl : chkR _ _ _ _ = true), ?_⟩; conv => whnf) | (refine EvOr.go ?_; conv => whnf))
    refine CallG.use hX c130 [0, 1] [] ?_ ?_ ?_ ?_ ?_ ?_; rfl; rfl; kernel_rfl; rfl; rfl
    conv => whnf
    repeat (first | (refine ⟨(by kernel_rfl : chkR _ _ _ _ = true), ?_⟩; conv => whnf) | (refine EvOr.go ?_; conv => whnf))
    intro c hc
    obtain rfl : c = false := by rw [hc]; simp
    conv => whnf
    repeat (first | (refine ⟨(by kernel_rfl : chkR _ _ _ _ = true), ?_⟩; conv => whnf) | (refine EvOr.go ?_; conv => whnf))
    refine ⟨_, inc_nat (by omega), ?_⟩
    conv => whnf
    repeat (first | (refine ⟨(by kernel_rfl : chkR _ _ _ _ = true), ?_⟩; conv => whnf) | (refine EvOr.go ?_; conv => whnf))
    obtain ⟨I, hI⟩ : ∃ I, I = delI2 l J i := ⟨_, rfl⟩
    refine CodeT.loopN tabOk mixed I (l.length - (fstW l i + 1)) _ (StW.ofP [0, 1] ?_ ?_ ?_) (fun k => by subst hI; rfl) ?_
    · subst hI; kernel_rfl
    · subst hI; simp only [delI2, mD_zero hF]; rfl
    · subst hI; simp only [delI2, rowD_zero hF]; rfl
    intro k hkl
    subst hI
    have hm := mD_lt hF k
    conv => whnf
    repeat (first | (refine ⟨(by kernel_rfl : chkR _ _ _ _ = true), ?_⟩; conv => whnf) | (refine EvOr.go ?_; conv => whnf))
    intro c hc
    by_cases hk : fstW l i + 1 + k < l.length
    · obtain rfl : c = true := by rw [hc]; exact decide_eq_true (by omega)
      have hK := keepS_ok l[fstW l i + 1 + k] i
      conv => whnf
      repeat (first | (refine ⟨(by kernel_rfl : chkR _ _ _ _ = true), ?_⟩; conv => whnf) | (refine EvOr.go ?_; conv => whnf))
      refine ⟨⟨by omega, by omega⟩, ?_⟩
      conv => whnf
      repeat (first | (refine ⟨(by kernel_rfl : chkR _ _ _ _ = true), ?_⟩; conv => whnf) | (refine EvOr.go ?_; conv => whnf))
      refine ⟨_, row_get (rowD_get hF hk), ?_⟩
      conv => whnf
      repeat (first | (refine ⟨(by kernel_rfl : chkR _ _ _ _ = true), ?_⟩; conv => whnf) | (refine EvOr.go ?_; conv => whnf))
      cases hd : (l[fstW l i + 1 + k].1 == i)
      · rw [hd] at hK
        obtain ⟨q1, q2⟩ := mD_keep hF hk hd
        refine CallG.use hK c106 [1] [] ?_ ?_ ?_ ?_ ?_ ?_; rfl; rfl; kernel_rfl; rfl; rfl
        conv => whnf
        repeat (first | (refine ⟨(by kernel_rfl : chkR _ _ _ _ = true), ?_⟩; conv => whnf) | (refine EvOr.go ?_; conv => whnf))
        refine ⟨⟨by omega, by omega⟩, ?_⟩
        conv => whnf
        repeat (first | (refine ⟨(by kernel_rfl : chkR _ _ _ _ = true), ?_⟩; conv => whnf) | (refine EvOr.go ?_; conv => whnf))
        refine ⟨_, row_get (List.getElem?_eq_getElem (by rw [rowD_length hF (by omega)]; omega)), ?_⟩
        conv => whnf
        repeat (first | (refine ⟨(by kernel_rfl : chkR _ _ _ _ = true), ?_⟩; conv => whnf) | (refine EvOr.go ?_; conv => whnf))
        refine ⟨_, inc_nat (by omega), ?_⟩
        conv => whnf
        repeat (first | (refine ⟨(by kernel_rfl : chkR _ _ _ _ = true), ?_⟩; conv => whnf) | (refine EvOr.go ?_; conv => whnf))
        refine ⟨_, inc_nat (by omega), ?_⟩
        conv => whnf
        repeat (first | (refine ⟨(by kernel_rfl : chkR _ _ _ _ = true), ?_⟩; conv => whnf) | (refine EvOr.go ?_; conv => whnf))
        refine ⟨by omega, _, StW.ofP [0, 1] ?_ ?_ ?_⟩
        · kernel_rfl
        · simp only [delI2, q1]; rfl
        · simp only [delI2, q2, ← row_set (J := J) (show mD l i k < (rowD l i k).length by rw [rowD_length hF (by omega)]; omega)]; rfl
      · rw [hd] at hK
        obtain ⟨q1, q2⟩ := mD_del hk hd
        refine CallG.use hK c106 [1] [] ?_ ?_ ?_ ?_ ?_ ?_; rfl; rfl; kernel_rfl; rfl; rfl
        conv => whnf
        repeat (first | (refine ⟨(by kernel_rfl : chkR _ _ _ _ = true), ?_⟩; conv => whnf) | (refine EvOr.go ?_; conv => whnf))
        refine ⟨_, inc_nat (by omega), ?_⟩
        conv => whnf
        repeat (first | (refine ⟨(by kernel_rfl : chkR _ _ _ _ = true), ?_⟩; conv => whnf) | (refine EvOr.go ?_; conv => whnf))
        refine ⟨by omega, _, StW.ofP [0, 1] ?_ ?_ ?_⟩
        · kernel_rfl
        · simp only [delI2, q1]; rfl
        · simp only [delI2, q2]; rfl
    · obtain rfl : c = false := by rw [hc]; exact decide_eq_false (by omega)
      conv => whnf
      repeat (first | (refine ⟨(by kernel_rfl : chkR _ _ _ _ = true), ?_⟩; conv => whnf) | (refine EvOr.go ?_; conv => whnf))
      have hrl := rowD_length hF (k := k) (by omega)
      have hL : ∀ X : List Segs, X.length = l.length → (X ++ J).length = l.length + J.length := fun X h => by rw [List.length_append, h]
      have hL2 := hL ((rowD l i k).map encW) (by rw [List.length_map, hrl])
      have hml : mD l i k = (delW i l).length := by
        unfold mD
        rw [show fstW l i + 1 + k = l.length by omega, List.take_length]
      refine ⟨⟨by omega, by omega, Int.le_refl _, fun _ => ⟨_, _, _, _, _, rfl, by rw [hL2]; omega⟩⟩, fun _ => ?_, fun h => absurd h (by omega)⟩
      conv => whnf
      repeat (first | (refine ⟨(by kernel_rfl : chkR _ _ _ _ = true), ?_⟩; conv => whnf) | (refine EvOr.go ?_; conv => whnf))
      refine ⟨⟨by rw [hL2]; omega, rfl⟩, ?_⟩
      conv => whnf
      repeat (first | (refine ⟨(by kernel_rfl : chkR _ _ _ _ = true), ?_⟩; conv => whnf) | (refine EvOr.go ?_; conv => whnf))
      refine ⟨⟨Int.le_refl _, by omega, by show (mD l i k : Int) ≤ (l.length : Nat); omega, fun _ => ⟨_, _, _, _, _, rfl, ?_⟩⟩, fun _ => ?_, fun _ h => absurd h (by decide)⟩
      · simp only [List.length_append, List.length_take, List.length_replicate, List.length_drop, hL2]
        omega
      conv => whnf
      repeat (first | (refine ⟨(by kernel_rfl : chkR _ _ _ _ = true), ?_⟩; conv => whnf) | (refine EvOr.go ?_; conv => whnf))
      rw [← row_clr (J := J) hF (k := k) (by omega)]
      refine retQ.one rfl (.inr rfl) ?_ (Nat.le_of_ble_eq_true rfl) rfl
      show AV.sc (.sl 0 (0 + (0 : Int).toNat) 65 ((mD l i k : Int) - 0).toNat none) = _
      rw [← hml]
      simp
  · have hi : idxW l i = -1 := by unfold idxW; rw [if_neg hF]
    rw [hi] at hX
    have ej : junkD l i J = J := by unfold junkD; rw [if_neg hF]
    rw [delW_none hF, ej]
    refine FunT.ev tabOk mixed Try.func105 rfl ?_
    conv => whnf
    repeat (first | (refine ⟨(by kernel_rfl : chkR _ _ _ _ = true), ?_⟩; conv => whnf) | (refine EvOr.go ?_; conv => whnf))
    refine CallG.use hX c130 [0, 1] [] ?_ ?_ ?_ ?_ ?_ ?_; rfl; rfl; kernel_rfl; rfl; rfl
    conv => whnf
    repeat (first | (refine ⟨(by kernel_rfl : chkR _ _ _ _ = true), ?_⟩; conv => whnf) | (refine EvOr.go ?_; conv => whnf))
    intro c hc
    obtain rfl : c = true := by rw [hc]; rfl
    conv => whnf
    repeat (first | (refine ⟨(by kernel_rfl : chkR _ _ _ _ = true), ?_⟩; conv => whnf) | (refine EvOr.go ?_; conv => whnf))
    exact retQ.one rfl (.inr rfl) rfl (Nat.le_of_ble_eq_true rfl) rfl
theorem del_nil (i : Int) : FunT Try.prog 105 [.sc nilS, fnS] [none, boxI i] (.sc nilS) [none, boxI i] := by
  have hX : FunT Try.prog 130 [.sc nilS, fnS] [none, boxI i] (iv (-1)) [none, boxI i] := by
    refine FunT.ev tabOk mixed Try.func130 rfl ?_
    conv => whnf
    repeat (first | (refine ⟨(by kernel_rfl : chkR _ _ _ _ = true), ?_⟩; conv => whnf) | (refine EvOr.go ?_; conv => whnf))
    refine CodeS.loop0 tabOk mixed (Nat.le_of_ble_eq_true rfl) ?_
    conv => whnf
    repeat (first | (refine ⟨(by kernel_rfl : chkR _ _ _ _ = true), ?_⟩; conv => whnf) | (refine EvOr.go ?_; conv => whnf))
    intro c hc
    obtain rfl : c = false := by rw [hc]; rfl
    conv => whnf
    repeat (first | (refine ⟨(by kernel_rfl : chkR _ _ _ _ = true), ?_⟩; conv => whnf) | (refine EvOr.go ?_; conv => whnf))
    exact retQ.one rfl (.inr rfl) rfl (Nat.le_of_ble_eq_true rfl) rfl
  refine FunT.ev tabOk mixed Try.func105 rfl ?_
  conv => whnf
  repeat (first | (refine ⟨(by kernel_rfl : chkR _ _ _ _ = true), ?_⟩; conv => whnf) | (refine EvOr.go ?_; conv => whnf))
  refine CallG.use hX c130 [0, 1] [] ?_ ?_ ?_ ?_ ?_ ?_; rfl; rfl; kernel_rfl; rfl; rfl
  conv => whnf
  repeat (first | (refine ⟨(by kernel_rfl : chkR _ _ _ _ = true), ?_⟩; conv => whnf) | (refine EvOr.go ?_; conv => whnf))
  intro c hc
  obtain rfl : c = true := by rw [hc]; rfl
  conv => whnf
  repeat (first | (refine ⟨(by kernel_rfl : chkR _ _ _ _ = true), ?_⟩; conv => whnf) | (refine EvOr.go ?_; conv => whnf))
  exact retQ.one rfl (.inr rfl) rfl (Nat.le_of_ble_eq_true rfl) rfl
theorem del_ex (i : Int) : FunT Try.prog 105 [.sc (.sl 0 0 65 0 (some 0)), fnS] [none, boxI i] (.sc (.sl 0 0 65 0 (some 0))) [none, boxI i] := by
  have hX : FunT Try.prog 130 [.sc (.sl 0 0 65 0 (some 0)), fnS] [none, boxI i] (iv (-1)) [none, boxI i] := by
    refine FunT.ev tabOk mixed Try.func130 rfl ?_
    conv => whnf
    repeat (first | (refine ⟨(by kernel_rfl : chkR _ _ _ _ = true), ?_⟩; conv => whnf) | (refine EvOr.go ?_; conv => whnf))
    refine CodeS.loop0 tabOk mixed (Nat.le_of_ble_eq_true rfl) ?_
    conv => whnf
    repeat (first | (refine ⟨(by kernel_rfl : chkR _ _ _ _ = true), ?_⟩; conv => whnf) | (refine EvOr.go ?_; conv => whnf))
    intro c hc
    obtain rfl : c = false := by rw [hc]; rfl
    conv => whnf
    repeat (first | (refine ⟨(by kernel_rfl : chkR _ _ _ _ = true), ?_⟩; conv => whnf) | (refine EvOr.go ?_; conv => whnf))
    exact retQ.one rfl (.inr rfl) rfl (Nat.le_of_ble_eq_true rfl) rfl
  refine FunT.ev tabOk mixed Try.func105 rfl ?_
  conv => whnf
  repeat (first | (refine ⟨(by kernel_rfl : chkR _ _ _ _ = true), ?_⟩; conv => whnf) | (refine EvOr.go ?_; conv => whnf))
  refine CallG.use hX c130 [0, 1] [] ?_ ?_ ?_ ?_ ?_ ?_; rfl; rfl; kernel_rfl; rfl; rfl
  conv => whnf
  repeat (first | (refine ⟨(by kernel_rfl : chkR _ _ _ _ = true), ?_⟩; conv => whnf) | (refine EvOr.go ?_; conv => whnf))
  intro c hc
  obtain rfl : c = true := by rw [hc]; rfl
  conv => whnf
  repeat (first | (refine ⟨(by kernel_rfl : chkR _ _ _ _ = true), ?_⟩; conv => whnf) | (refine EvOr.go ?_; conv => whnf))
  exact retQ.one rfl (.inr rfl) rfl (Nat.le_of_ble_eq_true rfl) rfl
def setM (M : Mem) (i : Int) (s : List Nat) : Mem := { M with seen := putI M.seen i s, dur := putI M.dur i s, log := delW i M.log, hurt := true }
def Lg.set (lg : Lg) (l : Img) (i : Int) : Lg := match lg with
  | .inx J => .inx (junkD l i J)
  | lg => lg
theorem Lg.set_ok {lg : Lg} {l : Img} (i : Int) (h : lg.ok l) : (lg.set l i).ok (delW i l) := by
  cases lg with
  | inx J => trivial
  | nil => obtain rfl : l = [] := h; rfl
  | ex => obtain rfl : l = [] := h; rfl
theorem set_ok (M : Mem) (lg : Lg) (mk : Mk) (i : Int) (s : List Nat) (hlg : lg.ok M.log) (hn : 0 < M.n) (h0 : mayE M i = 0) (hb : M.log.length < 2 ^ 62) :
    FunT Try.prog 47 [mpv, iv i, secV s] (hM4 M lg mk) (iv 0) (hM4 (setM M i s) (lg.set M.log i) mk) := by
  have hI := may_ok M lg mk i hn
  have hP1 := put_ok M.seen i s
  have hP2 := put_ok M.dur i s
  rw [h0] at hI
  obtain ⟨Mn, Ms, Md, Ml, Mf, Mh⟩ := M
  cases lg with
  | nil =>
    obtain rfl : Ml = [] := hlg
    have hD := del_nil i
    cases mk <;>
    · refine FunT.ev tabOk mixed Try.func47 rfl ?_
      conv => whnf
      repeat (first | (refine ⟨(by kernel_rfl : chkR _ _ _ _ = true), ?_⟩; conv => whnf) | (refine EvOr.go ?_; conv => whnf))
      refine CallG.use hI c95 [0, 1, 2, 3, 4] [] ?_ ?_ ?_ ?_ ?_ ?_; rfl; rfl; kernel_rfl; rfl; rfl
      conv => whnf
      repeat (first | (refine ⟨(by kernel_rfl : chkR _ _ _ _ = true), ?_⟩; conv => whnf) | (refine EvOr.go ?_; conv => whnf))
      intro c hc
      obtain rfl : c = false := by rw [hc]; rfl
      conv => whnf
      repeat (first | (refine ⟨(by kernel_rfl : chkR _ _ _ _ = true), ?_⟩; conv => whnf) | (refine EvOr.go ?_; conv => whnf))
      refine CallG.use hD c105 [3, 5] [] ?_ ?_ ?_ ?_ ?_ ?_; rfl; rfl; kernel_rfl; rfl; rfl
      conv => whnf
      repeat (first | (refine ⟨(by kernel_rfl : chkR _ _ _ _ = true), ?_⟩; conv => whnf) | (refine EvOr.go ?_; conv => whnf))
      refine CallG.use hP1 c94 [1] [0] ?_ ?_ ?_ ?_ ?_ ?_; rfl; rfl; kernel_rfl; rfl; rfl
      conv => whnf
      repeat (first | (refine ⟨(by kernel_rfl : chkR _ _ _ _ = true), ?_⟩; conv => whnf) | (refine EvOr.go ?_; conv => whnf))
      refine CallG.use hP2 c94 [2] [0] ?_ ?_ ?_ ?_ ?_ ?_; rfl; rfl; kernel_rfl; rfl; rfl
      conv => whnf
      repeat (first | (refine ⟨(by kernel_rfl : chkR _ _ _ _ = true), ?_⟩; conv => whnf) | (refine EvOr.go ?_; conv => whnf))
      exact retQ.oneS [0, 1, 2, 3, 4] rfl (by first | exact .inr rfl | exact .inl rfl) rfl (by kernel_rfl) (by first | rfl | kernel_rfl)
  | ex =>
    obtain rfl : Ml = [] := hlg
    have hD := del_ex i
    cases mk <;>
    · refine FunT.ev tabOk mixed Try.func47 rfl ?_
      conv => whnf
      repeat (first | (refine ⟨(by kernel_rfl : chkR _ _ _ _ = true), ?_⟩; conv => whnf) | (refine EvOr.go ?_; conv => whnf))
      refine CallG.use hI c95 [0, 1, 2, 3, 4] [] ?_ ?_ ?_ ?_ ?_ ?_; rfl; rfl; kernel_rfl; rfl; rfl
      conv => whnf
      repeat (first | (refine ⟨(by kernel_rfl : chkR _ _ _ _ = true), ?_⟩; conv => whnf) | (refine EvOr.go ?_; conv => whnf))
      intro c hc
      obtain rfl : c = false := by rw [hc]; rfl
      conv => whnf
      repeat (first | (refine ⟨(by kernel_rfl : chkR _ _ _ _ = true), ?_⟩; conv => whnf) | (refine EvOr.go ?_; conv => whnf))
      refine CallG.use hD c105 [3, 5] [] ?_ ?_ ?_ ?_ ?_ ?_; rfl; rfl; kernel_rfl; rfl; rfl
      conv => whnf
      repeat (first | (refine ⟨(by kernel_rfl : chkR _ _ _ _ = true), ?_⟩; conv => whnf) | (refine EvOr.go ?_; conv => whnf))
      refine CallG.use hP1 c94 [1] [0] ?_ ?_ ?_ ?_ ?_ ?_; rfl; rfl; kernel_rfl; rfl; rfl
      conv => whnf
      repeat (first | (refine ⟨(by kernel_rfl : chkR _ _ _ _ = true), ?_⟩; conv => whnf) | (refine EvOr.go ?_; conv => whnf))
      refine CallG.use hP2 c94 [2] [0] ?_ ?_ ?_ ?_ ?_ ?_; rfl; rfl; kernel_rfl; rfl; rfl
      conv => whnf
      repeat (first | (refine ⟨(by kernel_rfl : chkR _ _ _ _ = true), ?_⟩; conv => whnf) | (refine EvOr.go ?_; conv => whnf))
      exact retQ.oneS [0, 1, 2, 3, 4] rfl (by first | exact .inr rfl | exact .inl rfl) rfl (by kernel_rfl) (by first | rfl | kernel_rfl)
  | inx J =>
    have hD := del_ok Ml J i hb
    cases mk <;>
    · refine FunT.ev tabOk mixed Try.func47 rfl ?_
      conv => whnf
      repeat (first | (refine ⟨(by kernel_rfl : chkR _ _ _ _ = true), ?_⟩; conv => whnf) | (refine EvOr.go ?_; conv => whnf))
      refine CallG.use hI c95 [0, 1, 2, 3, 4] [] ?_ ?_ ?_ ?_ ?_ ?_; rfl; rfl; kernel_rfl; rfl; rfl
      conv => whnf
      repeat (first | (refine ⟨(by kernel_rfl : chkR _ _ _ _ = true), ?_⟩; conv => whnf) | (refine EvOr.go ?_; conv => whnf))
      intro c hc
      obtain rfl : c = false := by rw [hc]; rfl
      conv => whnf
      repeat (first | (refine ⟨(by kernel_rfl : chkR _ _ _ _ = true), ?_⟩; conv => whnf) | (refine EvOr.go ?_; conv => whnf))
      refine CallG.use hD c105 [3, 5] [0] ?_ ?_ ?_ ?_ ?_ ?_; rfl; rfl; kernel_rfl; rfl; rfl
      conv => whnf
      repeat (first | (refine ⟨(by kernel_rfl : chkR _ _ _ _ = true), ?_⟩; conv => whnf) | (refine EvOr.go ?_; conv => whnf))
      refine CallG.use hP1 c94 [1] [0] ?_ ?_ ?_ ?_ ?_ ?_; rfl; rfl; kernel_rfl; rfl; rfl
      conv => whnf
      repeat (first | (refine ⟨(by kernel_rfl : chkR _ _ _ _ = true), ?_⟩; conv => whnf) | (refine EvOr.go ?_; conv => whnf))
      refine CallG.use hP2 c94 [2] [0] ?_ ?_ ?_ ?_ ?_ ?_; rfl; rfl; kernel_rfl; rfl; rfl
      conv => whnf
      repeat (first | (refine ⟨(by kernel_rfl : chkR _ _ _ _ = true), ?_⟩; conv => whnf) | (refine EvOr.go ?_; conv => whnf))
      exact retQ.oneS [0, 1, 2, 3, 4] rfl (by first | exact .inr rfl | exact .inl rfl) rfl (by kernel_rfl) (by first | rfl | kernel_rfl)
theorem set_err (M : Mem) (lg : Lg) (mk : Mk) (i : Int) (s : List Nat) (hn : 0 < M.n) (h0 : mayE M i ≠ 0) :
    FunT Try.prog 47 [mpv, iv i, secV s] (hM M lg mk) (iv (mayE M i)) (hM M lg mk) := by
  have hI := may_ok M lg mk i hn
  generalize mayE M i = me at hI h0
  cases lg <;> cases mk <;>
  · refine FunT.ev tabOk mixed Try.func47 rfl ?_
    conv => whnf
    repeat (first | (refine ⟨(by kernel_rfl : chkR _ _ _ _ = true), ?_⟩; conv => whnf) | (refine EvOr.go ?_; conv => whnf))
    refine CallG.use hI c95 [0, 1, 2, 3, 4] [] ?_ ?_ ?_ ?_ ?_ ?_; rfl; rfl; kernel_rfl; rfl; rfl
    conv => whnf
    repeat (first | (refine ⟨(by kernel_rfl : chkR _ _ _ _ = true), ?_⟩; conv => whnf) | (refine EvOr.go ?_; conv => whnf))
    intro c hc
    obtain rfl : c = true := by rw [hc]; simpa using h0
    conv => whnf
    repeat (first | (refine ⟨(by kernel_rfl : chkR _ _ _ _ = true), ?_⟩; conv => whnf) | (refine EvOr.go ?_; conv => whnf))
    exact retQ.oneS [0, 1, 2, 3, 4] rfl (by first | exact .inr rfl | exact .inl rfl) rfl (by kernel_rfl) (by first | rfl | kernel_rfl)
end Go.Proofs.Ytdmcbfmpnakdfaa.Eng
