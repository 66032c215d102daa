/- Fix: its helpers from the library; what it computes, in plain words. -/
import Derived.Test.YtdmcbfmpnakdfaaQe
namespace Go.Proofs.Ytdmcbfmpnakdfaa.Eng
open Go Go.Proofs Go.Proofs.Ytdmcbfmpnakdfaa.Gf
set_option maxRecDepth 20000
set_option maxHeartbeats 4000000
theorem c72 : Callable Try.prog 72 := ⟨⟨_, Try.func72, by kernel_rfl, by kernel_rfl⟩⟩
theorem c74 : Callable Try.prog 74 := ⟨⟨_, Try.func74, by kernel_rfl, by kernel_rfl⟩⟩
theorem c75 : Callable Try.prog 75 := ⟨⟨_, Try.func75, by kernel_rfl, by kernel_rfl⟩⟩
theorem c78 : Callable Try.prog 78 := ⟨⟨_, Try.func78, by kernel_rfl, by kernel_rfl⟩⟩
theorem c122 : Callable Try.prog 122 := ⟨⟨_, Try.func122, by kernel_rfl, by kernel_rfl⟩⟩
theorem c17 : Callable Try.prog 17 := ⟨⟨_, Try.func17, by kernel_rfl, by kernel_rfl⟩⟩
abbrev boxN (m : Int) : Option ABlk := some (.row .one 3 1 [[.one (.raw (.int .i64 m))]] [])
abbrev rowJ (l : List Int) (J : List Segs) : Option ABlk := some (.row .ro 3 1 (l.map intS ++ J) [])
theorem lt75 (z m : Int) : FunT Try.prog 75 [iv z, .sc (.ptr 0 0 1 0)] [boxN m] (bv (decide (z < m))) [boxN m] := by
  refine FunT.ev tabOk mixed Try.func75 rfl ?_
  conv => whnf
  repeat (first | (refine ⟨(by kernel_rfl : chkR _ _ _ _ = true), ?_⟩; conv => whnf) | (refine EvOr.go ?_; conv => whnf))
  intro c hc
  cases c
  · conv => whnf
    repeat (first | (refine ⟨(by kernel_rfl : chkR _ _ _ _ = true), ?_⟩; conv => whnf) | (refine EvOr.go ?_; conv => whnf))
    refine retQ.one rfl (.inr rfl) ?_ (Nat.le_of_ble_eq_true rfl) rfl
    rw [show decide (z < m) = false from hc.symm]; rfl
  · conv => whnf
    repeat (first | (refine ⟨(by kernel_rfl : chkR _ _ _ _ = true), ?_⟩; conv => whnf) | (refine EvOr.go ?_; conv => whnf))
    refine retQ.one rfl (.inr rfl) ?_ (Nat.le_of_ble_eq_true rfl) rfl
    rw [show decide (z < m) = true from hc.symm]; rfl
def fstL (l : List Int) (m : Int) : Nat := l.findIdx (fun z => decide (z < m))
def idxL (l : List Int) (m : Int) : Int := if fstL l m < l.length then fstL l m else -1
theorem fstL_not {l : List Int} {m : Int} {k : Nat} (hk : k < l.length) (h : k < fstL l m) : decide (l[k] < m) = false := by
  have := List.not_of_lt_findIdx h
  simpa using this
theorem fstL_at {l : List Int} {m : Int} (h : fstL l m < l.length) : decide (l[fstL l m] < m) = true := List.findIdx_getElem (w := h)
theorem int_get {l : List Int} {J : List Segs} {k : Nat} (hk : k < l.length) : (l.map intS ++ J)[0 + (k : Int).toNat]? = some (intS l[k]) := by
  rw [Nat.zero_add, Int.toNat_natCast, List.getElem?_append_left (by simpa using hk), List.getElem?_map, List.getElem?_eq_getElem hk]; rfl
abbrev fn75 : AV := .sc (.fn (.func 75) [] [.ptr 1 0 1 0])
def idxI (l : List Int) (J : List Segs) (m : Int) (k : Nat) : LTm × LHp :=
  ([.sc (.sl 0 0 1 l.length none), fn75, .junk, .junk, .junk, .junk, .junk, iv (l.length : Nat), iv (k : Nat), .junk, .junk, .junk, .junk, .junk, .junk, .junk, .junk, .junk, .junk], [rowJ l J, boxN m])
theorem idxL_ok (l : List Int) (J : List Segs) (m : Int) (hb : l.length < 2 ^ 62) :
    FunT Try.prog 74 [.sc (.sl 0 0 1 l.length none), fn75] [rowJ l J, boxN m] (iv (idxL l m)) [rowJ l J, boxN m] := by
  obtain ⟨I, hI⟩ : ∃ I, I = idxI l J m := ⟨_, rfl⟩
  have hle : fstL l m ≤ l.length := List.findIdx_le_length
  refine FunT.ev tabOk mixed Try.func74 rfl ?_
  conv => whnf
  repeat (first | (refine ⟨(by kernel_rfl : chkR _ _ _ _ = true), ?_⟩; conv => whnf) | (refine EvOr.go ?_; conv => whnf))
  refine CodeT.loopN tabOk mixed I (fstL l m) _ (StW.ofP [0, 1] ?_ ?_ ?_) (fun k => by subst hI; rfl) ?_
  · subst hI; kernel_rfl
  · subst hI; rfl
  · subst hI; rfl
  intro k hkl
  subst hI
  conv => whnf
  repeat (first | (refine ⟨(by kernel_rfl : chkR _ _ _ _ = true), ?_⟩; conv => whnf) | (refine EvOr.go ?_; conv => whnf))
  intro c hc
  by_cases hk : k < l.length
  · obtain rfl : c = true := by rw [hc]; exact decide_eq_true (by omega)
    have hK := lt75 l[k] m
    conv => whnf
    repeat (first | (refine ⟨(by kernel_rfl : chkR _ _ _ _ = true), ?_⟩; conv => whnf) | (refine EvOr.go ?_; conv => whnf))
    refine ⟨⟨by omega, by omega⟩, ?_⟩
    conv => whnf
    repeat (first | (refine ⟨(by kernel_rfl : chkR _ _ _ _ = true), ?_⟩; conv => whnf) | (refine EvOr.go ?_; conv => whnf))
    refine ⟨_, int_get hk, ?_⟩
    conv => whnf
    repeat (first | (refine ⟨(by kernel_rfl : chkR _ _ _ _ = true), ?_⟩; conv => whnf) | (refine EvOr.go ?_; conv => whnf))
    rcases Nat.lt_or_eq_of_le hkl with h | h
    · rw [fstL_not hk h] at hK
      refine CallG.use hK c75 [1] [] ?_ ?_ ?_ ?_ ?_ ?_; rfl; rfl; kernel_rfl; rfl; rfl
      conv => whnf
      repeat (first | (refine ⟨(by kernel_rfl : chkR _ _ _ _ = true), ?_⟩; conv => whnf) | (refine EvOr.go ?_; conv => whnf))
      refine ⟨_, inc_nat (by omega), ?_⟩
      conv => whnf
      repeat (first | (refine ⟨(by kernel_rfl : chkR _ _ _ _ = true), ?_⟩; conv => whnf) | (refine EvOr.go ?_; conv => whnf))
      refine ⟨by first | exact hk | omega, _, StW.ofP [0, 1] ?_ ?_ ?_⟩
      · kernel_rfl
      · rfl
      · rfl
    · have hm := fstL_at (l := l) (m := m) (h ▸ hk)
      have hm' : decide (l[k] < m) = true := by
        have : ∀ (j : Nat) (hj : j < l.length), k = j → decide (l[j] < m) = true → decide (l[k] < m) = true := fun j hj e h => by subst e; exact h
        exact this _ _ h hm
      rw [hm'] at hK
      refine CallG.use hK c75 [1] [] ?_ ?_ ?_ ?_ ?_ ?_; rfl; rfl; kernel_rfl; rfl; rfl
      conv => whnf
      repeat (first | (refine ⟨(by kernel_rfl : chkR _ _ _ _ = true), ?_⟩; conv => whnf) | (refine EvOr.go ?_; conv => whnf))
      refine retQ.one rfl (.inr rfl) ?_ (Nat.le_of_ble_eq_true rfl) rfl
      have : idxL l m = (k : Nat) := by unfold idxL; rw [if_pos (by omega), h]
      rw [this]; rfl
  · obtain rfl : c = false := by rw [hc]; exact decide_eq_false (by omega)
    conv => whnf
    repeat (first | (refine ⟨(by kernel_rfl : chkR _ _ _ _ = true), ?_⟩; conv => whnf) | (refine EvOr.go ?_; conv => whnf))
    refine retQ.one rfl (.inr rfl) ?_ (Nat.le_of_ble_eq_true rfl) rfl
    have : idxL l m = -1 := by unfold idxL; rw [if_neg (by omega)]
    rw [this]; rfl
theorem idxL_none (v : AV) (hv : v = .sc nilS ∨ v = .sc (.sl 0 0 1 0 (some 0))) (m : Int) : FunT Try.prog 74 [v, fn75] [none, boxN m] (iv (-1)) [none, boxN m] := by
  rcases hv with rfl | rfl <;>
  · refine FunT.ev tabOk mixed Try.func74 rfl ?_
    conv => whnf
    repeat (first | (refine ⟨(by kernel_rfl : chkR _ _ _ _ = true), ?_⟩; conv => whnf) | (refine EvOr.go ?_; conv => whnf))
    refine CodeS.loop0 tabOk mixed (Nat.le_of_ble_eq_true rfl) ?_
    conv => whnf
    repeat (first | (refine ⟨(by kernel_rfl : chkR _ _ _ _ = true), ?_⟩; conv => whnf) | (refine EvOr.go ?_; conv => whnf))
    intro c hc
    obtain rfl : c = false := by rw [hc]; rfl
    conv => whnf
    repeat (first | (refine ⟨(by kernel_rfl : chkR _ _ _ _ = true), ?_⟩; conv => whnf) | (refine EvOr.go ?_; conv => whnf))
    exact retQ.one rfl (.inr rfl) rfl (Nat.le_of_ble_eq_true rfl) rfl
def conI (l : List Int) (J : List Segs) (m : Int) (k : Nat) : LTm × LHp :=
  ([.sc (.sl 0 0 1 l.length none), iv m, .junk, .junk, .junk, .junk, .junk, iv (l.length : Nat), iv (k : Nat), .junk, .junk, .junk, .junk, .junk, .junk, .junk, .junk, .junk, .junk], [rowJ l J])
def fstE (l : List Int) (m : Int) : Nat := l.findIdx (fun z => m == z)
theorem index_ok (l : List Int) (J : List Segs) (m : Int) (hb : l.length < 2 ^ 62) :
    FunT Try.prog 122 [.sc (.sl 0 0 1 l.length none), iv m] [rowJ l J] (iv (if fstE l m < l.length then (fstE l m : Nat) else -1)) [rowJ l J] := by
  obtain ⟨I, hI⟩ : ∃ I, I = conI l J m := ⟨_, rfl⟩
  have hle : fstE l m ≤ l.length := List.findIdx_le_length
  refine FunT.ev tabOk mixed Try.func122 rfl ?_
  conv => whnf
  repeat (first | (refine ⟨(by kernel_rfl : chkR _ _ _ _ = true), ?_⟩; conv => whnf) | (refine EvOr.go ?_; conv => whnf))
  refine CodeT.loopN tabOk mixed I (fstE l m) _ (StW.ofP [0] ?_ ?_ ?_) (fun k => by subst hI; rfl) ?_
  · subst hI; kernel_rfl
  · subst hI; rfl
  · subst hI; rfl
  intro k hkl
  subst hI
  conv => whnf
  repeat (first | (refine ⟨(by kernel_rfl : chkR _ _ _ _ = true), ?_⟩; conv => whnf) | (refine EvOr.go ?_; conv => whnf))
  intro c hc
  by_cases hk : k < l.length
  · obtain rfl : c = true := by rw [hc]; exact decide_eq_true (by omega)
    conv => whnf
    repeat (first | (refine ⟨(by kernel_rfl : chkR _ _ _ _ = true), ?_⟩; conv => whnf) | (refine EvOr.go ?_; conv => whnf))
    refine ⟨⟨by omega, by omega⟩, ?_⟩
    conv => whnf
    repeat (first | (refine ⟨(by kernel_rfl : chkR _ _ _ _ = true), ?_⟩; conv => whnf) | (refine EvOr.go ?_; conv => whnf))
    refine ⟨_, int_get hk, ?_⟩
    conv => whnf
    repeat (first | (refine ⟨(by kernel_rfl : chkR _ _ _ _ = true), ?_⟩; conv => whnf) | (refine EvOr.go ?_; conv => whnf))
    intro c hc
    rcases Nat.lt_or_eq_of_le hkl with h | h
    · have := List.not_of_lt_findIdx h
      obtain rfl : c = false := by rw [hc]; simpa using this
      conv => whnf
      repeat (first | (refine ⟨(by kernel_rfl : chkR _ _ _ _ = true), ?_⟩; conv => whnf) | (refine EvOr.go ?_; conv => whnf))
      refine ⟨_, inc_nat (by omega), ?_⟩
      conv => whnf
      repeat (first | (refine ⟨(by kernel_rfl : chkR _ _ _ _ = true), ?_⟩; conv => whnf) | (refine EvOr.go ?_; conv => whnf))
      refine ⟨by first | exact hk | omega, _, StW.ofP [0] ?_ ?_ ?_⟩
      · kernel_rfl
      · rfl
      · rfl
    · have hm' : (m == l[k]) = true := by
        have : ∀ (j : Nat) (hj : j < l.length), k = j → (m == l[j]) = true → (m == l[k]) = true := fun j hj e h => by subst e; exact h
        exact this _ (h ▸ hk) h (List.findIdx_getElem (w := show fstE l m < l.length from h ▸ hk))
      obtain rfl : c = true := by rw [hc]; exact hm'
      conv => whnf
      repeat (first | (refine ⟨(by kernel_rfl : chkR _ _ _ _ = true), ?_⟩; conv => whnf) | (refine EvOr.go ?_; conv => whnf))
      refine retQ.one rfl (.inr rfl) ?_ (Nat.le_of_ble_eq_true rfl) rfl
      rw [if_pos (by omega), ← h]; rfl
  · obtain rfl : c = false := by rw [hc]; exact decide_eq_false (by omega)
    conv => whnf
    repeat (first | (refine ⟨(by kernel_rfl : chkR _ _ _ _ = true), ?_⟩; conv => whnf) | (refine EvOr.go ?_; conv => whnf))
    refine retQ.one rfl (.inr rfl) ?_ (Nat.le_of_ble_eq_true rfl) rfl
    rw [if_neg (by omega)]; rfl
theorem contains_ok (l : List Int) (J : List Segs) (m : Int) (hb : l.length < 2 ^ 62) :
    FunT Try.prog 78 [.sc (.sl 0 0 1 l.length none), iv m] [rowJ l J] (bv (l.contains m)) [rowJ l J] := by
  have g := index_ok l J m hb
  have he : l.contains m = decide (fstE l m < l.length) := by
    have h1 : fstE l m < l.length ↔ ∃ x ∈ l, (m == x) = true := List.findIdx_lt_length
    by_cases h : fstE l m < l.length
    · obtain ⟨x, hx, e⟩ := h1.1 h
      rw [decide_eq_true h, beq_iff_eq.1 e]
      exact List.contains_iff_mem.2 hx
    · rw [decide_eq_false h]
      cases hc : l.contains m
      · rfl
      · exact absurd (h1.2 ⟨m, List.contains_iff_mem.1 hc, by simp⟩) h
  rw [he]
  by_cases h : fstE l m < l.length
  · rw [if_pos h] at g
    rw [decide_eq_true h]
    refine FunT.ev tabOk mixed Try.func78 rfl ?_
    conv => whnf
    repeat (first | (refine ⟨(by kernel_rfl : chkR _ _ _ _ = true), ?_⟩; conv => whnf) | (refine EvOr.go ?_; conv => whnf))
    refine CallG.use g c122 [0] [] ?_ ?_ ?_ ?_ ?_ ?_; rfl; rfl; kernel_rfl; rfl; rfl
    conv => whnf
    repeat (first | (refine ⟨(by kernel_rfl : chkR _ _ _ _ = true), ?_⟩; conv => whnf) | (refine EvOr.go ?_; conv => whnf))
    intro c hc
    obtain rfl : c = true := by rw [hc]; simp
    conv => whnf
    repeat (first | (refine ⟨(by kernel_rfl : chkR _ _ _ _ = true), ?_⟩; conv => whnf) | (refine EvOr.go ?_; conv => whnf))
    exact retQ.one rfl (.inr rfl) rfl (Nat.le_of_ble_eq_true rfl) rfl
  · rw [if_neg h] at g
    rw [decide_eq_false h]
    refine FunT.ev tabOk mixed Try.func78 rfl ?_
    conv => whnf
    repeat (first | (refine ⟨(by kernel_rfl : chkR _ _ _ _ = true), ?_⟩; conv => whnf) | (refine EvOr.go ?_; conv => whnf))
    refine CallG.use g c122 [0] [] ?_ ?_ ?_ ?_ ?_ ?_; rfl; rfl; kernel_rfl; rfl; rfl
    conv => whnf
    repeat (first | (refine ⟨(by kernel_rfl : chkR _ _ _ _ = true), ?_⟩; conv => whnf) | (refine EvOr.go ?_; conv => whnf))
    intro c hc
    obtain rfl : c = false := by rw [hc]; rfl
    conv => whnf
    repeat (first | (refine ⟨(by kernel_rfl : chkR _ _ _ _ = true), ?_⟩; conv => whnf) | (refine EvOr.go ?_; conv => whnf))
    exact retQ.one rfl (.inr rfl) rfl (Nat.le_of_ble_eq_true rfl) rfl
abbrev rowX (L : List (List Nat)) : Option ABlk := some (.row .inx 34 64 (L.map secS) [])
theorem cloneS_ok (L : List (List Nat)) (co : Option Nat) (h0 : 0 < L.length) (hb : L.length < 2 ^ 32) : FunT Try.prog 72 [.sc (.sl 0 0 64 L.length co)] [rowS L] (.sc (.sl 1 0 64 L.length none)) [rowS L, rowX L] := by
  have e1 : L.map secS = List.take L.length (List.drop 0 (L.map secS)) := by
    rw [List.drop_zero, List.take_of_length_le (by simp)]
  have key : FunT Try.prog 72 [.sc (.sl 0 0 64 L.length co)] [rowS L] (.sc (.sl 1 0 64 (0 + L.length) none)) [rowS L, some (.row .inx 34 64 (List.take L.length (List.drop 0 (L.map secS))) [])] := by
    cases co <;>
    · refine FunT.ev tabOk mixed Try.func72 rfl ?_
      conv => whnf
      repeat (first | (refine ⟨(by kernel_rfl : chkR _ _ _ _ = true), ?_⟩; conv => whnf) | (refine EvOr.go ?_; conv => whnf))
      refine ⟨by show 0 + L.length ≤ (L.map secS).length; simp, ?_⟩
      conv => whnf
      repeat (first | (refine ⟨(by kernel_rfl : chkR _ _ _ _ = true), ?_⟩; conv => whnf) | (refine EvOr.go ?_; conv => whnf))
      refine ⟨Nat.le_refl _, ?_⟩
      conv => whnf
      repeat (first | (refine ⟨(by kernel_rfl : chkR _ _ _ _ = true), ?_⟩; conv => whnf) | (refine EvOr.go ?_; conv => whnf))
      refine ⟨fun h => absurd h (by show ¬ L.length = 0; omega), fun _ => ⟨⟨by show 0 < 0 + L.length; omega, by show (2 * (0 + L.length) + 192) * 64 ≤ _; omega⟩, ?_⟩⟩
      conv => whnf
      repeat (first | (refine ⟨(by kernel_rfl : chkR _ _ _ _ = true), ?_⟩; conv => whnf) | (refine EvOr.go ?_; conv => whnf))
      exact retQ.oneS [0, 2] rfl (by first | exact .inr rfl | exact .inl rfl) rfl (by kernel_rfl) (by first | rfl | kernel_rfl)
  rw [Nat.zero_add, ← e1] at key
  exact key
-- what Fix computes
theorem set_secs {S : List (List Nat)} {i : Nat} {d : List Nat} (hS : Secs S) (hd : Sec d) : Secs (S.set i d) := fun l hl => by
  rcases List.mem_or_eq_of_mem_set hl with h | h
  · exact hS l h
  · rw [h]; exact hd
def zeroed (L : List (List Nat)) (ks : List Nat) : List (List Nat) := ks.foldl (fun R i => R.set i zeros) L
def fixMid (Z : List (List Nat)) (m : Nat) (ks : List Nat) : List (List Nat) :=
  match ks with
  | [i] => if i < m then Z.set i (xorL (Z.getD m []) (psum Z m)) else Z
  | [i, j] => if j < m then (Z.set i (twoA (xorL (Z.getD m []) (psum Z m)) (xorL (Z.getD (m + 1) []) (qsum Z m)) (pwZ (i : Int)) (pwZ (j : Int)))).set j (twoB (xorL (Z.getD m []) (psum Z m)) (xorL (Z.getD (m + 1) []) (qsum Z m)) (pwZ (i : Int)) (pwZ (j : Int)))
    else if i < m then if j = m then Z.set i (mulL (xorL (Z.getD (m + 1) []) (qsum Z m)) (pwZ (-(i : Int)))) else Z.set i (xorL (Z.getD m []) (psum Z m)) else Z
  | _ => Z
def endOne (m : Nat) (P Q : List Nat) (S : List (List Nat)) (i : Nat) : List (List Nat) := if i = m then S.set i P else if i = m + 1 then S.set i Q else S
def fixEnd (R : List (List Nat)) (m : Nat) (ks : List Nat) : List (List Nat) := ks.foldl (endOne m (psum R m) (qsum R m)) R
def fixR (L : List (List Nat)) (m : Nat) (ks : List Nat) : List (List Nat) := fixEnd (fixMid (zeroed L ks) m ks) m ks
theorem foldl_len {f : List (List Nat) → Nat → List (List Nat)} (hf : ∀ S i, (f S i).length = S.length) : ∀ (ks : List Nat) (S : List (List Nat)), (ks.foldl f S).length = S.length
  | [], S => rfl
  | i :: ks, S => by rw [List.foldl_cons, foldl_len hf ks, hf]
theorem foldl_secs {f : List (List Nat) → Nat → List (List Nat)} (hf : ∀ S i, Secs S → Secs (f S i)) : ∀ (ks : List Nat) (S : List (List Nat)), Secs S → Secs (ks.foldl f S)
  | [], _, h => h
  | i :: ks, S, h => foldl_secs hf ks (f S i) (hf S i h)
theorem zeroed_length {L : List (List Nat)} {ks : List Nat} : (zeroed L ks).length = L.length := foldl_len (fun _ _ => by simp) ks L
theorem zeroed_secs {L : List (List Nat)} {ks : List Nat} (h : Secs L) : Secs (zeroed L ks) := foldl_secs (fun _ _ hS => set_secs hS zeros_sec) ks L h
theorem endOne_length {m : Nat} {P Q : List Nat} {S : List (List Nat)} {i : Nat} : (endOne m P Q S i).length = S.length := by
  unfold endOne; split
  · simp
  · split
    · simp
    · rfl
theorem endOne_secs {m : Nat} {P Q : List Nat} (hP : Sec P) (hQ : Sec Q) {S : List (List Nat)} {i : Nat} (h : Secs S) : Secs (endOne m P Q S i) := by
  unfold endOne; split
  · exact set_secs h hP
  · split
    · exact set_secs h hQ
    · exact h
theorem take_succ_foldl {f : List (List Nat) → Nat → List (List Nat)} {ks : List Nat} {S : List (List Nat)} {a : Nat} (h : a < ks.length) : (ks.take (a + 1)).foldl f S = f ((ks.take a).foldl f S) ks[a] := by
  rw [List.take_add_one, List.foldl_append, List.getElem?_eq_getElem h]
  rfl
end Go.Proofs.Ytdmcbfmpnakdfaa.Eng
