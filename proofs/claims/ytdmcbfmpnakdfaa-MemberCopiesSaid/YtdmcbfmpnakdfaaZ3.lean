/- The document's member: set . -/
import Derived.Test.YtdmcbfmpnakdfaaZ2
import Derived.Test.YtdmcbfmpnakdfaaZ1
namespace Go.Proofs.Ytdmcbfmpnakdfaa.Eng.Rm
open Go Go.Proofs
set_option maxRecDepth 20000
set_option maxHeartbeats 8000000
theorem rset_err (n : Int) (d l : Sl) (mk : Mk) (f h : Bool) (R : List (Nat × Obj)) (i : Int) (s : List Nat) (h0 : mayB n i = false) :
    FunT Try.prog 99 [rpt, iv i, secV s] (HR n d l mk f h R ++ [some (famB R)]) (iv 2) (HR n d l mk f h R ++ [some (famB R)]) := by
  have g0 := may_ok n d l mk f h i
  rw [h0] at g0
  cases mk <;>
  · refine FunT.ev tabOk mixed Try.func99 rfl ?_
    conv => whnf
    repeat (first | (refine ⟨(by kernel_rfl : chkR _ _ _ _ = true), ?_⟩; conv => whnf) | (refine EvOr.go ?_; conv => whnf))
    refine CallG.use g0 c126 [0, 1, 2, 3] [] ?_ ?_ ?_ ?_ ?_ ?_; rfl; rfl; kernel_rfl; rfl; rfl
    conv => whnf
    repeat (first | (refine ⟨(by kernel_rfl : chkR _ _ _ _ = true), ?_⟩; conv => whnf) | (refine EvOr.go ?_; conv => whnf))
    exact retQ.one rfl (.inr rfl) rfl (Nat.le_of_ble_eq_true rfl) rfl
/-- Nothing was written. -/
theorem rset_nil (n : Int) (d : Sl) (mk : Mk) (f h : Bool) (R : List (Nat × Obj)) (D : Img) (i : Int) (s : List Nat) (h0 : mayB n i = true) (hd : RawAt R D d.v) (hb : D.length < 2 ^ 30) :
    FunT Try.prog 99 [rpt, iv i, secV s] (HR n d ⟨none, 0, 0⟩ mk f h R ++ [some (famB R)]) (iv 0) [refS n (.sl 6 0 65 (D.length + 1) none) nilS (mk.sv 3) f true, some (famB R), some (famB R), none, some (famB R), none, rowN (D ++ [(i, s)])] := by
  have g0 := may_ok n d ⟨none, 0, 0⟩ mk f h i
  have g1 := join_one (i, s) hd hb
  rw [h0] at g0
  cases mk <;>
  · refine FunT.ev tabOk mixed Try.func99 rfl ?_
    conv => whnf
    repeat (first | (refine ⟨(by kernel_rfl : chkR _ _ _ _ = true), ?_⟩; conv => whnf) | (refine EvOr.go ?_; conv => whnf))
    refine CallG.use g0 c126 [0, 1, 2, 3] [] ?_ ?_ ?_ ?_ ?_ ?_; rfl; rfl; kernel_rfl; rfl; rfl
    conv => whnf
    repeat (first | (refine ⟨(by kernel_rfl : chkR _ _ _ _ = true), ?_⟩; conv => whnf) | (refine EvOr.go ?_; conv => whnf))
    refine CodeS.loop0 tabOk mixed (Nat.le_of_ble_eq_true rfl) ?_
    conv => whnf
    repeat (first | (refine ⟨(by kernel_rfl : chkR _ _ _ _ = true), ?_⟩; conv => whnf) | (refine EvOr.go ?_; conv => whnf))
    intro c hc
    obtain rfl : c = false := by rw [hc]; rfl
    conv => whnf
    repeat (first | (refine ⟨(by kernel_rfl : chkR _ _ _ _ = true), ?_⟩; conv => whnf) | (refine EvOr.go ?_; conv => whnf))
    refine CallG.use g1 c127 [1, 6] [] ?_ ?_ ?_ ?_ ?_ ?_; rfl; rfl; kernel_rfl; rfl; rfl
    conv => whnf
    repeat (first | (refine ⟨(by kernel_rfl : chkR _ _ _ _ = true), ?_⟩; conv => whnf) | (refine EvOr.go ?_; conv => whnf))
    exact retQ.oneS [0, 1, 2, 3, 4, 5, 7] rfl (by first | exact .inr rfl | exact .inl rfl) rfl (by kernel_rfl) (by first | rfl | kernel_rfl)
abbrev logH (n : Int) (d : Sl) (mk : Mk) (f h : Bool) (R : List (Nat × Obj)) (L : Img) : LHp := [refS n (.raw d.v) (.sl 4 0 65 L.length none) (mk.sv 3) f h, some (famB R), some (famB R), none, rowE L]
theorem may_log (n : Int) (d : Sl) (mk : Mk) (f h : Bool) (L : Img) (i : Int) : FunT Try.prog 126 [rpt, iv i] [refS n (.raw d.v) (.sl 4 0 65 L.length none) (mk.sv 3) f h, none, none, none, none] (bv (mayB n i)) [refS n (.raw d.v) (.sl 4 0 65 L.length none) (mk.sv 3) f h, none, none, none, none] := by
  unfold mayB
  cases mk <;>
  · by_cases h1 : 0 ≤ i
    · by_cases h2 : i < n
      · rw [show decide (0 ≤ i ∧ i < n) = true from decide_eq_true ⟨h1, h2⟩]
        refine FunT.ev tabOk mixed Try.func126 rfl ?_
        conv => whnf
        repeat (first | (refine ⟨(by kernel_rfl : chkR _ _ _ _ = true), ?_⟩; conv => whnf) | (refine EvOr.go ?_; conv => whnf))
        intro c hc
        obtain rfl : c = true := by rw [hc]; exact decide_eq_true (by omega)
        conv => whnf
        repeat (first | (refine ⟨(by kernel_rfl : chkR _ _ _ _ = true), ?_⟩; conv => whnf) | (refine EvOr.go ?_; conv => whnf))
        intro c hc
        obtain rfl : c = true := by rw [hc]; exact decide_eq_true (by omega)
        conv => whnf
        repeat (first | (refine ⟨(by kernel_rfl : chkR _ _ _ _ = true), ?_⟩; conv => whnf) | (refine EvOr.go ?_; conv => whnf))
        exact retQ.one rfl (.inr rfl) rfl (Nat.le_of_ble_eq_true rfl) rfl
      · rw [show decide (0 ≤ i ∧ i < n) = false from decide_eq_false (by omega)]
        refine FunT.ev tabOk mixed Try.func126 rfl ?_
        conv => whnf
        repeat (first | (refine ⟨(by kernel_rfl : chkR _ _ _ _ = true), ?_⟩; conv => whnf) | (refine EvOr.go ?_; conv => whnf))
        intro c hc
        obtain rfl : c = true := by rw [hc]; exact decide_eq_true (by omega)
        conv => whnf
        repeat (first | (refine ⟨(by kernel_rfl : chkR _ _ _ _ = true), ?_⟩; conv => whnf) | (refine EvOr.go ?_; conv => whnf))
        intro c hc
        obtain rfl : c = false := by rw [hc]; exact decide_eq_false (by omega)
        conv => whnf
        repeat (first | (refine ⟨(by kernel_rfl : chkR _ _ _ _ = true), ?_⟩; conv => whnf) | (refine EvOr.go ?_; conv => whnf))
        exact retQ.one rfl (.inr rfl) rfl (Nat.le_of_ble_eq_true rfl) rfl
    · rw [show decide (0 ≤ i ∧ i < n) = false from decide_eq_false (by omega)]
      refine FunT.ev tabOk mixed Try.func126 rfl ?_
      conv => whnf
      repeat (first | (refine ⟨(by kernel_rfl : chkR _ _ _ _ = true), ?_⟩; conv => whnf) | (refine EvOr.go ?_; conv => whnf))
      intro c hc
      obtain rfl : c = false := by rw [hc]; exact decide_eq_false (by omega)
      conv => whnf
      repeat (first | (refine ⟨(by kernel_rfl : chkR _ _ _ _ = true), ?_⟩; conv => whnf) | (refine EvOr.go ?_; conv => whnf))
      exact retQ.one rfl (.inr rfl) rfl (Nat.le_of_ble_eq_true rfl) rfl
theorem jrow_ne {A : Img} (id : Nat) (h : A ≠ []) : jS A id = .sl id 0 65 A.length none ∧ jB A = rowN A := j_row id (List.length_pos_iff.2 h)
theorem delW_t {L : Img} {i : Int} {k : Nat} (hk : k < L.length) (h : (L[k].1 == i) = false) : delW i (L.take (k + 1)) = delW i (L.take k) ++ [L[k]] := by
  unfold delW
  rw [List.take_succ_eq_append_getElem hk, List.filter_append]
  simp [h]
theorem delW_f {L : Img} {i : Int} {k : Nat} (hk : k < L.length) (h : (L[k].1 == i) = true) : delW i (L.take (k + 1)) = delW i (L.take k) := by
  unfold delW
  rw [List.take_succ_eq_append_getElem hk, List.filter_append]
  simp [h]
theorem enc_app (O : Img) (p : Int × List Nat) : (O ++ [p]).map encW = List.take O.length (List.drop 0 (O.map encW)) ++ [encW p] := by
  rw [enc_take, List.map_append]; rfl
def setT (i : Int) (s : List Nat) (O : Img) (k : Nat) : LTm := [rpt, iv i, .junk, .junk, .junk, .sc (.ptr 5 0 64 0), .junk, .sc (jS O 6), iv (k : Nat), .junk, .junk, .junk, .junk, .junk, .junk, .junk, .junk, .junk, .junk, .junk, .junk, .junk, .junk, .junk, .junk, .junk, .junk, .junk, .junk, .junk, .junk, .junk, .junk, .junk, .junk, .junk, .junk, .junk, .junk, .junk, .junk, .junk, .junk, .junk, .junk, .junk, .junk, .junk, .junk, .junk, .junk, .junk, .junk, .junk, .junk, .junk, .junk, .junk, .junk, .junk, .junk]
def setH (n : Int) (d : Sl) (mk : Mk) (f h : Bool) (R : List (Nat × Obj)) (L : Img) (s : List Nat) (O : Img) : LHp := [refS n (.raw d.v) (.sl 4 0 65 L.length none) (mk.sv 3) f h, some (famB R), some (famB R), none, rowE L, some (.row .one 34 64 [[.byt 64 s]] []), jB O]
def setI (n : Int) (d : Sl) (mk : Mk) (f h : Bool) (R : List (Nat × Obj)) (L : Img) (i : Int) (s : List Nat) (k : Nat) : LTm × LHp :=
  (setT i s (delW i (L.take k)) k, setH n d mk f h R L s (delW i (L.take k)))
theorem rset_log (n : Int) (d : Sl) (mk : Mk) (f h : Bool) (R : List (Nat × Obj)) (D L : Img) (i : Int) (s : List Nat) (h0 : mayB n i = true) (hd : RawAt R D d.v) (hb : D.length < 2 ^ 30) (hb2 : L.length < 2 ^ 30) :
    FunT Try.prog 99 [rpt, iv i, secV s] (logH n d mk f h R L) (iv 0) [refS n (.sl 6 0 65 (D.length + 1) none) (jS (delW i L) 5) (mk.sv 3) f true, some (famB R), some (famB R), none, rowE L, jB (delW i L), rowN (D ++ [(i, s)])] := by
  have g0 := may_log n d mk f h L i
  have g1 := join_one (i, s) hd hb
  rw [h0] at g0
  obtain ⟨I, hI⟩ : ∃ I, I = setI n d mk f h R L i s := ⟨_, rfl⟩
  cases mk <;>
  · refine FunT.ev tabOk mixed Try.func99 rfl ?_
    conv => whnf
    repeat (first | (refine ⟨(by kernel_rfl : chkR _ _ _ _ = true), ?_⟩; conv => whnf) | (refine EvOr.go ?_; conv => whnf))
    refine CallG.use g0 c126 [0, 1, 2, 3, 4] [] ?_ ?_ ?_ ?_ ?_ ?_; rfl; rfl; kernel_rfl; rfl; rfl
    conv => whnf
    repeat (first | (refine ⟨(by kernel_rfl : chkR _ _ _ _ = true), ?_⟩; conv => whnf) | (refine EvOr.go ?_; conv => whnf))
    refine CodeT.loopN tabOk mixed I L.length _ (StW.ofP [0, 1, 2, 3, 4, 5] ?_ ?_ ?_) (fun k => by subst hI; rfl) ?_
    · subst hI; kernel_rfl
    · subst hI; rfl
    · subst hI; rfl
    intro k hkl
    subst hI
    have hlen : (delW i (L.take k)).length ≤ k := Nat.le_trans (List.length_filter_le _ _) (by rw [List.length_take]; omega)
    by_cases hk : k < L.length
    · have hg : (L.map encW)[0 + (k : Int).toNat]? = some (encW L[k]) := by simp [hk]
      cases hq : (L[k].1 == i) with
      | false =>
        have hs := delW_t hk hq
        by_cases hO : delW i (L.take k) = []
        · rw [hO] at hs
          show evC Try.prog tab _ _ (setT i s (delW i (L.take k)) k) (setH n d _ f h R L s (delW i (L.take k))) _
          rw [hO]
          generalize L[k] = p at *
          conv => whnf
          repeat (first | (refine ⟨(by kernel_rfl : chkR _ _ _ _ = true), ?_⟩; conv => whnf) | (refine EvOr.go ?_; conv => whnf))
          intro c hc
          obtain rfl : c = true := by rw [hc]; exact decide_eq_true (by omega)
          conv => whnf
          repeat (first | (refine ⟨(by kernel_rfl : chkR _ _ _ _ = true), ?_⟩; conv => whnf) | (refine EvOr.go ?_; conv => whnf))
          refine ⟨⟨by omega, by omega⟩, ?_⟩
          conv => whnf
          repeat (first | (refine ⟨(by kernel_rfl : chkR _ _ _ _ = true), ?_⟩; conv => whnf) | (refine EvOr.go ?_; conv => whnf))
          refine ⟨_, hg, ?_⟩
          conv => whnf
          repeat (first | (refine ⟨(by kernel_rfl : chkR _ _ _ _ = true), ?_⟩; conv => whnf) | (refine EvOr.go ?_; conv => whnf))
          intro c hc
          obtain rfl : c = true := by rw [hc, bne, hq]; rfl
          conv => whnf
          repeat (first | (refine ⟨(by kernel_rfl : chkR _ _ _ _ = true), ?_⟩; conv => whnf) | (refine EvOr.go ?_; conv => whnf))
          refine ⟨⟨by omega, by omega⟩, ?_⟩
          conv => whnf
          repeat (first | (refine ⟨(by kernel_rfl : chkR _ _ _ _ = true), ?_⟩; conv => whnf) | (refine EvOr.go ?_; conv => whnf))
          refine ⟨_, hg, ?_⟩
          conv => whnf
          repeat (first | (refine ⟨(by kernel_rfl : chkR _ _ _ _ = true), ?_⟩; conv => whnf) | (refine EvOr.go ?_; conv => whnf))
          refine ⟨by simp, ?_⟩
          conv => whnf
          repeat (first | (refine ⟨(by kernel_rfl : chkR _ _ _ _ = true), ?_⟩; conv => whnf) | (refine EvOr.go ?_; conv => whnf))
          refine ⟨fun h => absurd h (by decide), fun _ => ⟨by decide, ?_⟩⟩
          conv => whnf
          repeat (first | (refine ⟨(by kernel_rfl : chkR _ _ _ _ = true), ?_⟩; conv => whnf) | (refine EvOr.go ?_; conv => whnf))
          refine ⟨_, inc_nat (by omega), ?_⟩
          conv => whnf
          repeat (first | (refine ⟨(by kernel_rfl : chkR _ _ _ _ = true), ?_⟩; conv => whnf) | (refine EvOr.go ?_; conv => whnf))
          refine ⟨by omega, _, StW.ofP [0, 1, 2, 3, 4, 5, 8] ?_ ?_ ?_⟩
          · show stP _ _ (setI n d _ f h R L i s (k + 1)).2 = true
            simp only [setI, setH, hs]; kernel_rfl
          · show maskT _ (setI n d _ f h R L i s (k + 1)).1 = renT _ (setI n d _ f h R L i s (k + 1)).1
            simp only [setI, setT, hs]; rfl
          · show pickH _ _ 0 (setI n d _ f h R L i s (k + 1)).2 = renH _ (setI n d _ f h R L i s (k + 1)).2
            simp only [setI, setH, hs]; rfl
        · obtain ⟨q1, q2⟩ := jrow_ne 6 hO
          obtain ⟨q3, q4⟩ := jrow_ne 6 (A := delW i (L.take k) ++ [L[k]]) (by simp)
          rw [List.length_append, show [L[k]].length = 1 from rfl] at q3
          have em := enc_app (delW i (L.take k)) L[k]
          show evC Try.prog tab _ _ (setT i s (delW i (L.take k)) k) (setH n d _ f h R L s (delW i (L.take k))) _
          unfold setT setH
          rw [q1, q2]
          generalize delW i (L.take k) = O at *
          generalize L[k] = p at *
          conv => whnf
          repeat (first | (refine ⟨(by kernel_rfl : chkR _ _ _ _ = true), ?_⟩; conv => whnf) | (refine EvOr.go ?_; conv => whnf))
          intro c hc
          obtain rfl : c = true := by rw [hc]; exact decide_eq_true (by omega)
          conv => whnf
          repeat (first | (refine ⟨(by kernel_rfl : chkR _ _ _ _ = true), ?_⟩; conv => whnf) | (refine EvOr.go ?_; conv => whnf))
          refine ⟨⟨by omega, by omega⟩, ?_⟩
          conv => whnf
          repeat (first | (refine ⟨(by kernel_rfl : chkR _ _ _ _ = true), ?_⟩; conv => whnf) | (refine EvOr.go ?_; conv => whnf))
          refine ⟨_, hg, ?_⟩
          conv => whnf
          repeat (first | (refine ⟨(by kernel_rfl : chkR _ _ _ _ = true), ?_⟩; conv => whnf) | (refine EvOr.go ?_; conv => whnf))
          intro c hc
          obtain rfl : c = true := by rw [hc, bne, hq]; rfl
          conv => whnf
          repeat (first | (refine ⟨(by kernel_rfl : chkR _ _ _ _ = true), ?_⟩; conv => whnf) | (refine EvOr.go ?_; conv => whnf))
          refine ⟨⟨by omega, by omega⟩, ?_⟩
          conv => whnf
          repeat (first | (refine ⟨(by kernel_rfl : chkR _ _ _ _ = true), ?_⟩; conv => whnf) | (refine EvOr.go ?_; conv => whnf))
          refine ⟨_, hg, ?_⟩
          conv => whnf
          repeat (first | (refine ⟨(by kernel_rfl : chkR _ _ _ _ = true), ?_⟩; conv => whnf) | (refine EvOr.go ?_; conv => whnf))
          refine ⟨by simp, ?_⟩
          conv => whnf
          repeat (first | (refine ⟨(by kernel_rfl : chkR _ _ _ _ = true), ?_⟩; conv => whnf) | (refine EvOr.go ?_; conv => whnf))
          refine ⟨by rw [List.length_map]; omega, fun h => absurd h (by decide), fun _ => ⟨by show (2 * (O.length + 1) + 192) * 72 ≤ 2 ^ 48; omega, ?_⟩⟩
          conv => whnf
          repeat (first | (refine ⟨(by kernel_rfl : chkR _ _ _ _ = true), ?_⟩; conv => whnf) | (refine EvOr.go ?_; conv => whnf))
          refine ⟨_, inc_nat (by omega), ?_⟩
          conv => whnf
          repeat (first | (refine ⟨(by kernel_rfl : chkR _ _ _ _ = true), ?_⟩; conv => whnf) | (refine EvOr.go ?_; conv => whnf))
          refine ⟨by omega, _, StW.ofP [0, 1, 2, 3, 4, 5, 8] ?_ ?_ ?_⟩
          · show stP _ _ (setI n d _ f h R L i s (k + 1)).2 = true
            simp only [setI, setH, hs, q4]; kernel_rfl
          · show maskT _ (setI n d _ f h R L i s (k + 1)).1 = renT _ (setI n d _ f h R L i s (k + 1)).1
            simp only [setI, setT, hs, q3]; rfl
          · show pickH _ _ 0 (setI n d _ f h R L i s (k + 1)).2 = renH _ (setI n d _ f h R L i s (k + 1)).2
            simp only [setI, setH, hs, q4, rowN, em]; rfl
      | true =>
        have hs := delW_f hk hq
        show evC Try.prog tab _ _ (setT i s (delW i (L.take k)) k) (setH n d _ f h R L s (delW i (L.take k))) _
        by_cases hO : delW i (L.take k) = []
        · rw [hO] at hs ⊢
          generalize L[k] = p at *
          conv => whnf
          repeat (first | (refine ⟨(by kernel_rfl : chkR _ _ _ _ = true), ?_⟩; conv => whnf) | (refine EvOr.go ?_; conv => whnf))
          intro c hc
          obtain rfl : c = true := by rw [hc]; exact decide_eq_true (by omega)
          conv => whnf
          repeat (first | (refine ⟨(by kernel_rfl : chkR _ _ _ _ = true), ?_⟩; conv => whnf) | (refine EvOr.go ?_; conv => whnf))
          refine ⟨⟨by omega, by omega⟩, ?_⟩
          conv => whnf
          repeat (first | (refine ⟨(by kernel_rfl : chkR _ _ _ _ = true), ?_⟩; conv => whnf) | (refine EvOr.go ?_; conv => whnf))
          refine ⟨_, hg, ?_⟩
          conv => whnf
          repeat (first | (refine ⟨(by kernel_rfl : chkR _ _ _ _ = true), ?_⟩; conv => whnf) | (refine EvOr.go ?_; conv => whnf))
          intro c hc
          obtain rfl : c = false := by rw [hc, bne, hq]; rfl
          conv => whnf
          repeat (first | (refine ⟨(by kernel_rfl : chkR _ _ _ _ = true), ?_⟩; conv => whnf) | (refine EvOr.go ?_; conv => whnf))
          refine ⟨_, inc_nat (by omega), ?_⟩
          conv => whnf
          repeat (first | (refine ⟨(by kernel_rfl : chkR _ _ _ _ = true), ?_⟩; conv => whnf) | (refine EvOr.go ?_; conv => whnf))
          refine ⟨by omega, _, StW.ofP [0, 1, 2, 3, 4, 5, 6] ?_ ?_ ?_⟩
          · show stP _ _ (setI n d _ f h R L i s (k + 1)).2 = true
            simp only [setI, setH, hs]; kernel_rfl
          · show maskT _ (setI n d _ f h R L i s (k + 1)).1 = renT _ (setI n d _ f h R L i s (k + 1)).1
            simp only [setI, setT, hs]; rfl
          · show pickH _ _ 0 (setI n d _ f h R L i s (k + 1)).2 = renH _ (setI n d _ f h R L i s (k + 1)).2
            simp only [setI, setH, hs]; rfl
        · obtain ⟨q1, q2⟩ := jrow_ne 6 hO
          unfold setT setH
          rw [q1, q2]
          generalize L[k] = p at *
          conv => whnf
          repeat (first | (refine ⟨(by kernel_rfl : chkR _ _ _ _ = true), ?_⟩; conv => whnf) | (refine EvOr.go ?_; conv => whnf))
          intro c hc
          obtain rfl : c = true := by rw [hc]; exact decide_eq_true (by omega)
          conv => whnf
          repeat (first | (refine ⟨(by kernel_rfl : chkR _ _ _ _ = true), ?_⟩; conv => whnf) | (refine EvOr.go ?_; conv => whnf))
          refine ⟨⟨by omega, by omega⟩, ?_⟩
          conv => whnf
          repeat (first | (refine ⟨(by kernel_rfl : chkR _ _ _ _ = true), ?_⟩; conv => whnf) | (refine EvOr.go ?_; conv => whnf))
          refine ⟨_, hg, ?_⟩
          conv => whnf
          repeat (first | (refine ⟨(by kernel_rfl : chkR _ _ _ _ = true), ?_⟩; conv => whnf) | (refine EvOr.go ?_; conv => whnf))
          intro c hc
          obtain rfl : c = false := by rw [hc, bne, hq]; rfl
          conv => whnf
          repeat (first | (refine ⟨(by kernel_rfl : chkR _ _ _ _ = true), ?_⟩; conv => whnf) | (refine EvOr.go ?_; conv => whnf))
          refine ⟨_, inc_nat (by omega), ?_⟩
          conv => whnf
          repeat (first | (refine ⟨(by kernel_rfl : chkR _ _ _ _ = true), ?_⟩; conv => whnf) | (refine EvOr.go ?_; conv => whnf))
          refine ⟨by omega, _, StW.ofP [0, 1, 2, 3, 4, 5, 6] ?_ ?_ ?_⟩
          · show stP _ _ (setI n d _ f h R L i s (k + 1)).2 = true
            simp only [setI, setH, hs, q2]; kernel_rfl
          · show maskT _ (setI n d _ f h R L i s (k + 1)).1 = renT _ (setI n d _ f h R L i s (k + 1)).1
            simp only [setI, setT, hs, q1]; rfl
          · show pickH _ _ 0 (setI n d _ f h R L i s (k + 1)).2 = renH _ (setI n d _ f h R L i s (k + 1)).2
            simp only [setI, setH, hs, q2]; rfl
    · obtain rfl : k = L.length := by omega
      show evC Try.prog tab _ _ (setT i s (delW i (L.take L.length)) L.length) (setH n d _ f h R L s (delW i (L.take L.length))) _
      rw [List.take_length] at *
      by_cases hO : delW i L = []
      · rw [hO]
        conv => whnf
        repeat (first | (refine ⟨(by kernel_rfl : chkR _ _ _ _ = true), ?_⟩; conv => whnf) | (refine EvOr.go ?_; conv => whnf))
        intro c hc
        obtain rfl : c = false := by rw [hc]; exact decide_eq_false (by omega)
        conv => whnf
        repeat (first | (refine ⟨(by kernel_rfl : chkR _ _ _ _ = true), ?_⟩; conv => whnf) | (refine EvOr.go ?_; conv => whnf))
        refine CallG.use g1 c127 [1, 7] [] ?_ ?_ ?_ ?_ ?_ ?_; rfl; rfl; kernel_rfl; rfl; rfl
        conv => whnf
        repeat (first | (refine ⟨(by kernel_rfl : chkR _ _ _ _ = true), ?_⟩; conv => whnf) | (refine EvOr.go ?_; conv => whnf))
        exact retQ.oneS [0, 1, 2, 3, 4, 6, 8] rfl (by first | exact .inr rfl | exact .inl rfl) rfl (by kernel_rfl) (by first | rfl | kernel_rfl)
      · obtain ⟨q1, q2⟩ := jrow_ne 6 hO
        obtain ⟨q3, q4⟩ := jrow_ne 5 hO
        unfold setT setH
        rw [q1, q2, q3]
        generalize delW i L = O at *
        conv => whnf
        repeat (first | (refine ⟨(by kernel_rfl : chkR _ _ _ _ = true), ?_⟩; conv => whnf) | (refine EvOr.go ?_; conv => whnf))
        intro c hc
        obtain rfl : c = false := by rw [hc]; exact decide_eq_false (by omega)
        conv => whnf
        repeat (first | (refine ⟨(by kernel_rfl : chkR _ _ _ _ = true), ?_⟩; conv => whnf) | (refine EvOr.go ?_; conv => whnf))
        refine CallG.use g1 c127 [1, 7] [] ?_ ?_ ?_ ?_ ?_ ?_; rfl; rfl; kernel_rfl; rfl; rfl
        conv => whnf
        repeat (first | (refine ⟨(by kernel_rfl : chkR _ _ _ _ = true), ?_⟩; conv => whnf) | (refine EvOr.go ?_; conv => whnf))
        exact retQ.oneS [0, 1, 2, 3, 4, 6, 8] rfl (by first | exact .inr rfl | exact .inl rfl) rfl (by kernel_rfl) (by first | rfl | kernel_rfl)
end Go.Proofs.Ytdmcbfmpnakdfaa.Eng.Rm
/- The document's member: crash . -/
namespace Go.Proofs.Ytdmcbfmpnakdfaa.Eng.Rm
open Go Go.Proofs
set_option maxRecDepth 20000
set_option maxHeartbeats 8000000
theorem enc_str (L : Img) (o c : Nat) : List.take c (List.drop o (L.map encW)) = (List.take c (List.drop o L)).map encW := by
  rw [← List.map_drop, ← List.map_take]
theorem join_rs (A L : Img) (o c : Nat) (hA : 0 < A.length) (hc : 0 < c) (hoc : o + c ≤ L.length) (hb : A.length < 2 ^ 30) (hb2 : L.length < 2 ^ 30) :
    FunT Try.prog 127 [.sc (.sl 0 0 65 A.length none), .sc (.sl 1 o 65 c none)] [rowE A, rowE L] (.sc (.sl 2 0 65 (A.length + c) none)) [rowE A, rowE L, rowN (A ++ (L.drop o).take c)] := by
  have e : rowN (A ++ (L.drop o).take c) = some (.row .inx 154 65 (List.take A.length (List.drop 0 (List.take A.length (List.drop 0 (A.map encW)))) ++ List.take c (List.drop o (L.map encW))) []) := by
    rw [enc_take, enc_take, enc_str, ← List.map_append]
  rw [e]
  refine FunT.ev tabOk mixed Try.func127 rfl ?_
  conv => whnf
  repeat (first | (refine ⟨(by kernel_rfl : chkR _ _ _ _ = true), ?_⟩; conv => whnf) | (refine EvOr.go ?_; conv => whnf))
  refine ⟨by rw [List.length_map]; omega, ?_⟩
  conv => whnf
  repeat (first | (refine ⟨(by kernel_rfl : chkR _ _ _ _ = true), ?_⟩; conv => whnf) | (refine EvOr.go ?_; conv => whnf))
  refine ⟨fun h => absurd h (by show ¬ A.length = 0; omega), fun _ => ⟨by show (2 * A.length + 192) * 72 ≤ 2 ^ 48; omega, ?_⟩⟩
  conv => whnf
  repeat (first | (refine ⟨(by kernel_rfl : chkR _ _ _ _ = true), ?_⟩; conv => whnf) | (refine EvOr.go ?_; conv => whnf))
  refine ⟨by rw [List.length_map]; omega, ?_⟩
  conv => whnf
  repeat (first | (refine ⟨(by kernel_rfl : chkR _ _ _ _ = true), ?_⟩; conv => whnf) | (refine EvOr.go ?_; conv => whnf))
  refine ⟨by rw [enc_take, List.length_map]; omega, fun h => absurd h (by omega), fun _ => ⟨by show (2 * (A.length + c) + 192) * 72 ≤ 2 ^ 48; omega, ?_⟩⟩
  conv => whnf
  repeat (first | (refine ⟨(by kernel_rfl : chkR _ _ _ _ = true), ?_⟩; conv => whnf) | (refine EvOr.go ?_; conv => whnf))
  exact retQ.oneS [0, 1, 3] rfl (by first | exact .inr rfl | exact .inl rfl) rfl (by kernel_rfl) (by first | rfl | kernel_rfl)
theorem join_ns (L : Img) (o c : Nat) (hc : 0 < c) (hoc : o + c ≤ L.length) (hb2 : L.length < 2 ^ 30) (R : List (Nat × Obj)) :
    FunT Try.prog 127 [.sc nilS, .sc (.sl 1 o 65 c none)] [some (famB R), rowE L] (.sc (.sl 2 0 65 c none)) [some (famB R), rowE L, rowN ((L.drop o).take c)] := by
  have e : rowN ((L.drop o).take c) = some (.row .inx 154 65 (List.take c (List.drop o (L.map encW))) []) := by
    rw [enc_str]
  rw [e]
  refine FunT.ev tabOk mixed Try.func127 rfl ?_
  conv => whnf
  repeat (first | (refine ⟨(by kernel_rfl : chkR _ _ _ _ = true), ?_⟩; conv => whnf) | (refine EvOr.go ?_; conv => whnf))
  refine ⟨fun _ => ?_, fun h => absurd h (by decide)⟩
  conv => whnf
  repeat (first | (refine ⟨(by kernel_rfl : chkR _ _ _ _ = true), ?_⟩; conv => whnf) | (refine EvOr.go ?_; conv => whnf))
  refine ⟨by rw [List.length_map]; omega, ?_⟩
  conv => whnf
  repeat (first | (refine ⟨(by kernel_rfl : chkR _ _ _ _ = true), ?_⟩; conv => whnf) | (refine EvOr.go ?_; conv => whnf))
  refine ⟨fun h => absurd h (by show ¬ c = 0; omega), fun _ => ⟨by show (2 * c + 192) * 72 ≤ 2 ^ 48; omega, ?_⟩⟩
  conv => whnf
  repeat (first | (refine ⟨(by kernel_rfl : chkR _ _ _ _ = true), ?_⟩; conv => whnf) | (refine EvOr.go ?_; conv => whnf))
  exact retQ.oneS [0, 1, 2] rfl (by first | exact .inr rfl | exact .inl rfl) rfl (by kernel_rfl) (by first | rfl | kernel_rfl)
/-- A frozen list and a stretch of a row. -/
theorem join_stretch {R : List (Nat × Obj)} {A : Img} {v : Value} (L : Img) (o c : Nat) (hA : RawAt R A v) (hc : 0 < c) (hoc : o + c ≤ L.length) (hb : A.length < 2 ^ 30) (hb2 : L.length < 2 ^ 30) :
    FunT Try.prog 127 [.sc (.raw v), .sc (.sl 1 o 65 c none)] [some (famB R), rowE L] (.sc (.sl 2 0 65 (A.length + c) none)) [some (famB R), rowE L, rowN (A ++ (L.drop o).take c)] := by
  rcases hA with ⟨rfl, rfl⟩ | ⟨h0, b, off, cap, c', t', fr, pre, post, rfl, hc', hR, hcs, hp⟩
  · rw [List.length_nil, Nat.zero_add]
    exact join_ns L o c hc hoc hb2 R
  · exact FunT.fam (h := [rowE A, rowE L]) (h' := [rowE A, rowE L, rowN (A ++ (L.drop o).take c)]) 0 (join_rs A L o c h0 hc hoc hb hb2) rfl (by show 0 < 2; decide) hR hcs hp (by simpa using hc') (enc_ok A) (enc_ids A) (fun ρ => by simp [AV.dens, AV.den, SV.den, updR_same, updR]) rfl rfl (fun x hx => by simp [AV.ids, SV.ids] at hx; omega)
/-- Those of the first k that are picked. -/
def pkL (pk : List Int) (L : Img) : Nat → Img
  | 0 => []
  | k + 1 => if picked pk k then pkL pk L k ++ (L.drop k).take 1 else pkL pk L k
theorem pkL_len (pk : List Int) (L : Img) (k : Nat) : (pkL pk L k).length ≤ k := by
  induction k with
  | zero => exact Nat.le_refl _
  | succ k ih =>
    unfold pkL
    split
    · rw [List.length_append, List.length_take]; omega
    · omega
theorem drop1 {L : Img} {k : Nat} (hk : k < L.length) : (L.drop k).take 1 = [L[k]] := by
  rw [List.drop_eq_getElem_cons hk]; rfl
theorem pkL_end (pk : List Int) (L : Img) (k m : Nat) (h : pk.length ≤ k) : pkL pk L (k + m) = pkL pk L k := by
  induction m with
  | zero => rfl
  | succ m ih =>
    show (if picked pk (k + m) then _ else pkL pk L (k + m)) = _
    have : picked pk (k + m) = false := by unfold picked; rw [decide_eq_false (by omega)]; rfl
    rw [if_neg (by rw [this]; decide), ih]
/-- Nothing to be kept. -/
theorem rcrash_nil (n : Int) (d : Sl) (mk : Mk) (f h : Bool) (R : List (Nat × Obj)) (pk : List Int) :
    FunT Try.prog 98 [rpt, .sc (.sl 5 0 1 pk.length none)] (HR n d ⟨none, 0, 0⟩ mk f h R ++ [some (famB R), pkR pk]) (.tup []) (HR n d ⟨none, 0, 0⟩ mk f h R ++ [some (famB R), pkR pk, none]) := by
  cases mk <;>
  · refine FunT.ev tabOk mixed Try.func98 rfl ?_
    conv => whnf
    repeat (first | (refine ⟨(by kernel_rfl : chkR _ _ _ _ = true), ?_⟩; conv => whnf) | (refine EvOr.go ?_; conv => whnf))
    refine CodeS.loop0 tabOk mixed (Nat.le_of_ble_eq_true rfl) ?_
    conv => whnf
    repeat (first | (refine ⟨(by kernel_rfl : chkR _ _ _ _ = true), ?_⟩; conv => whnf) | (refine EvOr.go ?_; conv => whnf))
    intro c hc
    obtain rfl : c = false := by rw [hc]; rfl
    conv => whnf
    repeat (first | (refine ⟨(by kernel_rfl : chkR _ _ _ _ = true), ?_⟩; conv => whnf) | (refine EvOr.go ?_; conv => whnf))
    exact retQ.zeroS [0, 1, 2, 3, 4, 5, 6] rfl (by first | exact .inr rfl | exact .inl rfl) rfl (by kernel_rfl) (by first | rfl | kernel_rfl)
theorem rcrash_nil0 (n : Int) (d : Sl) (mk : Mk) (f h : Bool) (R : List (Nat × Obj)) (ad : Option Addr) (cp : Nat) :
    FunT Try.prog 98 [rpt, .sc (.raw (.slice ad 0 cp))] (HR n d ⟨none, 0, 0⟩ mk f h R ++ [some (famB R)]) (.tup []) (HR n d ⟨none, 0, 0⟩ mk f h R ++ [some (famB R)]) := by
  cases mk <;>
  · refine FunT.ev tabOk mixed Try.func98 rfl ?_
    conv => whnf
    repeat (first | (refine ⟨(by kernel_rfl : chkR _ _ _ _ = true), ?_⟩; conv => whnf) | (refine EvOr.go ?_; conv => whnf))
    refine CodeS.loop0 tabOk mixed (Nat.le_of_ble_eq_true rfl) ?_
    conv => whnf
    repeat (first | (refine ⟨(by kernel_rfl : chkR _ _ _ _ = true), ?_⟩; conv => whnf) | (refine EvOr.go ?_; conv => whnf))
    intro c hc
    obtain rfl : c = false := by rw [hc]; rfl
    conv => whnf
    repeat (first | (refine ⟨(by kernel_rfl : chkR _ _ _ _ = true), ?_⟩; conv => whnf) | (refine EvOr.go ?_; conv => whnf))
    exact retQ.zero rfl (by first | exact .inl rfl | exact .inr rfl) rfl (Nat.le_of_ble_eq_true rfl) rfl
theorem picked_t {pk : List Int} {k : Nat} (hk : k < pk.length) : picked pk k = (pk[k] != 0) := by
  unfold picked
  rw [decide_eq_true hk]
  simp [hk]
def durS (d : Sl) (D O : Img) (id : Nat) : SV := match O with
  | [] => .raw d.v
  | O => .sl id 0 65 (D.length + O.length) none
def durB (D O : Img) : Option ABlk := match O with
  | [] => none
  | O => rowN (D ++ O)
theorem dur_ne {O : Img} (d : Sl) (D : Img) (id : Nat) (h : O ≠ []) : durS d D O id = .sl id 0 65 (D.length + O.length) none ∧ durB D O = rowN (D ++ O) := by
  cases O with
  | nil => exact absurd rfl h
  | cons a r => exact ⟨rfl, rfl⟩
def craH (n : Int) (d : Sl) (mk : Mk) (f h : Bool) (R : List (Nat × Obj)) (D L : Img) (pk : List Int) (O : Img) : LHp := [refS n (durS d D O 6) (.sl 4 0 65 L.length none) (mk.sv 3) f h, some (famB R), some (famB R), none, rowE L, pkR pk, durB D O]
def craI (n : Int) (d : Sl) (mk : Mk) (f h : Bool) (R : List (Nat × Obj)) (D L : Img) (pk : List Int) (k : Nat) : LTm × LHp :=
  ([rpt, .sc (.sl 5 0 1 pk.length none), .junk, .junk, iv (k : Nat), .junk, .junk, .junk, .junk, .junk, .junk, .junk, .junk, .junk, .junk, .junk, .junk, .junk, .junk, .junk, .junk, .junk, .junk, .junk, .junk, .junk, .junk, .junk, .junk, .junk, .junk, .junk, .junk, .junk, .junk, .junk, .junk, .junk, .junk, .junk, .junk, .junk, .junk, .junk], craH n d mk f h R D L pk (pkL pk L k))
theorem rcrash_log (n : Int) (d : Sl) (mk : Mk) (f h : Bool) (R : List (Nat × Obj)) (D L : Img) (pk : List Int) (hd : RawAt R D d.v) (hb : D.length < 2 ^ 29) (hb2 : L.length < 2 ^ 29) :
    FunT Try.prog 98 [rpt, .sc (.sl 5 0 1 pk.length none)] (logH n d mk f h R L ++ [pkR pk]) (.tup []) [refS n (durS d D (pkL pk L (min L.length pk.length)) 6) nilS (mk.sv 3) f h, some (famB R), some (famB R), none, rowE L, pkR pk, durB D (pkL pk L (min L.length pk.length))] := by
  obtain ⟨I, hI⟩ : ∃ I, I = craI n d mk f h R D L pk := ⟨_, rfl⟩
  cases mk <;>
  · refine FunT.ev tabOk mixed Try.func98 rfl ?_
    conv => whnf
    repeat (first | (refine ⟨(by kernel_rfl : chkR _ _ _ _ = true), ?_⟩; conv => whnf) | (refine EvOr.go ?_; conv => whnf))
    refine CodeT.loopN tabOk mixed I (min L.length pk.length) _ (StW.ofP [0, 1, 2, 3, 4, 5] ?_ ?_ ?_) (fun k => by subst hI; rfl) ?_
    · subst hI; kernel_rfl
    · subst hI; rfl
    · subst hI; rfl
    intro k hkl
    subst hI
    have hlen : (pkL pk L k).length ≤ k := pkL_len pk L k
    show evC Try.prog tab _ _ ([rpt, .sc (.sl 5 0 1 pk.length none), .junk, .junk, iv (k : Nat), .junk, .junk, .junk, .junk, .junk, .junk, .junk, .junk, .junk, .junk, .junk, .junk, .junk, .junk, .junk, .junk, .junk, .junk, .junk, .junk, .junk, .junk, .junk, .junk, .junk, .junk, .junk, .junk, .junk, .junk, .junk, .junk, .junk, .junk, .junk, .junk, .junk, .junk, .junk]) (craH n d _ f h R D L pk (pkL pk L k)) _
    unfold craH
    by_cases hk : k < min L.length pk.length
    · have hg2 : (pk.map fun b => ([.one (.raw (.int .u8 b))] : Segs))[0 + (k : Int).toNat]? = some [.one (.raw (.int .u8 pk[k]))] := by
        rw [Nat.zero_add, Int.toNat_natCast, List.getElem?_map, List.getElem?_eq_getElem (by omega)]; rfl
      cases hq : picked pk k with
      | false =>
        have hs : pkL pk L (k + 1) = pkL pk L k := by
          show (if picked pk k then _ else _) = _
          rw [hq]; rfl
        rw [picked_t (by omega)] at hq
        by_cases hO : pkL pk L k = []
        · rw [hO] at hs ⊢
          generalize pk[k] = b at *
          conv => whnf
          repeat (first | (refine ⟨(by kernel_rfl : chkR _ _ _ _ = true), ?_⟩; conv => whnf) | (refine EvOr.go ?_; conv => whnf))
          intro c hc
          obtain rfl : c = true := by rw [hc]; exact decide_eq_true (by omega)
          conv => whnf
          repeat (first | (refine ⟨(by kernel_rfl : chkR _ _ _ _ = true), ?_⟩; conv => whnf) | (refine EvOr.go ?_; conv => whnf))
          intro c hc
          obtain rfl : c = true := by rw [hc]; exact decide_eq_true (by omega)
          conv => whnf
          repeat (first | (refine ⟨(by kernel_rfl : chkR _ _ _ _ = true), ?_⟩; conv => whnf) | (refine EvOr.go ?_; conv => whnf))
          refine ⟨⟨by omega, by omega⟩, ?_⟩
          conv => whnf
          repeat (first | (refine ⟨(by kernel_rfl : chkR _ _ _ _ = true), ?_⟩; conv => whnf) | (refine EvOr.go ?_; conv => whnf))
          refine ⟨_, hg2, ?_⟩
          conv => whnf
          repeat (first | (refine ⟨(by kernel_rfl : chkR _ _ _ _ = true), ?_⟩; conv => whnf) | (refine EvOr.go ?_; conv => whnf))
          intro c hc
          obtain rfl : c = false := by rw [hc, hq]
          conv => whnf
          repeat (first | (refine ⟨(by kernel_rfl : chkR _ _ _ _ = true), ?_⟩; conv => whnf) | (refine EvOr.go ?_; conv => whnf))
          refine ⟨_, inc_nat (by omega), ?_⟩
          conv => whnf
          repeat (first | (refine ⟨(by kernel_rfl : chkR _ _ _ _ = true), ?_⟩; conv => whnf) | (refine EvOr.go ?_; conv => whnf))
          refine ⟨by omega, _, StW.ofP [0, 1, 2, 3, 4, 5, 6] ?_ ?_ ?_⟩
          · show stP _ _ (craI n d _ f h R D L pk (k + 1)).2 = true
            simp only [craI, craH, hs]; kernel_rfl
          · rfl
          · show pickH _ _ 0 (craI n d _ f h R D L pk (k + 1)).2 = renH _ (craI n d _ f h R D L pk (k + 1)).2
            simp only [craI, craH, hs]; rfl
        · obtain ⟨q1, q2⟩ := dur_ne d D 6 hO
          rw [q1, q2]
          generalize pk[k] = b at *
          conv => whnf
          repeat (first | (refine ⟨(by kernel_rfl : chkR _ _ _ _ = true), ?_⟩; conv => whnf) | (refine EvOr.go ?_; conv => whnf))
          intro c hc
          obtain rfl : c = true := by rw [hc]; exact decide_eq_true (by omega)
          conv => whnf
          repeat (first | (refine ⟨(by kernel_rfl : chkR _ _ _ _ = true), ?_⟩; conv => whnf) | (refine EvOr.go ?_; conv => whnf))
          intro c hc
          obtain rfl : c = true := by rw [hc]; exact decide_eq_true (by omega)
          conv => whnf
          repeat (first | (refine ⟨(by kernel_rfl : chkR _ _ _ _ = true), ?_⟩; conv => whnf) | (refine EvOr.go ?_; conv => whnf))
          refine ⟨⟨by omega, by omega⟩, ?_⟩
          conv => whnf
          repeat (first | (refine ⟨(by kernel_rfl : chkR _ _ _ _ = true), ?_⟩; conv => whnf) | (refine EvOr.go ?_; conv => whnf))
          refine ⟨_, hg2, ?_⟩
          conv => whnf
          repeat (first | (refine ⟨(by kernel_rfl : chkR _ _ _ _ = true), ?_⟩; conv => whnf) | (refine EvOr.go ?_; conv => whnf))
          intro c hc
          obtain rfl : c = false := by rw [hc, hq]
          conv => whnf
          repeat (first | (refine ⟨(by kernel_rfl : chkR _ _ _ _ = true), ?_⟩; conv => whnf) | (refine EvOr.go ?_; conv => whnf))
          refine ⟨_, inc_nat (by omega), ?_⟩
          conv => whnf
          repeat (first | (refine ⟨(by kernel_rfl : chkR _ _ _ _ = true), ?_⟩; conv => whnf) | (refine EvOr.go ?_; conv => whnf))
          refine ⟨by omega, _, StW.ofP [0, 1, 2, 3, 4, 5, 6] ?_ ?_ ?_⟩
          · show stP _ _ (craI n d _ f h R D L pk (k + 1)).2 = true
            simp only [craI, craH, hs, q1, q2]; kernel_rfl
          · rfl
          · show pickH _ _ 0 (craI n d _ f h R D L pk (k + 1)).2 = renH _ (craI n d _ f h R D L pk (k + 1)).2
            simp only [craI, craH, hs, q1, q2]; rfl
      | true =>
        obtain ⟨o, ho⟩ : ∃ o, o = 0 + (k : Int).toNat := ⟨_, rfl⟩
        obtain ⟨c, hc0⟩ : ∃ c, c = (((k + 1 : Nat) : Int) - (k : Int)).toNat := ⟨_, rfl⟩
        have ho2 : o = k := by omega
        have hc2 : c = 1 := by omega
        have hs : pkL pk L (k + 1) = pkL pk L k ++ (L.drop o).take c := by
          show (if picked pk k then _ else _) = _
          rw [hq, ho2, hc2]; rfl
        have hl1 : ((L.drop o).take c).length = c := by rw [List.length_take, List.length_drop]; omega
        have hne : (L.drop o).take c ≠ [] := fun e => by rw [e] at hl1; simp at hl1; omega
        rw [picked_t (by omega)] at hq
        by_cases hO : pkL pk L k = []
        · rw [hO] at hs ⊢
          obtain ⟨q3, q4⟩ := dur_ne d D 6 hne
          rw [List.nil_append] at hs
          rw [hl1] at q3
          have g1 := join_stretch L o c hd (by omega) (by omega) (by omega) (by omega)
          rw [ho, hc0] at g1 hs q3 q4
          generalize pk[k] = b at *
          conv => whnf
          repeat (first | (refine ⟨(by kernel_rfl : chkR _ _ _ _ = true), ?_⟩; conv => whnf) | (refine EvOr.go ?_; conv => whnf))
          intro c hc
          obtain rfl : c = true := by rw [hc]; exact decide_eq_true (by omega)
          conv => whnf
          repeat (first | (refine ⟨(by kernel_rfl : chkR _ _ _ _ = true), ?_⟩; conv => whnf) | (refine EvOr.go ?_; conv => whnf))
          intro c hc
          obtain rfl : c = true := by rw [hc]; exact decide_eq_true (by omega)
          conv => whnf
          repeat (first | (refine ⟨(by kernel_rfl : chkR _ _ _ _ = true), ?_⟩; conv => whnf) | (refine EvOr.go ?_; conv => whnf))
          refine ⟨⟨by omega, by omega⟩, ?_⟩
          conv => whnf
          repeat (first | (refine ⟨(by kernel_rfl : chkR _ _ _ _ = true), ?_⟩; conv => whnf) | (refine EvOr.go ?_; conv => whnf))
          refine ⟨_, hg2, ?_⟩
          conv => whnf
          repeat (first | (refine ⟨(by kernel_rfl : chkR _ _ _ _ = true), ?_⟩; conv => whnf) | (refine EvOr.go ?_; conv => whnf))
          intro c hc
          obtain rfl : c = true := by rw [hc, hq]
          conv => whnf
          repeat (first | (refine ⟨(by kernel_rfl : chkR _ _ _ _ = true), ?_⟩; conv => whnf) | (refine EvOr.go ?_; conv => whnf))
          refine ⟨_, inc_nat (by omega), ?_⟩
          conv => whnf
          repeat (first | (refine ⟨(by kernel_rfl : chkR _ _ _ _ = true), ?_⟩; conv => whnf) | (refine EvOr.go ?_; conv => whnf))
          refine ⟨⟨by omega, by omega, by show ((k + 1 : Nat) : Int) ≤ (L.length : Nat); omega, fun _ => ⟨_, _, _, _, _, rfl, by rw [List.length_map]; omega⟩⟩, fun _ => ?_, fun h1 _ => absurd h1 (by omega)⟩
          conv => whnf
          repeat (first | (refine ⟨(by kernel_rfl : chkR _ _ _ _ = true), ?_⟩; conv => whnf) | (refine EvOr.go ?_; conv => whnf))
          refine CallG.use g1 c127 [1, 4] [] ?_ ?_ ?_ ?_ ?_ ?_; rfl; rfl; kernel_rfl; rfl; rfl
          conv => whnf
          repeat (first | (refine ⟨(by kernel_rfl : chkR _ _ _ _ = true), ?_⟩; conv => whnf) | (refine EvOr.go ?_; conv => whnf))
          refine ⟨_, inc_nat (by omega), ?_⟩
          conv => whnf
          repeat (first | (refine ⟨(by kernel_rfl : chkR _ _ _ _ = true), ?_⟩; conv => whnf) | (refine EvOr.go ?_; conv => whnf))
          refine ⟨by omega, _, StW.ofP [0, 1, 2, 3, 4, 5, 7] ?_ ?_ ?_⟩
          · show stP _ _ (craI n d _ f h R D L pk (k + 1)).2 = true
            simp only [craI, craH, hs, q3, q4]; kernel_rfl
          · rfl
          · show pickH _ _ 0 (craI n d _ f h R D L pk (k + 1)).2 = renH _ (craI n d _ f h R D L pk (k + 1)).2
            simp only [craI, craH, hs, q3, q4]; rfl
        · obtain ⟨q1, q2⟩ := dur_ne d D 6 hO
          obtain ⟨q3, q4⟩ := dur_ne (O := pkL pk L k ++ (L.drop o).take c) d D 6 (by simp [hO])
          rw [List.length_append, hl1, ← Nat.add_assoc, ← List.length_append] at q3
          rw [← List.append_assoc] at q4
          rw [← List.length_append] at q1
          rw [q1, q2]
          have hlD : (D ++ pkL pk L k).length ≤ D.length + k := by rw [List.length_append]; omega
          have hlp : 0 < (D ++ pkL pk L k).length := List.length_pos_iff.2 (by simp [hO])
          have g1 := join_rs (D ++ pkL pk L k) L o c hlp (by omega) (by omega) (by omega) (by omega)
          rw [ho, hc0] at g1 hs q3 q4
          generalize pk[k] = b at *
          conv => whnf
          repeat (first | (refine ⟨(by kernel_rfl : chkR _ _ _ _ = true), ?_⟩; conv => whnf) | (refine EvOr.go ?_; conv => whnf))
          intro c hc
          obtain rfl : c = true := by rw [hc]; exact decide_eq_true (by omega)
          conv => whnf
          repeat (first | (refine ⟨(by kernel_rfl : chkR _ _ _ _ = true), ?_⟩; conv => whnf) | (refine EvOr.go ?_; conv => whnf))
          intro c hc
          obtain rfl : c = true := by rw [hc]; exact decide_eq_true (by omega)
          conv => whnf
          repeat (first | (refine ⟨(by kernel_rfl : chkR _ _ _ _ = true), ?_⟩; conv => whnf) | (refine EvOr.go ?_; conv => whnf))
          refine ⟨⟨by omega, by omega⟩, ?_⟩
          conv => whnf
          repeat (first | (refine ⟨(by kernel_rfl : chkR _ _ _ _ = true), ?_⟩; conv => whnf) | (refine EvOr.go ?_; conv => whnf))
          refine ⟨_, hg2, ?_⟩
          conv => whnf
          repeat (first | (refine ⟨(by kernel_rfl : chkR _ _ _ _ = true), ?_⟩; conv => whnf) | (refine EvOr.go ?_; conv => whnf))
          intro c hc
          obtain rfl : c = true := by rw [hc, hq]
          conv => whnf
          repeat (first | (refine ⟨(by kernel_rfl : chkR _ _ _ _ = true), ?_⟩; conv => whnf) | (refine EvOr.go ?_; conv => whnf))
          refine ⟨_, inc_nat (by omega), ?_⟩
          conv => whnf
          repeat (first | (refine ⟨(by kernel_rfl : chkR _ _ _ _ = true), ?_⟩; conv => whnf) | (refine EvOr.go ?_; conv => whnf))
          refine ⟨⟨by omega, by omega, by show ((k + 1 : Nat) : Int) ≤ (L.length : Nat); omega, fun _ => ⟨_, _, _, _, _, rfl, by rw [List.length_map]; omega⟩⟩, fun _ => ?_, fun h1 _ => absurd h1 (by omega)⟩
          conv => whnf
          repeat (first | (refine ⟨(by kernel_rfl : chkR _ _ _ _ = true), ?_⟩; conv => whnf) | (refine EvOr.go ?_; conv => whnf))
          refine CallG.use g1 c127 [6, 4] [] ?_ ?_ ?_ ?_ ?_ ?_; rfl; rfl; kernel_rfl; rfl; rfl
          conv => whnf
          repeat (first | (refine ⟨(by kernel_rfl : chkR _ _ _ _ = true), ?_⟩; conv => whnf) | (refine EvOr.go ?_; conv => whnf))
          refine ⟨_, inc_nat (by omega), ?_⟩
          conv => whnf
          repeat (first | (refine ⟨(by kernel_rfl : chkR _ _ _ _ = true), ?_⟩; conv => whnf) | (refine EvOr.go ?_; conv => whnf))
          refine ⟨by omega, _, StW.ofP [0, 1, 2, 3, 4, 5, 7] ?_ ?_ ?_⟩
          · show stP _ _ (craI n d _ f h R D L pk (k + 1)).2 = true
            simp only [craI, craH, hs, q3, q4]; kernel_rfl
          · rfl
          · show pickH _ _ 0 (craI n d _ f h R D L pk (k + 1)).2 = renH _ (craI n d _ f h R D L pk (k + 1)).2
            simp only [craI, craH, hs, q3, q4]; rfl
    · obtain rfl : k = min L.length pk.length := by omega
      have fin : ∀ O : Img, O = [] ∨ O ≠ [] := fun O => Classical.em _
      by_cases hkl2 : L.length ≤ pk.length
      · rcases fin (pkL pk L (min L.length pk.length)) with hO | hO
        · rw [hO]
          conv => whnf
          repeat (first | (refine ⟨(by kernel_rfl : chkR _ _ _ _ = true), ?_⟩; conv => whnf) | (refine EvOr.go ?_; conv => whnf))
          intro c hc
          obtain rfl : c = false := by rw [hc]; exact decide_eq_false (by omega)
          conv => whnf
          repeat (first | (refine ⟨(by kernel_rfl : chkR _ _ _ _ = true), ?_⟩; conv => whnf) | (refine EvOr.go ?_; conv => whnf))
          exact retQ.zero rfl (by first | exact .inl rfl | exact .inr rfl) rfl (Nat.le_of_ble_eq_true rfl) rfl
        · obtain ⟨q1, q2⟩ := dur_ne d D 6 hO
          rw [q1, q2]
          conv => whnf
          repeat (first | (refine ⟨(by kernel_rfl : chkR _ _ _ _ = true), ?_⟩; conv => whnf) | (refine EvOr.go ?_; conv => whnf))
          intro c hc
          obtain rfl : c = false := by rw [hc]; exact decide_eq_false (by omega)
          conv => whnf
          repeat (first | (refine ⟨(by kernel_rfl : chkR _ _ _ _ = true), ?_⟩; conv => whnf) | (refine EvOr.go ?_; conv => whnf))
          exact retQ.zero rfl (by first | exact .inl rfl | exact .inr rfl) rfl (Nat.le_of_ble_eq_true rfl) rfl
      · rcases fin (pkL pk L (min L.length pk.length)) with hO | hO
        · rw [hO]
          conv => whnf
          repeat (first | (refine ⟨(by kernel_rfl : chkR _ _ _ _ = true), ?_⟩; conv => whnf) | (refine EvOr.go ?_; conv => whnf))
          intro c hc
          obtain rfl : c = true := by rw [hc]; exact decide_eq_true (by omega)
          conv => whnf
          repeat (first | (refine ⟨(by kernel_rfl : chkR _ _ _ _ = true), ?_⟩; conv => whnf) | (refine EvOr.go ?_; conv => whnf))
          intro c hc
          obtain rfl : c = false := by rw [hc]; exact decide_eq_false (by omega)
          conv => whnf
          repeat (first | (refine ⟨(by kernel_rfl : chkR _ _ _ _ = true), ?_⟩; conv => whnf) | (refine EvOr.go ?_; conv => whnf))
          exact retQ.zero rfl (by first | exact .inl rfl | exact .inr rfl) rfl (Nat.le_of_ble_eq_true rfl) rfl
        · obtain ⟨q1, q2⟩ := dur_ne d D 6 hO
          rw [q1, q2]
          conv => whnf
          repeat (first | (refine ⟨(by kernel_rfl : chkR _ _ _ _ = true), ?_⟩; conv => whnf) | (refine EvOr.go ?_; conv => whnf))
          intro c hc
          obtain rfl : c = true := by rw [hc]; exact decide_eq_true (by omega)
          conv => whnf
          repeat (first | (refine ⟨(by kernel_rfl : chkR _ _ _ _ = true), ?_⟩; conv => whnf) | (refine EvOr.go ?_; conv => whnf))
          intro c hc
          obtain rfl : c = false := by rw [hc]; exact decide_eq_false (by omega)
          conv => whnf
          repeat (first | (refine ⟨(by kernel_rfl : chkR _ _ _ _ = true), ?_⟩; conv => whnf) | (refine EvOr.go ?_; conv => whnf))
          exact retQ.zero rfl (by first | exact .inl rfl | exact .inr rfl) rfl (Nat.le_of_ble_eq_true rfl) rfl
/-- No picks. -/
theorem rcrash_none (n : Int) (d : Sl) (mk : Mk) (f h : Bool) (R : List (Nat × Obj)) (L : Img) (ad : Option Addr) (cp : Nat) :
    FunT Try.prog 98 [rpt, .sc (.raw (.slice ad 0 cp))] (logH n d mk f h R L) (.tup []) [refS n (.raw d.v) nilS (mk.sv 3) f h, some (famB R), some (famB R), none, rowE L] := by
  by_cases h0 : 0 < L.length
  · cases mk <;>
    · refine FunT.ev tabOk mixed Try.func98 rfl ?_
      conv => whnf
      repeat (first | (refine ⟨(by kernel_rfl : chkR _ _ _ _ = true), ?_⟩; conv => whnf) | (refine EvOr.go ?_; conv => whnf))
      refine CodeS.loop0 tabOk mixed (Nat.le_of_ble_eq_true rfl) ?_
      conv => whnf
      repeat (first | (refine ⟨(by kernel_rfl : chkR _ _ _ _ = true), ?_⟩; conv => whnf) | (refine EvOr.go ?_; conv => whnf))
      intro c hc
      obtain rfl : c = true := by rw [hc]; exact decide_eq_true (by omega)
      conv => whnf
      repeat (first | (refine ⟨(by kernel_rfl : chkR _ _ _ _ = true), ?_⟩; conv => whnf) | (refine EvOr.go ?_; conv => whnf))
      intro c hc
      obtain rfl : c = false := by rw [hc]; rfl
      conv => whnf
      repeat (first | (refine ⟨(by kernel_rfl : chkR _ _ _ _ = true), ?_⟩; conv => whnf) | (refine EvOr.go ?_; conv => whnf))
      exact retQ.zero rfl (by first | exact .inl rfl | exact .inr rfl) rfl (Nat.le_of_ble_eq_true rfl) rfl
  · cases mk <;>
    · refine FunT.ev tabOk mixed Try.func98 rfl ?_
      conv => whnf
      repeat (first | (refine ⟨(by kernel_rfl : chkR _ _ _ _ = true), ?_⟩; conv => whnf) | (refine EvOr.go ?_; conv => whnf))
      refine CodeS.loop0 tabOk mixed (Nat.le_of_ble_eq_true rfl) ?_
      conv => whnf
      repeat (first | (refine ⟨(by kernel_rfl : chkR _ _ _ _ = true), ?_⟩; conv => whnf) | (refine EvOr.go ?_; conv => whnf))
      intro c hc
      obtain rfl : c = false := by rw [hc]; exact decide_eq_false (by omega)
      conv => whnf
      repeat (first | (refine ⟨(by kernel_rfl : chkR _ _ _ _ = true), ?_⟩; conv => whnf) | (refine EvOr.go ?_; conv => whnf))
      exact retQ.zero rfl (by first | exact .inl rfl | exact .inr rfl) rfl (Nat.le_of_ble_eq_true rfl) rfl
end Go.Proofs.Ytdmcbfmpnakdfaa.Eng.Rm
/- The document's member: set and crash, the log frozen. -/
namespace Go.Proofs.Ytdmcbfmpnakdfaa.Eng
open Go
theorem TurnL.of {j : Nat} {S : Spot} {h h2 : LHp} (hl : h2.length = h.length)
    (H : ∀ i, i ≠ j → i < h.length → (hpL h i = none ∧ hpL h2 i = none) ∨ ∃ b b2, hpL h i = some b ∧ hpL h2 i = some b2 ∧ Turn j S b b2) : TurnL j S h h2 where
  len := hl
  to i b hne hb := by
    rcases H i hne (hpL_lt hb) with ⟨h1, _⟩ | ⟨b1, b2, h1, h2', ht⟩
    · rw [h1] at hb; cases hb
    · rw [h1] at hb; cases hb; exact ⟨b2, h2', ht⟩
  fro i b hne hb := by
    rcases H i hne (hl ▸ hpL_lt hb) with ⟨_, h1⟩ | ⟨b1, b2, h1, h2', ht⟩
    · rw [h1] at hb; cases hb
    · rw [h2'] at hb; cases hb; exact ⟨b1, h1, ht⟩
theorem Turn.same {j : Nat} {S : Spot} {b : ABlk} (h : ∀ x ∈ b.ms, x ≠ j) : Turn j S b b := .inl ⟨rfl, h⟩
end Go.Proofs.Ytdmcbfmpnakdfaa.Eng
namespace Go.Proofs.Ytdmcbfmpnakdfaa.Eng.Rm
open Go Go.Proofs
set_option maxRecDepth 20000
set_option maxHeartbeats 8000000
theorem turn_ref {n : Int} {d : Sl} {mk : Mk} {f h : Bool} {b off cap k : Nat} (hm : mk.sv 3 = .raw (.slice none 0 0) ∨ ∃ m, mk.sv 3 = .sl 3 0 1 m none) {md : Md} :
    Turn 4 ⟨b, off, cap⟩ (.row md 133 6 [refGs n (.raw d.v) (.sl 4 0 65 k none) (mk.sv 3) f h] (Segs.ids (refGs n (.raw d.v) (.sl 4 0 65 k none) (mk.sv 3) f h)))
      (.row md 133 6 [refGs n (.raw d.v) (.raw (.slice (some ⟨b, off, none⟩) k cap)) (mk.sv 3) f h] (Segs.ids (refGs n (.raw d.v) (.raw (.slice (some ⟨b, off, none⟩) k cap)) (mk.sv 3) f h))) := by
  refine .inr ⟨_, _, _, _, _, _, _, rfl, rfl, rfl, fun ρ hρ => ?_, ?_, ?_, ?_, ?_, ?_⟩
  · simp [rowDen, Segs.den, Seg.den, SV.den, hρ]
  · intro e he
    obtain rfl := List.mem_singleton.1 he
    rcases hm with hm | ⟨m, hm⟩ <;> rw [hm] <;> exact ⟨rfl, rfl⟩
  · intro e he x hx
    obtain rfl := List.mem_singleton.1 he
    exact hx
  · intro e he
    obtain rfl := List.mem_singleton.1 he
    rcases hm with hm | ⟨m, hm⟩ <;> rw [hm] <;> exact ⟨rfl, rfl⟩
  · intro e he x hx
    obtain rfl := List.mem_singleton.1 he
    exact hx
  · intro x hx
    rcases hm with hm | ⟨m, hm⟩ <;> rw [hm] at hx <;> simp [Segs.ids, Seg.ids, SV.ids] at hx <;> omega
theorem mk_sv3 (mk : Mk) : mk.sv 3 = .raw (.slice none 0 0) ∨ ∃ m, mk.sv 3 = .sl 3 0 1 m none := by
  cases mk with
  | nil => exact .inl rfl
  | row m => exact .inr ⟨m, rfl⟩
theorem rset_ok (n : Int) (d l : Sl) (mk : Mk) (f h : Bool) (R : List (Nat × Obj)) (D L : Img) (i : Int) (s : List Nat) (h0 : mayB n i = true) (hd : RawAt R D d.v) (hl : RawAt R L l.v) (hb : D.length < 2 ^ 30) (hb2 : L.length < 2 ^ 30) :
    FunT Try.prog 99 [rpt, iv i, secV s] (HR n d l mk f h R ++ [some (famB R)]) (iv 0) [refS n (.sl 6 0 65 (D.length + 1) none) (jS (delW i L) 5) (mk.sv 3) f true, some (famB R), some (famB R), none, some (famB R), jB (delW i L), rowN (D ++ [(i, s)])] := by
  obtain ⟨la, ln, lc⟩ := l
  rcases hl with ⟨hv, rfl⟩ | ⟨hp0, b, off, cap, c, t', fr, pre, post, hv, hc, hR, hcs, hp⟩
  · injection hv with h1 h2 h3
    subst h1; subst h2; subst h3
    exact rset_nil n d mk f h R D i s h0 hd hb
  · injection hv with h1 h2 h3
    subst h1; subst h2; subst h3
    refine FunT.famS (h := logH n d mk f h R L) 4 (rset_log n d mk f h R D L i s h0 hd hb hb2) rfl (by show 4 < 5; decide) hR hcs hp (by simpa using hc) (enc_ok L) (enc_ids L) (fun ρ => ?_) (TurnL.of rfl fun k hk hlt => ?_) (TurnL.of rfl fun k hk hlt => ?_) rfl rfl (fun ρ s _ => rfl) (fun h => by cases h)
    · simp [AV.dens, AV.den, SV.den, updR, secV, Segs.den, Seg.den]
    · match k, hk, hlt with
      | 0, _, _ => exact .inr ⟨_, _, rfl, rfl, turn_ref (mk_sv3 mk)⟩
      | 1, _, _ => exact .inr ⟨_, _, rfl, rfl, .same fun x hx => by cases hx⟩
      | 2, _, _ => exact .inr ⟨_, _, rfl, rfl, .same fun x hx => by cases hx⟩
      | 3, _, _ => exact .inl ⟨rfl, rfl⟩
      | 4, h, _ => exact absurd rfl h
      | k + 5, _, h => exact absurd h (by show ¬ k + 5 < 5; omega)
    · match k, hk, hlt with
      | 0, _, _ =>
        refine .inr ⟨_, _, rfl, rfl, .same fun x hx => ?_⟩
        have hx : x ∈ Segs.ids (refGs n (.sl 6 0 65 (D.length + 1) none) (jS (delW i L) 5) (mk.sv 3) f true) := hx
        rcases mk_sv3 mk with hm | ⟨m, hm⟩ <;> rw [hm] at hx <;> (cases hO : delW i L with
          | nil => rw [hO] at hx; simp [jS, Segs.ids, Seg.ids, SV.ids] at hx; omega
          | cons p r => rw [hO] at hx; simp [jS, Segs.ids, Seg.ids, SV.ids] at hx; omega)
      | 1, _, _ => exact .inr ⟨_, _, rfl, rfl, .same fun x hx => by cases hx⟩
      | 2, _, _ => exact .inr ⟨_, _, rfl, rfl, .same fun x hx => by cases hx⟩
      | 3, _, _ => exact .inl ⟨rfl, rfl⟩
      | 4, h, _ => exact absurd rfl h
      | 5, _, _ =>
        cases hO : delW i L with
        | nil => exact .inl ⟨rfl, rfl⟩
        | cons p r => exact .inr ⟨_, _, rfl, rfl, .same fun x hx => by cases hx⟩
      | 6, _, _ => exact .inr ⟨_, _, rfl, rfl, .same fun x hx => by cases hx⟩
      | k + 7, _, h => exact absurd h (by show ¬ k + 7 < 7; omega)
/-- What a crash keeps of the log. -/
abbrev keptL (pk : List Int) (L : Img) : Img := pkL pk L (min L.length pk.length)
theorem rcrash_ok (n : Int) (d l : Sl) (mk : Mk) (f h : Bool) (R : List (Nat × Obj)) (D L : Img) (pk : List Int) (hd : RawAt R D d.v) (hl : RawAt R L l.v) (hb : D.length < 2 ^ 29) (hb2 : L.length < 2 ^ 29) :
    FunT Try.prog 98 [rpt, .sc (.sl 5 0 1 pk.length none)] (HR n d l mk f h R ++ [some (famB R), pkR pk]) (.tup []) [refS n (durS d D (keptL pk L) 6) nilS (mk.sv 3) f h, some (famB R), some (famB R), none, some (famB R), pkR pk, durB D (keptL pk L)] := by
  obtain ⟨la, ln, lc⟩ := l
  rcases hl with ⟨hv, rfl⟩ | ⟨hp0, b, off, cap, c, t', fr, pre, post, hv, hc, hR, hcs, hp⟩
  · injection hv with h1 h2 h3
    subst h1; subst h2; subst h3
    have hk : keptL pk [] = [] := by show pkL pk [] (min 0 pk.length) = []; rw [Nat.zero_min]; rfl
    rw [hk]
    exact rcrash_nil n d mk f h R pk
  · injection hv with h1 h2 h3
    subst h1; subst h2; subst h3
    have hX : FunT Try.prog 98 [rpt, .sc (.sl 5 0 1 pk.length none)] (logH n d mk f h R L ++ [pkR pk]) (.tup []) [refS n (durS d D (keptL pk L) 6) nilS (mk.sv 3) f h, some (famB R), some (famB R), none, rowE L, pkR pk, durB D (keptL pk L)] := rcrash_log n d mk f h R D L pk hd hb hb2
    generalize keptL pk L = O at *
    refine FunT.famS (h := logH n d mk f h R L ++ [pkR pk]) 4 hX rfl (by show 4 < 6; decide) hR hcs hp (by simpa using hc) (enc_ok L) (enc_ids L) (fun ρ => ?_) (TurnL.of rfl fun k hk hlt => ?_) (TurnL.of rfl fun k hk hlt => ?_) rfl rfl (fun ρ s _ => rfl) (fun h => by cases h)
    · simp [AV.dens, AV.den, SV.den, updR]
    · match k, hk, hlt with
      | 0, _, _ => exact .inr ⟨_, _, rfl, rfl, turn_ref (mk_sv3 mk)⟩
      | 1, _, _ => exact .inr ⟨_, _, rfl, rfl, .same fun x hx => by cases hx⟩
      | 2, _, _ => exact .inr ⟨_, _, rfl, rfl, .same fun x hx => by cases hx⟩
      | 3, _, _ => exact .inl ⟨rfl, rfl⟩
      | 4, h, _ => exact absurd rfl h
      | 5, _, _ => exact .inr ⟨_, _, rfl, rfl, .same fun x hx => by cases hx⟩
      | k + 6, _, h => exact absurd h (by show ¬ k + 6 < 6; omega)
    · match k, hk, hlt with
      | 0, _, _ =>
        refine .inr ⟨_, _, rfl, rfl, .same fun x hx => ?_⟩
        have hx : x ∈ Segs.ids (refGs n (durS d D O 6) nilS (mk.sv 3) f h) := hx
        rcases mk_sv3 mk with hm | ⟨m, hm⟩ <;> rw [hm] at hx <;> (cases hO : O with
          | nil => rw [hO] at hx; simp [durS, Segs.ids, Seg.ids, SV.ids] at hx <;> omega
          | cons p r => rw [hO] at hx; simp [durS, Segs.ids, Seg.ids, SV.ids] at hx <;> omega)
      | 1, _, _ => exact .inr ⟨_, _, rfl, rfl, .same fun x hx => by cases hx⟩
      | 2, _, _ => exact .inr ⟨_, _, rfl, rfl, .same fun x hx => by cases hx⟩
      | 3, _, _ => exact .inl ⟨rfl, rfl⟩
      | 4, h, _ => exact absurd rfl h
      | 5, _, _ => exact .inr ⟨_, _, rfl, rfl, .same fun x hx => by cases hx⟩
      | 6, _, _ =>
        cases O with
        | nil => exact .inl ⟨rfl, rfl⟩
        | cons p r => exact .inr ⟨_, _, rfl, rfl, .same fun x hx => by cases hx⟩
      | k + 7, _, h => exact absurd h (by show ¬ k + 7 < 7; omega)
/-- A crash without picks. -/
theorem rcrash_no (n : Int) (d l : Sl) (mk : Mk) (f h : Bool) (R : List (Nat × Obj)) (L : Img) (ad : Option Addr) (cp : Nat) (hl : RawAt R L l.v) :
    FunT Try.prog 98 [rpt, .sc (.raw (.slice ad 0 cp))] (HR n d l mk f h R ++ [some (famB R)]) (.tup []) [refS n (.raw d.v) nilS (mk.sv 3) f h, some (famB R), some (famB R), none, some (famB R)] := by
  obtain ⟨la, ln, lc⟩ := l
  rcases hl with ⟨hv, rfl⟩ | ⟨hp0, b, off, cap, c, t', fr, pre, post, hv, hc, hR, hcs, hp⟩
  · injection hv with h1 h2 h3
    subst h1; subst h2; subst h3
    exact rcrash_nil0 n d mk f h R ad cp
  · injection hv with h1 h2 h3
    subst h1; subst h2; subst h3
    refine FunT.famS (h := logH n d mk f h R L) 4 (rcrash_none n d mk f h R L ad cp) rfl (by show 4 < 5; decide) hR hcs hp (by simpa using hc) (enc_ok L) (enc_ids L) (fun ρ => ?_) (TurnL.of rfl fun k hk hlt => ?_) (TurnL.of rfl fun k hk hlt => ?_) rfl rfl (fun ρ s _ => rfl) (fun h => by cases h)
    · simp [AV.dens, AV.den, SV.den, updR]
    · match k, hk, hlt with
      | 0, _, _ => exact .inr ⟨_, _, rfl, rfl, turn_ref (mk_sv3 mk)⟩
      | 1, _, _ => exact .inr ⟨_, _, rfl, rfl, .same fun x hx => by cases hx⟩
      | 2, _, _ => exact .inr ⟨_, _, rfl, rfl, .same fun x hx => by cases hx⟩
      | 3, _, _ => exact .inl ⟨rfl, rfl⟩
      | 4, h, _ => exact absurd rfl h
      | k + 5, _, h => exact absurd h (by show ¬ k + 5 < 5; omega)
    · match k, hk, hlt with
      | 0, _, _ =>
        refine .inr ⟨_, _, rfl, rfl, .same fun x hx => ?_⟩
        have hx : x ∈ Segs.ids (refGs n (.raw d.v) nilS (mk.sv 3) f h) := hx
        rcases mk_sv3 mk with hm | ⟨m, hm⟩ <;> rw [hm] at hx <;> simp [Segs.ids, Seg.ids, SV.ids] at hx <;> omega
      | 1, _, _ => exact .inr ⟨_, _, rfl, rfl, .same fun x hx => by cases hx⟩
      | 2, _, _ => exact .inr ⟨_, _, rfl, rfl, .same fun x hx => by cases hx⟩
      | 3, _, _ => exact .inl ⟨rfl, rfl⟩
      | 4, h, _ => exact absurd rfl h
      | k + 5, _, h => exact absurd h (by show ¬ k + 5 < 5; omega)
end Go.Proofs.Ytdmcbfmpnakdfaa.Eng.Rm
