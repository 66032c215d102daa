/- Members in plain terms: what a map says is what a list says. -/
import Derived.Test.YtdmcbfmpnakdfaaZ3
import Derived.Test.YtdmcbfmpnakdfaaMr
import Derived.Test.YtdmcbfmpnakdfaaZ2
import Derived.Test.YtdmcbfmpnakdfaaZ4
import Derived.Test.YtdmcbfmpnakdfaaMg
import Derived.Test.YtdmcbfmpnakdfaaZ5
import Derived.Test.YtdmcbfmpnakdfaaMu
namespace Go.Proofs.Ytdmcbfmpnakdfaa.Eng.Rm
open Go Go.Proofs
theorem findE_app (A B : Img) (i : Int) : findE (A ++ B) i = if (findE B i).2 then findE B i else findE A i := by
  unfold findE
  rw [List.reverse_append, List.find?_append]
  cases h : B.reverse.find? (fun p => p.1 == i) with
  | none => simp
  | some p => simp
theorem findE_one (p : Int × List Nat) (i : Int) : findE [p] i = if p.1 = i then (p.2, true) else (zs 64, false) := by
  unfold findE
  by_cases h : p.1 = i
  · rw [if_pos h]; simp [h]
  · rw [if_neg h]; simp [h]
theorem findE_snoc (A : Img) (p : Int × List Nat) (i : Int) : findE (A ++ [p]) i = if p.1 = i then (p.2, true) else findE A i := by
  rw [findE_app, findE_one]
  by_cases h : p.1 = i
  · rw [if_pos h, if_pos h]; rfl
  · rw [if_neg h, if_neg h]; rfl
theorem seen_app (D L : Img) (i : Int) : seenE D L i = (findE (D ++ L) i).1 := by
  rw [findE_app]
  unfold seenE
  split <;> rfl
/-- A map that says what a list says. -/
def EqM (S A : Img) : Prop := NK S ∧ ∀ i, bysN 64 (getI S i) = bysN 64 (findE A i).1
theorem EqM_nil : EqM [] [] := ⟨List.nodup_nil, fun _ => rfl⟩
theorem EqM_put {S A : Img} (h : EqM S A) (i : Int) (s : List Nat) : EqM (putI S i s) (A ++ [(i, s)]) := by
  refine ⟨NK_putI h.1 i s, fun j => ?_⟩
  rw [findE_snoc]
  by_cases e : i = j
  · subst e
    rw [if_pos rfl]; exact get_put h.1 i s
  · rw [if_neg e, get_put_ne h.1 s e]; exact h.2 j
def kpL (keep : Nat → Bool) (L : Img) : Nat → Img
  | 0 => []
  | k + 1 => if keep k then kpL keep L k ++ (L.drop k).take 1 else kpL keep L k
theorem EqM_kept {S A : Img} (L : Img) (keep : Nat → Bool) (h : EqM S A) : ∀ k, k ≤ L.length → EqM (kept S L keep k) (A ++ kpL keep L k)
  | 0, _ => by
    show EqM S (A ++ [])
    rw [List.append_nil]; exact h
  | k + 1, hk => by
    have ih := EqM_kept L keep h k (by omega)
    rw [kept_succ (by omega)]
    show EqM _ (A ++ if keep k then _ else _)
    split
    · rw [drop1 (by omega), ← List.append_assoc]
      exact EqM_put ih _ _
    · exact ih
theorem pkL_kp (pk : List Int) (L : Img) : ∀ k, pkL pk L k = kpL (picked pk) L k
  | 0 => rfl
  | k + 1 => by
    show (if picked pk k then _ else _) = if picked pk k then _ else _
    rw [pkL_kp pk L k]
theorem kp_all (L : Img) : ∀ k, k ≤ L.length → kpL allPick L k = L.take k
  | 0, _ => rfl
  | k + 1, hk => by
    show kpL allPick L k ++ (L.drop k).take 1 = _
    rw [kp_all L k (by omega), drop1 (by omega), List.take_succ_eq_append_getElem (by omega)]
theorem kp_no (L : Img) : ∀ k, kpL noPick L k = []
  | 0 => rfl
  | k + 1 => kp_no L k
theorem keptL_eq (pk : List Int) (L : Img) : keptL pk L = kpL (picked pk) L L.length := by
  rw [← pkL_kp]
  by_cases h : L.length ≤ pk.length
  · show pkL pk L (min L.length pk.length) = _
    rw [Nat.min_eq_left h]
  · show pkL pk L (min L.length pk.length) = _
    rw [Nat.min_eq_right (by omega)]
    have := pkL_end pk L pk.length (L.length - pk.length) (Nat.le_refl _)
    rw [show pk.length + (L.length - pk.length) = L.length by omega] at this
    exact this.symm
theorem find_filter (l : Img) (i j : Int) : (l.filter (fun p => !(p.1 == i))).find? (fun p => p.1 == j) = if i = j then none else l.find? (fun p => p.1 == j) := by
  induction l with
  | nil => simp
  | cons p r ih =>
    by_cases h : p.1 = i
    · rw [List.filter_cons_of_neg (by simp [h]), ih]
      by_cases e : i = j
      · rw [if_pos e, if_pos e]
      · rw [if_neg e, if_neg e, List.find?_cons_of_neg (by simp [h, e])]
    · rw [List.filter_cons_of_pos (by simp [h])]
      by_cases e2 : p.1 = j
      · rw [List.find?_cons_of_pos (by simp [e2]), List.find?_cons_of_pos (by simp [e2]), if_neg (fun e => h (e2.trans e.symm))]
      · rw [List.find?_cons_of_neg (by simp [e2]), List.find?_cons_of_neg (by simp [e2]), ih]
theorem findE_del (L : Img) (i j : Int) : findE (delW i L) j = if i = j then (zs 64, false) else findE L j := by
  unfold findE delW
  rw [← List.filter_reverse, find_filter]
  by_cases e : i = j
  · rw [if_pos e, if_pos e]
  · rw [if_neg e, if_neg e]
theorem EqM_set {S D L : Img} (h : EqM S (D ++ L)) (i : Int) (s : List Nat) : EqM (putI S i s) ((D ++ [(i, s)]) ++ delW i L) := by
  have h1 := EqM_put h i s
  refine ⟨h1.1, fun j => ?_⟩
  rw [h1.2 j, findE_snoc, findE_app, findE_app, findE_del, findE_snoc]
  by_cases e : i = j
  · rw [if_pos e, if_pos e, if_pos e]; rfl
  · rw [if_neg e, if_neg e, if_neg e]
/-- A member and the document's, in plain terms; k bounds the lists. -/
structure Rel (M : Mem) (D : Img) (k : Nat) : Prop where
  n : 0 < M.n
  seen : EqM M.seen (D ++ M.log)
  dur : EqM M.dur D
  len : D.length + M.log.length ≤ k
theorem Rel.write {M : Mem} {D : Img} {k : Nat} (h : Rel M D k) (i : Int) (s : List Nat) : Rel (wrote M i s) D (k + 1) where
  n := h.n
  seen := by
    show EqM (putI M.seen i s) (D ++ (M.log ++ [(i, s)]))
    rw [← List.append_assoc]; exact EqM_put h.seen i s
  dur := h.dur
  len := by
    show D.length + (M.log ++ [(i, s)]).length ≤ k + 1
    have := h.len
    rw [List.length_append, List.length_singleton]; omega
theorem kp_len (keep : Nat → Bool) (L : Img) : ∀ k, k ≤ L.length → (kpL keep L k).length ≤ k
  | 0, _ => Nat.le_refl _
  | k + 1, hk => by
    have ih := kp_len keep L k (by omega)
    show (if keep k then _ else _ : Img).length ≤ _
    split
    · rw [List.length_append, List.length_take]; omega
    · omega
theorem Rel.crash {M : Mem} {D : Img} {k : Nat} (h : Rel M D k) (keep : Nat → Bool) : Rel (crashed M keep) (D ++ kpL keep M.log M.log.length) k where
  n := h.n
  seen := by
    show EqM (kept M.dur M.log keep M.log.length) ((D ++ kpL keep M.log M.log.length) ++ [])
    rw [List.append_nil]; exact EqM_kept _ _ h.dur _ (Nat.le_refl _)
  dur := EqM_kept _ _ h.dur _ (Nat.le_refl _)
  len := by
    show (D ++ kpL keep M.log M.log.length).length + 0 ≤ k
    have := h.len
    have := kp_len keep M.log M.log.length (Nat.le_refl _)
    rw [List.length_append]; omega
theorem Rel.set {M : Mem} {D : Img} {k : Nat} (h : Rel M D k) (i : Int) (s : List Nat) : Rel (setM M i s) (D ++ [(i, s)]) (k + 1) where
  n := h.n
  seen := EqM_set h.seen i s
  dur := EqM_put h.dur i s
  len := by
    show (D ++ [(i, s)]).length + (delW i M.log).length ≤ k + 1
    have := h.len
    have : (delW i M.log).length ≤ M.log.length := List.length_filter_le _ _
    rw [List.length_append, List.length_singleton]; omega
end Go.Proofs.Ytdmcbfmpnakdfaa.Eng.Rm
/- The document's member: made, copied. -/
namespace Go.Proofs.Ytdmcbfmpnakdfaa.Eng.Rm
open Go Go.Proofs
set_option maxRecDepth 20000
set_option maxHeartbeats 8000000
abbrev nilSl : Sl := ⟨none, 0, 0⟩
theorem made_ok (n : Int) : FunT Try.prog 40 [iv n] [] rpt [refS n nilS nilS nilS false false] := by
  refine FunT.ev tabOk mixed Try.func40 rfl ?_
  conv => whnf
  repeat (first | (refine ⟨(by kernel_rfl : chkR _ _ _ _ = true), ?_⟩; conv => whnf) | (refine EvOr.go ?_; conv => whnf))
  exact retQ.one rfl (.inr rfl) rfl (Nat.le_of_ble_eq_true rfl) rfl
theorem rcopy_ok (n : Int) (d l : Sl) (mk : Mk) (f h : Bool) : FunT Try.prog 45 [rpt] [refG n d l mk f h, none, none, none] (.sc (.ptr 4 0 6 0)) [refG n d l mk f h, none, none, none, refG n d l mk f h] := by
  cases mk <;>
  · refine FunT.ev tabOk mixed Try.func45 rfl ?_
    conv => whnf
    repeat (first | (refine ⟨(by kernel_rfl : chkR _ _ _ _ = true), ?_⟩; conv => whnf) | (refine EvOr.go ?_; conv => whnf))
    exact retQ.one rfl (.inr rfl) rfl (Nat.le_of_ble_eq_true rfl) rfl
end Go.Proofs.Ytdmcbfmpnakdfaa.Eng.Rm
/- A member and the document's, looked at. -/
namespace Go.Proofs.Ytdmcbfmpnakdfaa.Eng.Rm
open Go Go.Proofs
set_option maxRecDepth 20000
set_option maxHeartbeats 8000000
/-- A list: frozen, or in a row. -/
def hS (A : Img) (x : Option Sl) (id : Nat) : SV := match x with
  | some s => .raw s.v
  | none => .sl id 0 65 A.length none
def hB (A : Img) (x : Option Sl) : Option ABlk := match x with
  | some _ => none
  | none => rowN A
def hOk (R : List (Nat × Obj)) (A : Img) (x : Option Sl) : Prop := match x with
  | some s => RawAt R A s.v
  | none => 0 < A.length
abbrev HX (n : Int) (D L : Img) (dh lh : Option Sl) (mk : Mk) (f h : Bool) (R : List (Nat × Obj)) : LHp := [refS n (hS D dh 4) (hS L lh 5) (mk.sv 3) f h, some (famB R), some (famB R), none, hB D dh, hB L lh]
theorem xmay_ok (n : Int) (D L : Img) (dh lh : Option Sl) (mk : Mk) (f h : Bool) (i : Int) : FunT Try.prog 126 [rpt, iv i] [refS n (hS D dh 4) (hS L lh 5) (mk.sv 3) f h, none, none, none, none, none] (bv (mayB n i)) [refS n (hS D dh 4) (hS L lh 5) (mk.sv 3) f h, none, none, none, none, none] := by
  unfold mayB
  cases mk <;> cases dh <;> cases lh <;>
  · by_cases h1 : 0 ≤ i
    · by_cases h2 : i < n
      · rw [show decide (0 ≤ i ∧ i < n) = true from decide_eq_true ⟨h1, h2⟩]
        refine FunT.ev tabOk mixed Try.func126 rfl ?_
        conv => whnf
        repeat (first | (refine ⟨(by kernel_rfl : chkR _ _ _ _ = true), ?_⟩; conv => whnf) | (refine EvOr.go ?_; conv => whnf))
        intro c hc
        obtain rfl : c = true := by rw [hc]; exact decide_eq_true (by omega)
        conv => whnf
        repeat (first | (refine ⟨(by kernel_rfl : chkR _ _ _ _ = true), ?_⟩; conv => whnf) | (refine EvOr.go ?_; conv => whnf))
        intro c hc
        obtain rfl : c = true := by rw [hc]; exact decide_eq_true (by omega)
        conv => whnf
        repeat (first | (refine ⟨(by kernel_rfl : chkR _ _ _ _ = true), ?_⟩; conv => whnf) | (refine EvOr.go ?_; conv => whnf))
        exact retQ.one rfl (.inr rfl) rfl (Nat.le_of_ble_eq_true rfl) rfl
      · rw [show decide (0 ≤ i ∧ i < n) = false from decide_eq_false (by omega)]
        refine FunT.ev tabOk mixed Try.func126 rfl ?_
        conv => whnf
        repeat (first | (refine ⟨(by kernel_rfl : chkR _ _ _ _ = true), ?_⟩; conv => whnf) | (refine EvOr.go ?_; conv => whnf))
        intro c hc
        obtain rfl : c = true := by rw [hc]; exact decide_eq_true (by omega)
        conv => whnf
        repeat (first | (refine ⟨(by kernel_rfl : chkR _ _ _ _ = true), ?_⟩; conv => whnf) | (refine EvOr.go ?_; conv => whnf))
        intro c hc
        obtain rfl : c = false := by rw [hc]; exact decide_eq_false (by omega)
        conv => whnf
        repeat (first | (refine ⟨(by kernel_rfl : chkR _ _ _ _ = true), ?_⟩; conv => whnf) | (refine EvOr.go ?_; conv => whnf))
        exact retQ.one rfl (.inr rfl) rfl (Nat.le_of_ble_eq_true rfl) rfl
    · rw [show decide (0 ≤ i ∧ i < n) = false from decide_eq_false (by omega)]
      refine FunT.ev tabOk mixed Try.func126 rfl ?_
      conv => whnf
      repeat (first | (refine ⟨(by kernel_rfl : chkR _ _ _ _ = true), ?_⟩; conv => whnf) | (refine EvOr.go ?_; conv => whnf))
      intro c hc
      obtain rfl : c = false := by rw [hc]; exact decide_eq_false (by omega)
      conv => whnf
      repeat (first | (refine ⟨(by kernel_rfl : chkR _ _ _ _ = true), ?_⟩; conv => whnf) | (refine EvOr.go ?_; conv => whnf))
      exact retQ.one rfl (.inr rfl) rfl (Nat.le_of_ble_eq_true rfl) rfl
theorem xseenrr (n : Int) (D L : Img) (d l : Sl) (mk : Mk) (f h : Bool) (R : List (Nat × Obj)) (i : Int) (hd : hOk R D (some d)) (hl : hOk R L (some l)) (hb : D.length < 2 ^ 30) (hb2 : L.length < 2 ^ 30) :
    FunT Try.prog 128 [rpt, iv i] (HX n D L (some d) (some l) mk f h R) (secV (seenE D L i)) (HX n D L (some d) (some l) mk f h R) := by
  have g1 := find_raw hl i (by omega)
  have g2 := find_raw hd i (by omega)
  unfold seenE
  cases mk <;>
  · cases hq : (findE L i).2 with
    | true =>
      rw [hq] at g1
      rw [if_pos rfl]
      generalize (findE L i).1 = s1 at *
      refine FunT.ev tabOk mixed Try.func128 rfl ?_
      conv => whnf
      repeat (first | (refine ⟨(by kernel_rfl : chkR _ _ _ _ = true), ?_⟩; conv => whnf) | (refine EvOr.go ?_; conv => whnf))
      refine CallG.use g1 c129 [1] [] ?_ ?_ ?_ ?_ ?_ ?_; rfl; rfl; kernel_rfl; rfl; rfl
      conv => whnf
      repeat (first | (refine ⟨(by kernel_rfl : chkR _ _ _ _ = true), ?_⟩; conv => whnf) | (refine EvOr.go ?_; conv => whnf))
      exact retQ.all tabOk _ [secV s1] rfl (by first | exact .inr rfl | exact .inl rfl) (by repeat' (first | exact trivial | rfl | (intro h; cases h; done) | (refine ⟨?_, ?_⟩))) rfl (by rfl) (Nat.le_of_ble_eq_true rfl) (by rfl)
    | false =>
      rw [hq] at g1
      rw [if_neg (by decide)]
      generalize (findE L i).1 = s1 at *
      generalize (findE D i).1 = s2 at *
      generalize (findE D i).2 = b2 at *
      refine FunT.ev tabOk mixed Try.func128 rfl ?_
      conv => whnf
      repeat (first | (refine ⟨(by kernel_rfl : chkR _ _ _ _ = true), ?_⟩; conv => whnf) | (refine EvOr.go ?_; conv => whnf))
      refine CallG.use g1 c129 [1] [] ?_ ?_ ?_ ?_ ?_ ?_; rfl; rfl; kernel_rfl; rfl; rfl
      conv => whnf
      repeat (first | (refine ⟨(by kernel_rfl : chkR _ _ _ _ = true), ?_⟩; conv => whnf) | (refine EvOr.go ?_; conv => whnf))
      refine CallG.use g2 c129 [1] [] ?_ ?_ ?_ ?_ ?_ ?_; rfl; rfl; kernel_rfl; rfl; rfl
      conv => whnf
      repeat (first | (refine ⟨(by kernel_rfl : chkR _ _ _ _ = true), ?_⟩; conv => whnf) | (refine EvOr.go ?_; conv => whnf))
      exact retQ.all tabOk _ [secV s2] rfl (by first | exact .inr rfl | exact .inl rfl) (by repeat' (first | exact trivial | rfl | (intro h; cases h; done) | (refine ⟨?_, ?_⟩))) rfl (by rfl) (Nat.le_of_ble_eq_true rfl) (by rfl)
theorem xlookrr (n : Int) (D L : Img) (d l : Sl) (mk : Mk) (f h : Bool) (R : List (Nat × Obj)) (i : Int) (hd : hOk R D (some d)) (hb : D.length < 2 ^ 30) :
    FunT Try.prog 104 [rpt, iv i] (HX n D L (some d) (some l) mk f h R) (.tup [secV (if mayB n i then (findE D i).1 else zs 64), iv (if mayB n i then 0 else 2)]) (HX n D L (some d) (some l) mk f h R) := by
  have g0 := xmay_ok n D L (some d) (some l) mk f h i
  have g1 := find_raw hd i (by omega)
  generalize (findE D i).1 = s at *
  generalize (findE D i).2 = b at *
  cases mk <;>
  · cases hm : mayB n i with
    | false =>
      rw [hm] at g0
      refine FunT.ev tabOk mixed Try.func104 rfl ?_
      conv => whnf
      repeat (first | (refine ⟨(by kernel_rfl : chkR _ _ _ _ = true), ?_⟩; conv => whnf) | (refine EvOr.go ?_; conv => whnf))
      refine CallG.use g0 c126 [0, 1, 2, 3, 4, 5] [] ?_ ?_ ?_ ?_ ?_ ?_; rfl; rfl; kernel_rfl; rfl; rfl
      conv => whnf
      repeat (first | (refine ⟨(by kernel_rfl : chkR _ _ _ _ = true), ?_⟩; conv => whnf) | (refine EvOr.go ?_; conv => whnf))
      exact retQ.all tabOk _ [secV (zs 64), iv 2] rfl (by first | exact .inr rfl | exact .inl rfl) (by repeat' (first | exact trivial | rfl | (intro h; cases h; done) | (refine ⟨?_, ?_⟩))) rfl (by rfl) (Nat.le_of_ble_eq_true rfl) (by rfl)
    | true =>
      rw [hm] at g0
      refine FunT.ev tabOk mixed Try.func104 rfl ?_
      conv => whnf
      repeat (first | (refine ⟨(by kernel_rfl : chkR _ _ _ _ = true), ?_⟩; conv => whnf) | (refine EvOr.go ?_; conv => whnf))
      refine CallG.use g0 c126 [0, 1, 2, 3, 4, 5] [] ?_ ?_ ?_ ?_ ?_ ?_; rfl; rfl; kernel_rfl; rfl; rfl
      conv => whnf
      repeat (first | (refine ⟨(by kernel_rfl : chkR _ _ _ _ = true), ?_⟩; conv => whnf) | (refine EvOr.go ?_; conv => whnf))
      refine CallG.use g1 c129 [1] [] ?_ ?_ ?_ ?_ ?_ ?_; rfl; rfl; kernel_rfl; rfl; rfl
      conv => whnf
      repeat (first | (refine ⟨(by kernel_rfl : chkR _ _ _ _ = true), ?_⟩; conv => whnf) | (refine EvOr.go ?_; conv => whnf))
      exact retQ.all tabOk _ [secV s, iv 0] rfl (by first | exact .inr rfl | exact .inl rfl) (by repeat' (first | exact trivial | rfl | (intro h; cases h; done) | (refine ⟨?_, ?_⟩))) rfl (by rfl) (Nat.le_of_ble_eq_true rfl) (by rfl)
theorem xseenrw (n : Int) (D L : Img) (d l : Sl) (mk : Mk) (f h : Bool) (R : List (Nat × Obj)) (i : Int) (hd : hOk R D (some d)) (hl : hOk R L none) (hb : D.length < 2 ^ 30) (hb2 : L.length < 2 ^ 30) :
    FunT Try.prog 128 [rpt, iv i] (HX n D L (some d) none mk f h R) (secV (seenE D L i)) (HX n D L (some d) none mk f h R) := by
  have g1 := find_row L i (by omega)
  have g2 := find_raw hd i (by omega)
  unfold seenE
  cases mk <;>
  · cases hq : (findE L i).2 with
    | true =>
      rw [hq] at g1
      rw [if_pos rfl]
      generalize (findE L i).1 = s1 at *
      refine FunT.ev tabOk mixed Try.func128 rfl ?_
      conv => whnf
      repeat (first | (refine ⟨(by kernel_rfl : chkR _ _ _ _ = true), ?_⟩; conv => whnf) | (refine EvOr.go ?_; conv => whnf))
      refine CallG.use g1 c129 [5] [] ?_ ?_ ?_ ?_ ?_ ?_; rfl; rfl; kernel_rfl; rfl; rfl
      conv => whnf
      repeat (first | (refine ⟨(by kernel_rfl : chkR _ _ _ _ = true), ?_⟩; conv => whnf) | (refine EvOr.go ?_; conv => whnf))
      exact retQ.all tabOk _ [secV s1] rfl (by first | exact .inr rfl | exact .inl rfl) (by repeat' (first | exact trivial | rfl | (intro h; cases h; done) | (refine ⟨?_, ?_⟩))) rfl (by rfl) (Nat.le_of_ble_eq_true rfl) (by rfl)
    | false =>
      rw [hq] at g1
      rw [if_neg (by decide)]
      generalize (findE L i).1 = s1 at *
      generalize (findE D i).1 = s2 at *
      generalize (findE D i).2 = b2 at *
      refine FunT.ev tabOk mixed Try.func128 rfl ?_
      conv => whnf
      repeat (first | (refine ⟨(by kernel_rfl : chkR _ _ _ _ = true), ?_⟩; conv => whnf) | (refine EvOr.go ?_; conv => whnf))
      refine CallG.use g1 c129 [5] [] ?_ ?_ ?_ ?_ ?_ ?_; rfl; rfl; kernel_rfl; rfl; rfl
      conv => whnf
      repeat (first | (refine ⟨(by kernel_rfl : chkR _ _ _ _ = true), ?_⟩; conv => whnf) | (refine EvOr.go ?_; conv => whnf))
      refine CallG.use g2 c129 [1] [] ?_ ?_ ?_ ?_ ?_ ?_; rfl; rfl; kernel_rfl; rfl; rfl
      conv => whnf
      repeat (first | (refine ⟨(by kernel_rfl : chkR _ _ _ _ = true), ?_⟩; conv => whnf) | (refine EvOr.go ?_; conv => whnf))
      exact retQ.all tabOk _ [secV s2] rfl (by first | exact .inr rfl | exact .inl rfl) (by repeat' (first | exact trivial | rfl | (intro h; cases h; done) | (refine ⟨?_, ?_⟩))) rfl (by rfl) (Nat.le_of_ble_eq_true rfl) (by rfl)
theorem xlookrw (n : Int) (D L : Img) (d l : Sl) (mk : Mk) (f h : Bool) (R : List (Nat × Obj)) (i : Int) (hd : hOk R D (some d)) (hb : D.length < 2 ^ 30) :
    FunT Try.prog 104 [rpt, iv i] (HX n D L (some d) none mk f h R) (.tup [secV (if mayB n i then (findE D i).1 else zs 64), iv (if mayB n i then 0 else 2)]) (HX n D L (some d) none mk f h R) := by
  have g0 := xmay_ok n D L (some d) none mk f h i
  have g1 := find_raw hd i (by omega)
  generalize (findE D i).1 = s at *
  generalize (findE D i).2 = b at *
  cases mk <;>
  · cases hm : mayB n i with
    | false =>
      rw [hm] at g0
      refine FunT.ev tabOk mixed Try.func104 rfl ?_
      conv => whnf
      repeat (first | (refine ⟨(by kernel_rfl : chkR _ _ _ _ = true), ?_⟩; conv => whnf) | (refine EvOr.go ?_; conv => whnf))
      refine CallG.use g0 c126 [0, 1, 2, 3, 4, 5] [] ?_ ?_ ?_ ?_ ?_ ?_; rfl; rfl; kernel_rfl; rfl; rfl
      conv => whnf
      repeat (first | (refine ⟨(by kernel_rfl : chkR _ _ _ _ = true), ?_⟩; conv => whnf) | (refine EvOr.go ?_; conv => whnf))
      exact retQ.all tabOk _ [secV (zs 64), iv 2] rfl (by first | exact .inr rfl | exact .inl rfl) (by repeat' (first | exact trivial | rfl | (intro h; cases h; done) | (refine ⟨?_, ?_⟩))) rfl (by rfl) (Nat.le_of_ble_eq_true rfl) (by rfl)
    | true =>
      rw [hm] at g0
      refine FunT.ev tabOk mixed Try.func104 rfl ?_
      conv => whnf
      repeat (first | (refine ⟨(by kernel_rfl : chkR _ _ _ _ = true), ?_⟩; conv => whnf) | (refine EvOr.go ?_; conv => whnf))
      refine CallG.use g0 c126 [0, 1, 2, 3, 4, 5] [] ?_ ?_ ?_ ?_ ?_ ?_; rfl; rfl; kernel_rfl; rfl; rfl
      conv => whnf
      repeat (first | (refine ⟨(by kernel_rfl : chkR _ _ _ _ = true), ?_⟩; conv => whnf) | (refine EvOr.go ?_; conv => whnf))
      refine CallG.use g1 c129 [1] [] ?_ ?_ ?_ ?_ ?_ ?_; rfl; rfl; kernel_rfl; rfl; rfl
      conv => whnf
      repeat (first | (refine ⟨(by kernel_rfl : chkR _ _ _ _ = true), ?_⟩; conv => whnf) | (refine EvOr.go ?_; conv => whnf))
      exact retQ.all tabOk _ [secV s, iv 0] rfl (by first | exact .inr rfl | exact .inl rfl) (by repeat' (first | exact trivial | rfl | (intro h; cases h; done) | (refine ⟨?_, ?_⟩))) rfl (by rfl) (Nat.le_of_ble_eq_true rfl) (by rfl)
theorem xseenwr (n : Int) (D L : Img) (d l : Sl) (mk : Mk) (f h : Bool) (R : List (Nat × Obj)) (i : Int) (hd : hOk R D none) (hl : hOk R L (some l)) (hb : D.length < 2 ^ 30) (hb2 : L.length < 2 ^ 30) :
    FunT Try.prog 128 [rpt, iv i] (HX n D L none (some l) mk f h R) (secV (seenE D L i)) (HX n D L none (some l) mk f h R) := by
  have g1 := find_raw hl i (by omega)
  have g2 := find_row D i (by omega)
  unfold seenE
  cases mk <;>
  · cases hq : (findE L i).2 with
    | true =>
      rw [hq] at g1
      rw [if_pos rfl]
      generalize (findE L i).1 = s1 at *
      refine FunT.ev tabOk mixed Try.func128 rfl ?_
      conv => whnf
      repeat (first | (refine ⟨(by kernel_rfl : chkR _ _ _ _ = true), ?_⟩; conv => whnf) | (refine EvOr.go ?_; conv => whnf))
      refine CallG.use g1 c129 [1] [] ?_ ?_ ?_ ?_ ?_ ?_; rfl; rfl; kernel_rfl; rfl; rfl
      conv => whnf
      repeat (first | (refine ⟨(by kernel_rfl : chkR _ _ _ _ = true), ?_⟩; conv => whnf) | (refine EvOr.go ?_; conv => whnf))
      exact retQ.all tabOk _ [secV s1] rfl (by first | exact .inr rfl | exact .inl rfl) (by repeat' (first | exact trivial | rfl | (intro h; cases h; done) | (refine ⟨?_, ?_⟩))) rfl (by rfl) (Nat.le_of_ble_eq_true rfl) (by rfl)
    | false =>
      rw [hq] at g1
      rw [if_neg (by decide)]
      generalize (findE L i).1 = s1 at *
      generalize (findE D i).1 = s2 at *
      generalize (findE D i).2 = b2 at *
      refine FunT.ev tabOk mixed Try.func128 rfl ?_
      conv => whnf
      repeat (first | (refine ⟨(by kernel_rfl : chkR _ _ _ _ = true), ?_⟩; conv => whnf) | (refine EvOr.go ?_; conv => whnf))
      refine CallG.use g1 c129 [1] [] ?_ ?_ ?_ ?_ ?_ ?_; rfl; rfl; kernel_rfl; rfl; rfl
      conv => whnf
      repeat (first | (refine ⟨(by kernel_rfl : chkR _ _ _ _ = true), ?_⟩; conv => whnf) | (refine EvOr.go ?_; conv => whnf))
      refine CallG.use g2 c129 [4] [] ?_ ?_ ?_ ?_ ?_ ?_; rfl; rfl; kernel_rfl; rfl; rfl
      conv => whnf
      repeat (first | (refine ⟨(by kernel_rfl : chkR _ _ _ _ = true), ?_⟩; conv => whnf) | (refine EvOr.go ?_; conv => whnf))
      exact retQ.all tabOk _ [secV s2] rfl (by first | exact .inr rfl | exact .inl rfl) (by repeat' (first | exact trivial | rfl | (intro h; cases h; done) | (refine ⟨?_, ?_⟩))) rfl (by rfl) (Nat.le_of_ble_eq_true rfl) (by rfl)
theorem xlookwr (n : Int) (D L : Img) (d l : Sl) (mk : Mk) (f h : Bool) (R : List (Nat × Obj)) (i : Int) (hd : hOk R D none) (hb : D.length < 2 ^ 30) :
    FunT Try.prog 104 [rpt, iv i] (HX n D L none (some l) mk f h R) (.tup [secV (if mayB n i then (findE D i).1 else zs 64), iv (if mayB n i then 0 else 2)]) (HX n D L none (some l) mk f h R) := by
  have g0 := xmay_ok n D L none (some l) mk f h i
  have g1 := find_row D i (by omega)
  generalize (findE D i).1 = s at *
  generalize (findE D i).2 = b at *
  cases mk <;>
  · cases hm : mayB n i with
    | false =>
      rw [hm] at g0
      refine FunT.ev tabOk mixed Try.func104 rfl ?_
      conv => whnf
      repeat (first | (refine ⟨(by kernel_rfl : chkR _ _ _ _ = true), ?_⟩; conv => whnf) | (refine EvOr.go ?_; conv => whnf))
      refine CallG.use g0 c126 [0, 1, 2, 3, 4, 5] [] ?_ ?_ ?_ ?_ ?_ ?_; rfl; rfl; kernel_rfl; rfl; rfl
      conv => whnf
      repeat (first | (refine ⟨(by kernel_rfl : chkR _ _ _ _ = true), ?_⟩; conv => whnf) | (refine EvOr.go ?_; conv => whnf))
      exact retQ.all tabOk _ [secV (zs 64), iv 2] rfl (by first | exact .inr rfl | exact .inl rfl) (by repeat' (first | exact trivial | rfl | (intro h; cases h; done) | (refine ⟨?_, ?_⟩))) rfl (by rfl) (Nat.le_of_ble_eq_true rfl) (by rfl)
    | true =>
      rw [hm] at g0
      refine FunT.ev tabOk mixed Try.func104 rfl ?_
      conv => whnf
      repeat (first | (refine ⟨(by kernel_rfl : chkR _ _ _ _ = true), ?_⟩; conv => whnf) | (refine EvOr.go ?_; conv => whnf))
      refine CallG.use g0 c126 [0, 1, 2, 3, 4, 5] [] ?_ ?_ ?_ ?_ ?_ ?_; rfl; rfl; kernel_rfl; rfl; rfl
      conv => whnf
      repeat (first | (refine ⟨(by kernel_rfl : chkR _ _ _ _ = true), ?_⟩; conv => whnf) | (refine EvOr.go ?_; conv => whnf))
      refine CallG.use g1 c129 [4] [] ?_ ?_ ?_ ?_ ?_ ?_; rfl; rfl; kernel_rfl; rfl; rfl
      conv => whnf
      repeat (first | (refine ⟨(by kernel_rfl : chkR _ _ _ _ = true), ?_⟩; conv => whnf) | (refine EvOr.go ?_; conv => whnf))
      exact retQ.all tabOk _ [secV s, iv 0] rfl (by first | exact .inr rfl | exact .inl rfl) (by repeat' (first | exact trivial | rfl | (intro h; cases h; done) | (refine ⟨?_, ?_⟩))) rfl (by rfl) (Nat.le_of_ble_eq_true rfl) (by rfl)
theorem xseenww (n : Int) (D L : Img) (d l : Sl) (mk : Mk) (f h : Bool) (R : List (Nat × Obj)) (i : Int) (hd : hOk R D none) (hl : hOk R L none) (hb : D.length < 2 ^ 30) (hb2 : L.length < 2 ^ 30) :
    FunT Try.prog 128 [rpt, iv i] (HX n D L none none mk f h R) (secV (seenE D L i)) (HX n D L none none mk f h R) := by
  have g1 := find_row L i (by omega)
  have g2 := find_row D i (by omega)
  unfold seenE
  cases mk <;>
  · cases hq : (findE L i).2 with
    | true =>
      rw [hq] at g1
      rw [if_pos rfl]
      generalize (findE L i).1 = s1 at *
      refine FunT.ev tabOk mixed Try.func128 rfl ?_
      conv => whnf
      repeat (first | (refine ⟨(by kernel_rfl : chkR _ _ _ _ = true), ?_⟩; conv => whnf) | (refine EvOr.go ?_; conv => whnf))
      refine CallG.use g1 c129 [5] [] ?_ ?_ ?_ ?_ ?_ ?_; rfl; rfl; kernel_rfl; rfl; rfl
      conv => whnf
      repeat (first | (refine ⟨(by kernel_rfl : chkR _ _ _ _ = true), ?_⟩; conv => whnf) | (refine EvOr.go ?_; conv => whnf))
      exact retQ.all tabOk _ [secV s1] rfl (by first | exact .inr rfl | exact .inl rfl) (by repeat' (first | exact trivial | rfl | (intro h; cases h; done) | (refine ⟨?_, ?_⟩))) rfl (by rfl) (Nat.le_of_ble_eq_true rfl) (by rfl)
    | false =>
      rw [hq] at g1
      rw [if_neg (by decide)]
      generalize (findE L i).1 = s1 at *
      generalize (findE D i).1 = s2 at *
      generalize (findE D i).2 = b2 at *
      refine FunT.ev tabOk mixed Try.func128 rfl ?_
      conv => whnf
      repeat (first | (refine ⟨(by kernel_rfl : chkR _ _ _ _ = true), ?_⟩; conv => whnf) | (refine EvOr.go ?_; conv => whnf))
      refine CallG.use g1 c129 [5] [] ?_ ?_ ?_ ?_ ?_ ?_; rfl; rfl; kernel_rfl; rfl; rfl
      conv => whnf
      repeat (first | (refine ⟨(by kernel_rfl : chkR _ _ _ _ = true), ?_⟩; conv => whnf) | (refine EvOr.go ?_; conv => whnf))
      refine CallG.use g2 c129 [4] [] ?_ ?_ ?_ ?_ ?_ ?_; rfl; rfl; kernel_rfl; rfl; rfl
      conv => whnf
      repeat (first | (refine ⟨(by kernel_rfl : chkR _ _ _ _ = true), ?_⟩; conv => whnf) | (refine EvOr.go ?_; conv => whnf))
      exact retQ.all tabOk _ [secV s2] rfl (by first | exact .inr rfl | exact .inl rfl) (by repeat' (first | exact trivial | rfl | (intro h; cases h; done) | (refine ⟨?_, ?_⟩))) rfl (by rfl) (Nat.le_of_ble_eq_true rfl) (by rfl)
theorem xlookww (n : Int) (D L : Img) (d l : Sl) (mk : Mk) (f h : Bool) (R : List (Nat × Obj)) (i : Int) (hd : hOk R D none) (hb : D.length < 2 ^ 30) :
    FunT Try.prog 104 [rpt, iv i] (HX n D L none none mk f h R) (.tup [secV (if mayB n i then (findE D i).1 else zs 64), iv (if mayB n i then 0 else 2)]) (HX n D L none none mk f h R) := by
  have g0 := xmay_ok n D L none none mk f h i
  have g1 := find_row D i (by omega)
  generalize (findE D i).1 = s at *
  generalize (findE D i).2 = b at *
  cases mk <;>
  · cases hm : mayB n i with
    | false =>
      rw [hm] at g0
      refine FunT.ev tabOk mixed Try.func104 rfl ?_
      conv => whnf
      repeat (first | (refine ⟨(by kernel_rfl : chkR _ _ _ _ = true), ?_⟩; conv => whnf) | (refine EvOr.go ?_; conv => whnf))
      refine CallG.use g0 c126 [0, 1, 2, 3, 4, 5] [] ?_ ?_ ?_ ?_ ?_ ?_; rfl; rfl; kernel_rfl; rfl; rfl
      conv => whnf
      repeat (first | (refine ⟨(by kernel_rfl : chkR _ _ _ _ = true), ?_⟩; conv => whnf) | (refine EvOr.go ?_; conv => whnf))
      exact retQ.all tabOk _ [secV (zs 64), iv 2] rfl (by first | exact .inr rfl | exact .inl rfl) (by repeat' (first | exact trivial | rfl | (intro h; cases h; done) | (refine ⟨?_, ?_⟩))) rfl (by rfl) (Nat.le_of_ble_eq_true rfl) (by rfl)
    | true =>
      rw [hm] at g0
      refine FunT.ev tabOk mixed Try.func104 rfl ?_
      conv => whnf
      repeat (first | (refine ⟨(by kernel_rfl : chkR _ _ _ _ = true), ?_⟩; conv => whnf) | (refine EvOr.go ?_; conv => whnf))
      refine CallG.use g0 c126 [0, 1, 2, 3, 4, 5] [] ?_ ?_ ?_ ?_ ?_ ?_; rfl; rfl; kernel_rfl; rfl; rfl
      conv => whnf
      repeat (first | (refine ⟨(by kernel_rfl : chkR _ _ _ _ = true), ?_⟩; conv => whnf) | (refine EvOr.go ?_; conv => whnf))
      refine CallG.use g1 c129 [4] [] ?_ ?_ ?_ ?_ ?_ ?_; rfl; rfl; kernel_rfl; rfl; rfl
      conv => whnf
      repeat (first | (refine ⟨(by kernel_rfl : chkR _ _ _ _ = true), ?_⟩; conv => whnf) | (refine EvOr.go ?_; conv => whnf))
      exact retQ.all tabOk _ [secV s, iv 0] rfl (by first | exact .inr rfl | exact .inl rfl) (by repeat' (first | exact trivial | rfl | (intro h; cases h; done) | (refine ⟨?_, ?_⟩))) rfl (by rfl) (Nat.le_of_ble_eq_true rfl) (by rfl)
theorem xseen_ok (n : Int) (D L : Img) (dh lh : Option Sl) (mk : Mk) (f h : Bool) (R : List (Nat × Obj)) (i : Int) (hd : hOk R D dh) (hl : hOk R L lh) (hb : D.length < 2 ^ 30) (hb2 : L.length < 2 ^ 30) :
    FunT Try.prog 128 [rpt, iv i] (HX n D L dh lh mk f h R) (secV (seenE D L i)) (HX n D L dh lh mk f h R) := by
  cases dh with
  | none => cases lh with
    | none => exact xseenww n D L nilSl nilSl mk f h R i hd hl hb hb2
    | some l => exact xseenwr n D L nilSl l mk f h R i hd hl hb hb2
  | some d => cases lh with
    | none => exact xseenrw n D L d nilSl mk f h R i hd hl hb hb2
    | some l => exact xseenrr n D L d l mk f h R i hd hl hb hb2
theorem xlook_ok (n : Int) (D L : Img) (dh lh : Option Sl) (mk : Mk) (f h : Bool) (R : List (Nat × Obj)) (i : Int) (hd : hOk R D dh) (hb : D.length < 2 ^ 30) :
    FunT Try.prog 104 [rpt, iv i] (HX n D L dh lh mk f h R) (.tup [secV (if mayB n i then (findE D i).1 else zs 64), iv (if mayB n i then 0 else 2)]) (HX n D L dh lh mk f h R) := by
  cases dh with
  | none => cases lh with
    | none => exact xlookww n D L nilSl nilSl mk f h R i hd hb
    | some l => exact xlookwr n D L nilSl l mk f h R i hd hb
  | some d => cases lh with
    | none => exact xlookrw n D L d nilSl mk f h R i hd hb
    | some l => exact xlookrr n D L d l mk f h R i hd hb
theorem xread_ok (n : Int) (D L : Img) (dh lh : Option Sl) (mk : Mk) (f h : Bool) (R : List (Nat × Obj)) (i : Int) (hd : hOk R D dh) (hl : hOk R L lh) (hb : D.length < 2 ^ 30) (hb2 : L.length < 2 ^ 30) :
    FunT Try.prog 103 [rpt, iv i] (HX n D L dh lh mk f h R) (.tup [secV (if ioR n f i = 0 then seenE D L i else zs 64), iv (ioR n f i)]) (HX n D L dh lh mk f h R) := by
  have g0 := xmay_ok n D L dh lh mk f h i
  have g1 := xseen_ok n D L dh lh mk f h R i hd hl hb hb2
  unfold ioR
  generalize seenE D L i = s at *
  cases mk <;> cases dh <;> cases lh <;>
  · cases hm : mayB n i with
    | false =>
      rw [hm] at g0
      refine FunT.ev tabOk mixed Try.func103 rfl ?_
      conv => whnf
      repeat (first | (refine ⟨(by kernel_rfl : chkR _ _ _ _ = true), ?_⟩; conv => whnf) | (refine EvOr.go ?_; conv => whnf))
      refine CallG.use g0 c126 [0, 1, 2, 3, 4, 5] [] ?_ ?_ ?_ ?_ ?_ ?_; rfl; rfl; kernel_rfl; rfl; rfl
      conv => whnf
      repeat (first | (refine ⟨(by kernel_rfl : chkR _ _ _ _ = true), ?_⟩; conv => whnf) | (refine EvOr.go ?_; conv => whnf))
      exact retQ.all tabOk _ [secV (zs 64), iv 2] rfl (by first | exact .inr rfl | exact .inl rfl) (by repeat' (first | exact trivial | rfl | (intro h; cases h; done) | (refine ⟨?_, ?_⟩))) rfl (by rfl) (Nat.le_of_ble_eq_true rfl) (by rfl)
    | true =>
      rw [hm] at g0
      cases f with
      | true =>
        refine FunT.ev tabOk mixed Try.func103 rfl ?_
        conv => whnf
        repeat (first | (refine ⟨(by kernel_rfl : chkR _ _ _ _ = true), ?_⟩; conv => whnf) | (refine EvOr.go ?_; conv => whnf))
        refine CallG.use g0 c126 [0, 1, 2, 3, 4, 5] [] ?_ ?_ ?_ ?_ ?_ ?_; rfl; rfl; kernel_rfl; rfl; rfl
        conv => whnf
        repeat (first | (refine ⟨(by kernel_rfl : chkR _ _ _ _ = true), ?_⟩; conv => whnf) | (refine EvOr.go ?_; conv => whnf))
        exact retQ.all tabOk _ [secV (zs 64), iv 10] rfl (by first | exact .inr rfl | exact .inl rfl) (by repeat' (first | exact trivial | rfl | (intro h; cases h; done) | (refine ⟨?_, ?_⟩))) rfl (by rfl) (Nat.le_of_ble_eq_true rfl) (by rfl)
      | false =>
        refine FunT.ev tabOk mixed Try.func103 rfl ?_
        conv => whnf
        repeat (first | (refine ⟨(by kernel_rfl : chkR _ _ _ _ = true), ?_⟩; conv => whnf) | (refine EvOr.go ?_; conv => whnf))
        refine CallG.use g0 c126 [0, 1, 2, 3, 4, 5] [] ?_ ?_ ?_ ?_ ?_ ?_; rfl; rfl; kernel_rfl; rfl; rfl
        conv => whnf
        repeat (first | (refine ⟨(by kernel_rfl : chkR _ _ _ _ = true), ?_⟩; conv => whnf) | (refine EvOr.go ?_; conv => whnf))
        refine CallG.use g1 c128 [0, 1, 2, 3, 4, 5] [] ?_ ?_ ?_ ?_ ?_ ?_; rfl; rfl; kernel_rfl; rfl; rfl
        conv => whnf
        repeat (first | (refine ⟨(by kernel_rfl : chkR _ _ _ _ = true), ?_⟩; conv => whnf) | (refine EvOr.go ?_; conv => whnf))
        exact retQ.all tabOk _ [secV s, iv 0] rfl (by first | exact .inr rfl | exact .inl rfl) (by repeat' (first | exact trivial | rfl | (intro h; cases h; done) | (refine ⟨?_, ?_⟩))) rfl (by rfl) (Nat.le_of_ble_eq_true rfl) (by rfl)
end Go.Proofs.Ytdmcbfmpnakdfaa.Eng.Rm
/- What is done, any act. -/
namespace Go.Proofs.Ytdmcbfmpnakdfaa.Eng.Rm
open Go Go.Proofs
set_option maxRecDepth 20000
set_option maxHeartbeats 8000000
theorem and_bounds (d : Int) : 0 ≤ andD d ∧ andD d ≤ 15 := by
  have h : (BitVec.ofInt 64 d &&& BitVec.ofInt 64 15).toNat ≤ 15 := by
    rw [BitVec.toNat_and]
    exact Nat.le_trans Nat.and_le_right (by decide)
  unfold andD
  rw [IntWalk.i64_in _ ⟨by omega, by omega⟩]
  omega
def mkO (B : List Nat) : Mk := match B with
  | [] => .nil
  | B => .row B.length
def mBo (B : List Nat) : Option ABlk := match B with
  | [] => none
  | B => mkF B
def vBo (V : List Sl) : Option ABlk := match V with
  | [] => none
  | V => rowK V
theorem mk_cases {B : List Nat} {V : List Sl} (h : B.length = V.length) : (B = [] ∧ V = []) ∨ (0 < B.length ∧ mkO B = .row B.length ∧ mBo B = mkF B ∧ vBo V = rowK V) := by
  cases B with
  | nil =>
    cases V with
    | nil => exact .inl ⟨rfl, rfl⟩
    | cons v V => cases h
  | cons b B =>
    cases V with
    | nil => cases h
    | cons v V => exact .inr ⟨Nat.succ_pos _, rfl, rfl, rfl⟩
theorem mk_ok {B : List Nat} {V : List Sl} (h : B.length = V.length) : MkB (mkO B) (mBo B) (vBo V) := by
  rcases mk_cases h with ⟨rfl, rfl⟩ | ⟨_, h1, h2, h3⟩
  · exact .inl ⟨rfl, rfl, rfl⟩
  · exact .inr ⟨B, V, h1, h2, h3⟩
/-- The marks: their images, as maps and as lists. -/
structure Mrk (R : List (Nat × Obj)) (B : List Nat) (V : List Sl) (MS MA : List Img) (k : Nat) : Prop where
  lv : B.length = V.length
  ls : B.length = MS.length
  la : B.length = MA.length
  le : B.length ≤ 64
  map : ∀ (j b : Nat) (S : Img), B[j]? = some b → MS[j]? = some S → ∃ ob, (b, ob) ∈ R ∧ MapObj ob (encM S)
  raw : ∀ (j : Nat) (v : Sl) (A : Img), V[j]? = some v → MA[j]? = some A → RawAt R A v.v
  eq : ∀ (j : Nat) (S A : Img), MS[j]? = some S → MA[j]? = some A → EqM S A
  len : ∀ A ∈ MA, A.length ≤ k
/-- A member and the document's ahead of an act. -/
structure St (M : Mem) (lg : Lg) (D : Img) (d l : Sl) (R : List (Nat × Obj)) (k : Nat) : Prop where
  ok : lg.ok M.log
  rel : Rel M D k
  rd : RawAt R D d.v
  rl : RawAt R M.log l.v
  lt : k < 1000
/-- Behind it. -/
structure StA (lg : Lg) (M' : Mem) (lg' : Lg) (D' : Img) (dh lh : Option Sl) (R : List (Nat × Obj)) (k : Nat) (n : Int) : Prop where
  ex : lg ≠ .ex → lg' ≠ .ex
  ok : lg'.ok M'.log
  rel : Rel M' D' k
  hd : hOk R D' dh
  hl : hOk R M'.log lh
  n : M'.n = n
abbrev doF (M : Mem) (lg : Lg) (d l : Sl) (R R0 : List (Nat × Obj)) (B : List Nat) (V : List Sl) (a : ActV) (h' : LHp) : Prop :=
  FunT Try.prog 41 [mpv, ppt, .agg (actSegs a)] (doH M lg (mkO B) d l R (mBo B) (vBo V) (some (famB R0))) (bv true) h'
def PostA (M : Mem) (lg : Lg) (d l : Sl) (R R0 : List (Nat × Obj)) (B : List Nat) (V : List Sl) (k : Nat) (a : ActV) : Prop :=
  ∃ M' lg' D' dh lh, StA lg M' lg' D' dh lh R (k + 1) M.n ∧ doF M lg d l R R0 B V a (doR M' lg' (mkO B) R (hS D' dh 14) (hB D' dh) (hS M'.log lh 15) (hB M'.log lh) (mBo B) (vBo V) (some (famB R0)))
def PostB (M : Mem) (lg : Lg) (D : Img) (d l : Sl) (R R0 : List (Nat × Obj)) (B : List Nat) (V : List Sl) (a : ActV) : Prop :=
  B.length < 64 ∧ ((D ++ M.log ≠ [] ∧ doF M lg d l R R0 B V a (doM M lg B.length d l R R0 (mB0 B) (vB0 V (D ++ M.log).length) (rowN (D ++ M.log)))) ∨ (D ++ M.log = [] ∧ doF M lg d l R R0 B V a (doM M lg B.length d l R R0 (mB0 B) (vB1 V) none)))
theorem Rel.mono {M : Mem} {D : Img} {k m : Nat} (h : Rel M D k) (hk : k ≤ m) : Rel M D m := ⟨h.n, h.seen, h.dur, Nat.le_trans h.len hk⟩
section
variable {M : Mem} {lg : Lg} {D : Img} {d l : Sl} {R R0 : List (Nat × Obj)} {B : List Nat} {V : List Sl} {MS MA : List Img} {k : Nat}
theorem St.same (h : St M lg D d l R k) : StA lg M lg D (some d) (some l) R (k + 1) M.n := ⟨fun h => h, h.ok, h.rel.mono (Nat.le_succ k), h.rd, h.rl, rfl⟩
theorem any_write (h : St M lg D d l R k) (hm : B.length = V.length) (aD aI : Int) (aS : List Nat) (ad : Option Addr) (nn cp : Nat) (aO : Bool) (h5 : 0 ≤ andD aD ∧ andD aD ≤ 4) :
    PostA M lg d l R R0 B V k (actA aD aI aS ad nn cp aO) := by
  have := h.rel.len
  have := h.lt
  by_cases h0 : ioE M aI = 0
  · refine ⟨wrote M aI aS, .inx [], D, some d, none, ⟨fun _ h => (by cases h), trivial, h.rel.write aI aS, h.rd, by show 0 < (M.log ++ [(aI, aS)]).length; simp, rfl⟩, ?_⟩
    have := do_write M _ lg (mkO B) d l R aD aI aS ad nn cp aO (andD aD) (mBo B) (vBo V) R0 (mk_ok hm) rfl h5 rfl h.ok h.rel.n h0 h.rl (by omega)
    have e : M.log.length + 1 = (M.log ++ [(aI, aS)]).length := by simp
    rw [e] at this
    exact this
  · exact ⟨M, lg, D, some d, some l, h.same, do_werr M lg (mkO B) d l R aD aI aS ad nn cp aO (andD aD) (mBo B) (vBo V) R0 (mk_ok hm) rfl h5 h.rel.n h0⟩
theorem any_flush (h : St M lg D d l R k) (hm : B.length = V.length) (aD aI : Int) (aS : List Nat) (ad : Option Addr) (nn cp : Nat) (aO : Bool) (h5 : andD aD = 5) :
    PostA M lg d l R R0 B V k (actA aD aI aS ad nn cp aO) := by
  have := h.rel.len
  have := h.lt
  have hr : arithI .and .i64 aD 15 = some 5 := by rw [← h5]; rfl
  cases hf : M.fails with
  | true => exact ⟨M, lg, D, some d, some l, h.same, do_ferr M lg (mkO B) d l R aD aI aS ad nn cp aO (mBo B) (vBo V) R0 (mk_ok hm) hr h.rel.n hf⟩
  | false =>
    have hrel := h.rel.crash allPick
    rw [kp_all _ _ (Nat.le_refl _), List.take_length] at hrel
    by_cases h0 : D ++ M.log = []
    · obtain ⟨e1, e2⟩ := List.append_eq_nil_iff.1 h0
      rw [h0] at hrel
      have hd := h.rd
      have hl := h.rl
      rw [e1] at hd
      rw [e2] at hl
      exact ⟨crashed M allPick, .nil, [], some nilSl, some nilSl, ⟨fun _ h => (by cases h), rfl, hrel.mono (Nat.le_succ k), .inl ⟨rfl, rfl⟩, .inl ⟨rfl, rfl⟩, rfl⟩,
        do_flush0 M _ lg (mkO B) d l R aD aI aS ad nn cp aO (mBo B) (vBo V) R0 (mk_ok hm) hr rfl h.ok h.rel.n hf hd hl (by omega)⟩
    · exact ⟨crashed M allPick, .nil, D ++ M.log, none, some nilSl, ⟨fun _ h => (by cases h), rfl, hrel.mono (Nat.le_succ k), List.length_pos_iff.2 h0, .inl ⟨rfl, rfl⟩, rfl⟩,
        do_flush M _ lg (mkO B) d l R D aD aI aS ad nn cp aO (mBo B) (vBo V) R0 (mk_ok hm) hr rfl h.ok h.rel.n hf h.rd h.rl (by omega) (by omega) (List.length_pos_iff.2 h0)⟩
theorem set_ex (lg : Lg) (L : Img) (i : Int) : lg ≠ .ex → lg.set L i ≠ .ex := fun h e => by
  cases lg with
  | nil => cases e
  | ex => exact h rfl
  | inx J => cases e
theorem any_set (h : St M lg D d l R k) (hm : B.length = V.length) (aD aI : Int) (aS : List Nat) (ad : Option Addr) (nn cp : Nat) (aO : Bool) (h5 : andD aD = 7) :
    PostA M lg d l R R0 B V k (actA aD aI aS ad nn cp aO) := by
  have := h.rel.len
  have := h.lt
  have hr : arithI .and .i64 aD 15 = some 7 := by rw [← h5]; rfl
  by_cases h0 : mayE M aI = 0
  · have hF := do_set M _ lg (mkO B) d l R D aD aI aS ad nn cp aO (mBo B) (vBo V) R0 (mk_ok hm) hr rfl h.ok h.rel.n h0 h.rd h.rl (by omega) (by omega)
    have e : D.length + 1 = (D ++ [(aI, aS)]).length := by simp
    rw [e] at hF
    have hp : 0 < (D ++ [(aI, aS)]).length := by simp
    cases hO : delW aI M.log with
    | nil =>
      rw [hO] at hF
      refine ⟨setM M aI aS, lg.set M.log aI, D ++ [(aI, aS)], none, some nilSl, ⟨set_ex lg _ aI, Lg.set_ok aI h.ok, h.rel.set aI aS, hp, .inl ⟨rfl, hO⟩, rfl⟩, hF⟩
    | cons p r =>
      refine ⟨setM M aI aS, lg.set M.log aI, D ++ [(aI, aS)], none, none, ⟨set_ex lg _ aI, Lg.set_ok aI h.ok, h.rel.set aI aS, hp, by show 0 < (delW aI M.log).length; rw [hO]; exact Nat.succ_pos _, rfl⟩, ?_⟩
      have e1 : jS (delW aI M.log) 15 = hS (delW aI M.log) none 15 := by rw [hO]; rfl
      have e2 : jB (delW aI M.log) = hB (delW aI M.log) none := by rw [hO]; rfl
      rw [e1, e2] at hF
      exact hF
  · exact ⟨M, lg, D, some d, some l, h.same, do_serr M lg (mkO B) d l R aD aI aS ad nn cp aO (mBo B) (vBo V) R0 (mk_ok hm) hr h.rel.n h0⟩
theorem any_fail (h : St M lg D d l R k) (hm : B.length = V.length) (aD aI : Int) (aS : List Nat) (ad : Option Addr) (nn cp : Nat) (aO : Bool) (h5 : andD aD = 10) :
    PostA M lg d l R R0 B V k (actA aD aI aS ad nn cp aO) := by
  have hr : arithI .and .i64 aD 15 = some 10 := by rw [← h5]; rfl
  exact ⟨{ M with fails := aO, hurt := M.hurt || aO }, lg, D, some d, some l, ⟨fun h => h, h.ok, ⟨h.rel.n, h.rel.seen, h.rel.dur, Nat.le_succ_of_le h.rel.len⟩, h.rd, h.rl, rfl⟩, do_fail M _ lg (mkO B) d l R aD aI aS ad nn cp aO (mBo B) (vBo V) R0 (mk_ok hm) hr rfl h.rel.n⟩
theorem any_clean (h : St M lg D d l R k) (hm : B.length = V.length) (aD aI : Int) (aS : List Nat) (ad : Option Addr) (nn cp : Nat) (aO : Bool) (h5 : andD aD = 11) :
    PostA M lg d l R R0 B V k (actA aD aI aS ad nn cp aO) := by
  have hr : arithI .and .i64 aD 15 = some 11 := by rw [← h5]; rfl
  exact ⟨{ M with hurt := false }, lg, D, some d, some l, ⟨fun h => h, h.ok, ⟨h.rel.n, h.rel.seen, h.rel.dur, Nat.le_succ_of_le h.rel.len⟩, h.rd, h.rl, rfl⟩, do_clean M _ lg (mkO B) d l R aD aI aS ad nn cp aO (mBo B) (vBo V) R0 (mk_ok hm) hr rfl h.rel.n⟩
theorem noid_doH {mk : Mk} {X Y : Option ABlk} (M : Mem) (lg : Lg) (d l : Sl) (R : List (Nat × Obj)) (pk : List Int) (hm : MkB mk X Y) : noId 10 (doH M lg mk d l R X Y (pkR pk)) = true := by
  rcases hm with ⟨rfl, rfl, rfl⟩ | ⟨B, V, rfl, rfl, rfl⟩ <;> cases lg <;> rfl
theorem noid_doR {mk : Mk} {X Y : Option ABlk} (M : Mem) (d : Sl) (R : List (Nat × Obj)) (D O : Img) (pk : List Int) (hm : MkB mk X Y) : noId 10 (doR M .nil mk R (durS d D O 14) (durB D O) nilS none X Y (pkR pk)) = true := by
  rcases hm with ⟨rfl, rfl, rfl⟩ | ⟨B, V, rfl, rfl, rfl⟩ <;> cases O <;> rfl
theorem any_crash (h : St M lg D d l R k) (hm : B.length = V.length) (aD aI : Int) (aS : List Nat) (ad : Option Addr) (nn cp : Nat) (aO : Bool) (h5 : andD aD = 6) (pk : List Int) (hpk : PkOk R0 (.slice ad nn cp) pk) (hpb : pk.length ≤ 2 ^ 47 - 4096) :
    PostA M lg d l R R0 B V k (actA aD aI aS ad nn cp aO) := by
  have := h.rel.len
  have := h.lt
  have hr : arithI .and .i64 aD 15 = some 6 := by rw [← h5]; rfl
  have none_ : ∀ ad' cp', PostA M lg d l R R0 B V k (actA aD aI aS ad' 0 cp' aO) := fun ad' cp' => by
    have hrel := h.rel.crash noPick
    rw [kp_no, List.append_nil] at hrel
    exact ⟨crashed M noPick, .nil, D, some d, some nilSl, ⟨fun _ h => (by cases h), rfl, hrel.mono (Nat.le_succ k), h.rd, .inl ⟨rfl, rfl⟩, rfl⟩,
      do_crash0 M _ lg (mkO B) d l R aD aI aS ad' cp' aO (mBo B) (vBo V) R0 (mk_ok hm) hr rfl h.ok h.rel.n h.rl (by omega)⟩
  rcases hpk with ⟨ad', cp', hv, rfl⟩ | ⟨b, off, cap, c, t, fr, pre, post, hv, hR, hc, hpre, hcap⟩
  · injection hv with h1 h2 h3
    subst h1; subst h2; subst h3
    exact none_ _ _
  · injection hv with h1 h2 h3
    subst h1; subst h2; subst h3
    by_cases hp0 : pk.length = 0
    · rw [hp0]; exact none_ _ _
    · have h0 := do_crash M _ lg (mkO B) d l R D aD aI aS (some ⟨b, off, none⟩) pk.length cp aO (mBo B) (vBo V) (mk_ok hm) pk (by omega) hr rfl h.ok h.rel.n h.rd h.rl (by omega) (by omega) hpb
      have hrel := h.rel.crash (picked pk)
      rw [← keptL_eq] at hrel
      have hL1 : ∀ e ∈ pk.map (fun b => ([.one (.raw (.int .u8 b))] : Segs)), Segs.size e = 1 ∧ Segs.oneB e = true := fun e he => by
        obtain ⟨b, _, rfl⟩ := List.mem_map.1 he; exact ⟨rfl, rfl⟩
      have hL2 : ∀ e ∈ pk.map (fun b => ([.one (.raw (.int .u8 b))] : Segs)), Segs.ids e = [] := fun e he => by
        obtain ⟨b, _, rfl⟩ := List.mem_map.1 he; rfl
      have fin : doF M lg d l R R0 B V (actA aD aI aS (some ⟨b, off, none⟩) pk.length cp aO) (doR (crashed M (picked pk)) .nil (mkO B) R (durS d D (keptL pk M.log) 14) (durB D (keptL pk M.log)) nilS none (mBo B) (vBo V) (some (famB R0))) := by
        have := FunT.fam 10 h0 rfl (by show 10 < 11; decide) hR (fun ρ => by rw [pk_den]; exact hc) hpre (by rw [List.length_map]; exact hcap) hL1 hL2 (args2 := [mpv, ppt, .agg (actSegs (actA aD aI aS (some ⟨b, off, none⟩) pk.length cp aO))]) (fun ρ => by
          simp only [AV.dens, AV.den, actSegs, actP, Segs.den, Seg.den, SV.den, updR_same]
          rw [updR_ne _ _ (by decide), updR_ne _ _ (by decide)]
          simp) ?_ ?_ (fun x hx => by cases hx)
        · exact this
        · exact noid_doH M lg d l R pk (mk_ok hm)
        · exact noid_doR (crashed M (picked pk)) d R D _ pk (mk_ok hm)
      by_cases hO : keptL pk M.log = []
      · rw [hO] at fin
        rw [hO, List.append_nil] at hrel
        exact ⟨crashed M (picked pk), .nil, D, some d, some nilSl, ⟨fun _ h => (by cases h), rfl, hrel.mono (Nat.le_succ k), h.rd, .inl ⟨rfl, rfl⟩, rfl⟩, fin⟩
      · obtain ⟨q1, q2⟩ := dur_ne d D 14 hO
        rw [q1, q2, ← List.length_append] at fin
        exact ⟨crashed M (picked pk), .nil, D ++ keptL pk M.log, none, some nilSl, ⟨fun _ h => (by cases h), rfl, hrel.mono (Nat.le_succ k), List.length_pos_iff.2 (by simp [hO]), .inl ⟨rfl, rfl⟩, rfl⟩, fin⟩
theorem any_none (h : St M lg D d l R k) (hm : B.length = V.length) (aD aI : Int) (aS : List Nat) (ad : Option Addr) (nn cp : Nat) (aO : Bool) (h5 : 12 ≤ andD aD) :
    PostA M lg d l R R0 B V k (actA aD aI aS ad nn cp aO) :=
  ⟨M, lg, D, some d, some l, h.same, do_none M lg (mkO B) d l R aD aI aS ad nn cp aO (andD aD) (mBo B) (vBo V) R0 (mk_ok hm) rfl ⟨h5, (and_bounds aD).2⟩⟩
/-- Marks: another one, or there are too many; the way back. -/
theorem any_mark (h : St M lg D d l R k) (hm : Mrk R B V MS MA k) (aD aI : Int) (aS : List Nat) (ad : Option Addr) (nn cp : Nat) (aO : Bool) (h5 : andD aD = 8) :
    PostA M lg d l R R0 B V k (actA aD aI aS ad nn cp aO) ∨ PostB M lg D d l R R0 B V (actA aD aI aS ad nn cp aO) := by
  have := h.rel.len
  have := h.lt
  have hr : arithI .and .i64 aD 15 = some 8 := by rw [← h5]; rfl
  have hlv := hm.lv
  have hle := hm.le
  rcases mk_cases hlv with ⟨e1, e2⟩ | ⟨hp, e1, e2, e3⟩
  · subst e1; subst e2
    right
    refine ⟨by decide, ?_⟩
    by_cases h0 : D ++ M.log = []
    · obtain ⟨g1, g2⟩ := List.append_eq_nil_iff.1 h0
      have hd := h.rd
      have hl := h.rl
      rw [g1] at hd
      rw [g2] at hl
      exact .inr ⟨h0, do_mark10 M lg d l R aD aI aS ad nn cp aO R0 hr h.rel.n hd hl⟩
    · exact .inl ⟨h0, do_mark1 M lg d l R D aD aI aS ad nn cp aO R0 hr h.rel.n h.rd h.rl (by omega) (by omega) (List.length_pos_iff.2 h0)⟩
  · by_cases h64 : B.length = 64
    · left
      refine ⟨M, lg, D, some d, some l, h.same, ?_⟩
      unfold doF
      rw [e1, e2, e3]
      exact do_full M lg d l R aD aI aS ad nn cp aO R0 B V hlv hr h.rel.n h64
    · right
      refine ⟨by omega, ?_⟩
      unfold doF
      rw [e1, e2, e3]
      by_cases h0 : D ++ M.log = []
      · obtain ⟨g1, g2⟩ := List.append_eq_nil_iff.1 h0
        have hd := h.rd
        have hl := h.rl
        rw [g1] at hd
        rw [g2] at hl
        exact .inr ⟨h0, do_mark0 M lg d l R aD aI aS ad nn cp aO R0 B V hlv hp (by omega) hr h.rel.n hd hl⟩
      · exact .inl ⟨h0, do_markk M lg d l R D aD aI aS ad nn cp aO R0 B V hlv hp (by omega) hr h.rel.n h.rd h.rl (by omega) (by omega) (List.length_pos_iff.2 h0)⟩
theorem any_back (h : St M lg D d l R k) (hm : Mrk R B V MS MA k) (aD aI : Int) (aS : List Nat) (ad : Option Addr) (nn cp : Nat) (aO : Bool) (h5 : andD aD = 9) :
    PostA M lg d l R R0 B V k (actA aD aI aS ad nn cp aO) := by
  have hr : arithI .and .i64 aD 15 = some 9 := by rw [← h5]; rfl
  have hlv := hm.lv
  have hls := hm.ls
  have hla := hm.la
  rcases mk_cases hlv with ⟨e1, e2⟩ | ⟨hp, e1, e2, e3⟩
  · subst e1; subst e2
    exact ⟨M, lg, D, some d, some l, h.same, do_bnil M lg d l R aD aI aS ad nn cp aO R0 hr h.rel.n⟩
  · by_cases hi : 0 ≤ aI ∧ aI < (B.length : Nat)
    · obtain ⟨j, hj⟩ : ∃ j : Nat, aI = j := ⟨aI.toNat, by omega⟩
      have hjB : j < B.length := by omega
      obtain ⟨ob, hob, hO⟩ := hm.map j B[j] (MS[j]'(by omega)) (List.getElem?_eq_getElem _) (List.getElem?_eq_getElem _)
      have hraw := hm.raw j (V[j]'(by omega)) (MA[j]'(by omega)) (List.getElem?_eq_getElem _) (List.getElem?_eq_getElem _)
      have heq := hm.eq j (MS[j]'(by omega)) (MA[j]'(by omega)) (List.getElem?_eq_getElem _) (List.getElem?_eq_getElem _)
      have hlen := hm.len _ (List.getElem_mem (l := MA) (n := j) (by omega))
      refine ⟨{ M with seen := MS[j]'(by omega), dur := MS[j]'(by omega), log := [], hurt := true }, .nil, MA[j]'(by omega), some (V[j]'(by omega)), some nilSl, ⟨fun _ h => (by cases h), rfl, ⟨h.rel.n, ?_, heq, ?_⟩, hraw, .inl ⟨rfl, rfl⟩, rfl⟩, ?_⟩
      · show EqM _ (_ ++ [])
        rw [List.append_nil]; exact heq
      · show _ + 0 ≤ k + 1
        omega
      · unfold doF
        rw [e1, e2, e3]
        exact do_back M _ lg d l R aD aI aS ad nn cp aO R0 B V j hjB (by omega) (MS[j]'(by omega)) ob hob hO hlv hr hj rfl h.rel.n
    · refine ⟨M, lg, D, some d, some l, h.same, ?_⟩
      unfold doF
      rw [e1, e2, e3]
      exact do_berr M lg d l R aD aI aS ad nn cp aO R0 B V hlv hr h.rel.n hi
/-- Any act. -/
theorem do_any (h : St M lg D d l R k) (hm : Mrk R B V MS MA k) (a : ActV) (pk : List Int) (hpk : PkOk R0 a.p pk) (hpb : pk.length ≤ 2 ^ 47 - 4096) :
    PostA M lg d l R R0 B V k a ∨ PostB M lg D d l R R0 B V a := by
  obtain ⟨aD, aI, aS, aP, aO⟩ := a
  obtain ⟨ad, nn, cp, hv⟩ := pk_sl hpk
  replace hv : aP = .slice ad nn cp := hv
  subst hv
  obtain ⟨b1, b2⟩ := and_bounds aD
  by_cases k0 : andD aD ≤ 4
  · exact .inl (any_write h hm.lv aD aI aS ad nn cp aO ⟨b1, k0⟩)
  by_cases k5 : andD aD = 5
  · exact .inl (any_flush h hm.lv aD aI aS ad nn cp aO k5)
  by_cases k6 : andD aD = 6
  · exact .inl (any_crash h hm.lv aD aI aS ad nn cp aO k6 pk hpk hpb)
  by_cases k7 : andD aD = 7
  · exact .inl (any_set h hm.lv aD aI aS ad nn cp aO k7)
  by_cases k8 : andD aD = 8
  · exact any_mark h hm aD aI aS ad nn cp aO k8
  by_cases k9 : andD aD = 9
  · exact .inl (any_back h hm aD aI aS ad nn cp aO k9)
  by_cases k10 : andD aD = 10
  · exact .inl (any_fail h hm.lv aD aI aS ad nn cp aO k10)
  by_cases k11 : andD aD = 11
  · exact .inl (any_clean h hm.lv aD aI aS ad nn cp aO k11)
  · exact .inl (any_none h hm.lv aD aI aS ad nn cp aO (by omega))
end
end Go.Proofs.Ytdmcbfmpnakdfaa.Eng.Rm
