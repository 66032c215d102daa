/- The row: right; mended. -/
import Derived.Test.YtdmcbfmpnakdfaaRf
import Derived.Test.YtdmcbfmpnakdfaaQj
namespace Go.Proofs.Ytdmcbfmpnakdfaa.Eng.St
open Go Go.RowKit Go.Shelf Go.Proofs Go.Proofs.Ytdmcbfmpnakdfaa.Gf Go.Proofs.Ytdmcbfmpnakdfaa.Rf
set_option maxRecDepth 20000
set_option maxHeartbeats 4000000
theorem rright_ok (x : Bool) (n : Nat) (L : List (List Nat)) (K : List Nat) (h0 : 0 < n) (hn : n ≤ 64) (hL : L.length = n) (hK : K.length = n) (hS : Secs L) :
    FunT Try.prog 56 [rpV] (rw3 x n L K) (bv (decide (lostL n K = []) && rightB L)) (rw3 x n L K) := by
  have i1 := is_ok x n L K h0
  have i2 := whole_ok x n L K hn hK
  have i3 := right_ok L (capX x n) hS (by omega) (fun c hc => by cases x <;> cases hc; omega)
  rw [hL] at i3
  by_cases hO : lostL n K = []
  · rw [decide_eq_true hO, Bool.true_and]
    rw [decide_eq_true hO] at i2
    cases x <;>
    · refine FunT.ev tabOk mixed Try.func56 rfl ?_
      conv => whnf
      repeat (first | (refine ⟨(by kernel_rfl : chkR _ _ _ _ = true), ?_⟩; conv => whnf) | (refine EvOr.go ?_; conv => whnf))
      refine CallG.use i1 c108 [0, 1, 2] [] ?_ ?_ ?_ ?_ ?_ ?_; rfl; rfl; kernel_rfl; rfl; rfl
      conv => whnf
      repeat (first | (refine ⟨(by kernel_rfl : chkR _ _ _ _ = true), ?_⟩; conv => whnf) | (refine EvOr.go ?_; conv => whnf))
      refine CallG.use i2 c109 [0, 1, 2] [] ?_ ?_ ?_ ?_ ?_ ?_; rfl; rfl; kernel_rfl; rfl; rfl
      conv => whnf
      repeat (first | (refine ⟨(by kernel_rfl : chkR _ _ _ _ = true), ?_⟩; conv => whnf) | (refine EvOr.go ?_; conv => whnf))
      refine CallG.use i3 c25 [1] [] ?_ ?_ ?_ ?_ ?_ ?_; rfl; rfl; kernel_rfl; rfl; rfl
      conv => whnf
      repeat (first | (refine ⟨(by kernel_rfl : chkR _ _ _ _ = true), ?_⟩; conv => whnf) | (refine EvOr.go ?_; conv => whnf))
      exact retQ.one rfl (.inr rfl) rfl (Nat.le_of_ble_eq_true rfl) rfl
  · rw [decide_eq_false hO, Bool.false_and]
    rw [decide_eq_false hO] at i2
    cases x <;>
    · refine FunT.ev tabOk mixed Try.func56 rfl ?_
      conv => whnf
      repeat (first | (refine ⟨(by kernel_rfl : chkR _ _ _ _ = true), ?_⟩; conv => whnf) | (refine EvOr.go ?_; conv => whnf))
      refine CallG.use i1 c108 [0, 1, 2] [] ?_ ?_ ?_ ?_ ?_ ?_; rfl; rfl; kernel_rfl; rfl; rfl
      conv => whnf
      repeat (first | (refine ⟨(by kernel_rfl : chkR _ _ _ _ = true), ?_⟩; conv => whnf) | (refine EvOr.go ?_; conv => whnf))
      refine CallG.use i2 c109 [0, 1, 2] [] ?_ ?_ ?_ ?_ ?_ ?_; rfl; rfl; kernel_rfl; rfl; rfl
      conv => whnf
      repeat (first | (refine ⟨(by kernel_rfl : chkR _ _ _ _ = true), ?_⟩; conv => whnf) | (refine EvOr.go ?_; conv => whnf))
      exact retQ.one rfl (.inr rfl) rfl (Nat.le_of_ble_eq_true rfl) rfl
theorem rright_emp : FunT Try.prog 56 [rpV] [empB] (bv false) [empB] := by
  refine FunT.ev tabOk mixed Try.func56 rfl ?_
  conv => whnf
  repeat (first | (refine ⟨(by kernel_rfl : chkR _ _ _ _ = true), ?_⟩; conv => whnf) | (refine EvOr.go ?_; conv => whnf))
  refine CallG.use is_emp c108 [0] [] ?_ ?_ ?_ ?_ ?_ ?_; rfl; rfl; kernel_rfl; rfl; rfl
  conv => whnf
  repeat (first | (refine ⟨(by kernel_rfl : chkR _ _ _ _ = true), ?_⟩; conv => whnf) | (refine EvOr.go ?_; conv => whnf))
  exact retQ.one rfl (.inr rfl) rfl (Nat.le_of_ble_eq_true rfl) rfl
theorem mend_nil : FunT Try.prog 55 [nilP] [] (.tup [.sc nilS, iv 1]) [] := by
  refine FunT.ev tabOk mixed Try.func55 rfl ?_
  conv => whnf
  repeat (first | (refine ⟨(by kernel_rfl : chkR _ _ _ _ = true), ?_⟩; conv => whnf) | (refine EvOr.go ?_; conv => whnf))
  refine CallG.use is_nil c108 [] [] ?_ ?_ ?_ ?_ ?_ ?_; rfl; rfl; kernel_rfl; rfl; rfl
  conv => whnf
  repeat (first | (refine ⟨(by kernel_rfl : chkR _ _ _ _ = true), ?_⟩; conv => whnf) | (refine EvOr.go ?_; conv => whnf))
  exact retQ.all tabOk _ [.sc nilS, iv 1] rfl (by first | exact .inr rfl | exact .inl rfl) (by repeat' (first | exact trivial | rfl | (intro h; cases h; done) | (refine ⟨?_, ?_⟩))) rfl (by rfl) (Nat.le_of_ble_eq_true rfl) (by rfl)
abbrev lostN (n : Nat) (K : List Nat) : List Nat := (List.range n).filter (gone K)
theorem lostN_rise (n : Nat) (K : List Nat) : (kz (lostN n K)).Pairwise (· < ·) := by
  unfold kz lostN
  rw [List.pairwise_map]
  refine List.Pairwise.imp (fun h => ?_) (List.Pairwise.filter _ List.pairwise_lt_range)
  exact Int.ofNat_lt.2 h
theorem lostN_lt {n : Nat} {K : List Nat} : ∀ k ∈ lostN n K, k < n := fun k hk => List.mem_range.1 (List.mem_filter.1 hk).1
theorem kz_len (ks : List Nat) : (kz ks).length = ks.length := by simp [kz]
theorem kz_nat (ks : List Nat) : (kz ks).map Int.toNat = ks := by simp [kz, Function.comp_def]
theorem fixE_lost {n : Nat} {ks : List Nat} (h4 : 4 ≤ n) (h64 : n ≤ 64) (hk : ∀ k ∈ ks, k < n) : fixE n (kz ks) = if 2 < ks.length then 7 else 0 := by
  unfold fixE
  rw [if_neg (by omega), kz_len, if_neg, if_neg (by omega)]
  rintro ⟨h0, h⟩
  have hg : ∀ i, i < ks.length → ∃ k, k < n ∧ (kz ks).getD i 0 = (k : Nat) := fun i hi => ⟨ks[i], hk _ (List.getElem_mem _), by simp [kz, List.getD_eq_getElem?_getD, hi]⟩
  rcases h with h | h
  · obtain ⟨k, h1, h2⟩ := hg 0 h0
    omega
  · obtain ⟨k, h1, h2⟩ := hg (ks.length - 1) (by omega)
    omega
theorem unl_self {zs : List Int} (h : zs.Pairwise (· < ·)) : unl zs = zs := by
  have h1 : sortZ zs = zs := by
    unfold sortZ
    refine List.mergeSort_of_pairwise (h.imp fun h => ?_)
    simp; omega
  unfold unl
  rw [h1]
  unfold compZ
  refine Lib.compact_all zs fun j hj => ?_
  by_cases h0 : j = 0
  · subst h0; simp [Lib.keeps]
  · refine Lib.keeps_pos ?_
    have := List.pairwise_iff_getElem.1 h (j - 1) j (by omega) hj (by omega)
    have h2 : j - 1 < zs.length := by omega
    simp only [List.getElem!_toArray]
    rw [getElem!_pos zs j hj, getElem!_pos zs (j - 1) h2]
    omega
theorem fixL (n : Nat) (L : List (List Nat)) (co : Option Nat) (ks : List Nat) (hr : (kz ks).Pairwise (· < ·)) (hk : ∀ k ∈ ks, k < n) (h4 : 4 ≤ n) (h64 : n ≤ 64) (hL : L.length = n) (hS : Secs L) (h0 : 0 < ks.length) (hks : ks.length ≤ n) :
    (2 < ks.length → FunT Try.prog 17 [.sc (.sl 0 0 64 n co), .sc (.sl 1 0 1 ks.length none)] [rowS L, rowRI (kz ks)] (.tup [.sc nilS, iv 7]) [rowS L, rowRI (kz ks), none]) ∧
    (ks.length ≤ 2 → FunT Try.prog 17 [.sc (.sl 0 0 64 n co), .sc (.sl 1 0 1 ks.length none)] [rowS L, rowRI (kz ks)] (.tup [.sc (.sl 2 0 64 n none), iv 0]) [rowS L, rowRI (kz ks), rowX (fixR L (n - 2) ks)]) := by
  have hl := kz_len ks
  have hE := fixE_lost h4 h64 hk
  have gF := fix_row L n co none (kz ks) hL hS (by omega) (by omega) (by omega)
  rw [unl_self hr, fixV, fixB, kz_nat, hl] at gF
  refine ⟨fun h => ?_, fun h => ?_⟩
  · rw [if_pos h] at hE
    rw [if_neg (by omega), if_neg (by omega), hE] at gF
    exact gF
  · rw [if_neg (by omega)] at hE
    rw [if_pos hE, if_pos hE] at gF
    exact gF
theorem fixLN (n : Nat) (L : List (List Nat)) (co : Option Nat) (h4 : 4 ≤ n) (h64 : n ≤ 64) (hL : L.length = n) (hS : Secs L) :
    FunT Try.prog 17 [.sc (.sl 0 0 64 n co), .sc nilS] [rowS L, none] (.tup [.sc (.sl 2 0 64 n none), iv 0]) [rowS L, none, rowX (fixR L (n - 2) [])] := by
  have hE := fixE_lost (ks := []) h4 h64 (fun k h => by cases h)
  rw [if_neg (by decide)] at hE
  have hE' : fixE n [] = 0 := hE
  have gF := fix_nil L n co hL hS (by omega)
  rw [fixV, fixB, if_pos hE', if_pos hE'] at gF
  exact gF
theorem lostN_len (n : Nat) (K : List Nat) : (lostN n K).length ≤ n := by
  have := List.length_filter_le (gone K) (List.range n)
  rwa [List.length_range] at this
theorem lost_kz (n : Nat) (K : List Nat) : lostL n K = kz (lostN n K) := rfl
theorem kz_nil {ks : List Nat} : kz ks = [] ↔ ks = [] := by unfold kz; exact List.map_eq_nil_iff
theorem mend_full (x : Bool) (n : Nat) (L : List (List Nat)) (K : List Nat) (h4 : 4 ≤ n) (h64 : n ≤ 64) (hL : L.length = n) (hK : K.length = n) (hS : Secs L) (h3 : 2 < (lostN n K).length) :
    FunT Try.prog 55 [rpV] (rw3 x n L K) (.tup [.sc nilS, iv 7]) (rw3 x n L K) := by
  have i1 := is_ok x n L K (by omega)
  have i2 := lost_ok x n L K (by omega) h64 hK
  have i3 := (fixL n L (capX x n) (lostN n K) (lostN_rise n K) lostN_lt h4 h64 hL hS (by omega) (lostN_len n K)).1 h3
  rw [lost_kz] at i2
  generalize lostN n K = ks at *
  obtain ⟨q1, q2⟩ := nr_row 3 (T := kz ks) (by rw [kz_len]; omega)
  rw [q1, q2, kz_len] at i2
  cases x <;>
  · refine FunT.ev tabOk mixed Try.func55 rfl ?_
    conv => whnf
    repeat (first | (refine ⟨(by kernel_rfl : chkR _ _ _ _ = true), ?_⟩; conv => whnf) | (refine EvOr.go ?_; conv => whnf))
    refine CallG.use i1 c108 [0, 1, 2] [] ?_ ?_ ?_ ?_ ?_ ?_; rfl; rfl; kernel_rfl; rfl; rfl
    conv => whnf
    repeat (first | (refine ⟨(by kernel_rfl : chkR _ _ _ _ = true), ?_⟩; conv => whnf) | (refine EvOr.go ?_; conv => whnf))
    refine CallG.use i2 c59 [0, 1, 2] [] ?_ ?_ ?_ ?_ ?_ ?_; rfl; rfl; kernel_rfl; rfl; rfl
    conv => whnf
    repeat (first | (refine ⟨(by kernel_rfl : chkR _ _ _ _ = true), ?_⟩; conv => whnf) | (refine EvOr.go ?_; conv => whnf))
    refine CallG.use i3 c17 [1, 3] [] ?_ ?_ ?_ ?_ ?_ ?_; rfl; rfl; kernel_rfl; rfl; rfl
    conv => whnf
    repeat (first | (refine ⟨(by kernel_rfl : chkR _ _ _ _ = true), ?_⟩; conv => whnf) | (refine EvOr.go ?_; conv => whnf))
    intro c hc
    obtain rfl : c = true := by rw [hc]; rfl
    conv => whnf
    repeat (first | (refine ⟨(by kernel_rfl : chkR _ _ _ _ = true), ?_⟩; conv => whnf) | (refine EvOr.go ?_; conv => whnf))
    exact retQ.all tabOk _ [.sc nilS, iv 7] rfl (by first | exact .inr rfl | exact .inl rfl) (by repeat' (first | exact trivial | rfl | (intro h; cases h; done) | (refine ⟨?_, ?_⟩))) rfl (by rfl) (Nat.le_of_ble_eq_true rfl) (by rfl)
/-- The row behind a mending: its columns lie in a block of its own. -/
abbrev rowM (n : Nat) : Option ABlk := some (.row .one 108 2 [[.one (.sl 3 0 64 n none), .one (.sl 2 0 1 n (some n))]] [3, 2])
def setK (K : List Nat) (ks : List Nat) : List Nat := ks.foldl (fun R i => R.set i 1) K
theorem setK_len {K : List Nat} : ∀ ks : List Nat, (setK K ks).length = K.length := by
  intro ks
  induction ks generalizing K with
  | nil => rfl
  | cons a l ih => show (setK (K.set a 1) l).length = _; rw [ih, List.length_set]
theorem setK_succ {K ks : List Nat} {a : Nat} (h : a < ks.length) : setK K (ks.take (a + 1)) = (setK K (ks.take a)).set ks[a] 1 := by
  unfold setK
  rw [List.take_succ_eq_append_getElem h, List.foldl_append]; rfl
def menI (x : Bool) (n : Nat) (L R : List (List Nat)) (K ks : List Nat) (k : Nat) : LTm × LHp :=
  ([rpV, .junk, .junk, .junk, .sc (.sl 3 0 1 ks.length none), .junk, .junk, .junk, .junk, .junk, .junk, .junk, .junk, .junk, .junk, .junk, .junk, .junk, .junk, .junk, .junk, .junk, .junk, .junk, .junk, .junk, .junk, .junk, .junk, .junk, .sc (.sl 3 0 1 ks.length none), iv (ks.length : Nat), iv (k : Nat), .junk, .junk, .junk, .junk, .junk, .junk, .junk, .junk, .junk, .junk, .junk], [some (.row .one 108 2 [[.one (.sl 4 0 64 n none), .one (.sl 2 0 1 n (some n))]] [4, 2]), colB x L, knB (setK K (ks.take k)), rowI (kz ks), rowX R])
theorem mend_ok (x : Bool) (n : Nat) (L : List (List Nat)) (K : List Nat) (h4 : 4 ≤ n) (h64 : n ≤ 64) (hL : L.length = n) (hK : K.length = n) (hS : Secs L) (h3 : (lostN n K).length ≤ 2) :
    FunT Try.prog 55 [rpV] (rw3 x n L K) (.tup [.sc (nrS (kz (lostN n K)) 4), iv 0]) [rowM n, colB x L, knB (setK K (lostN n K)), rowX (fixR L (n - 2) (lostN n K)), nrB (kz (lostN n K))] := by
  have i1 := is_ok x n L K (by omega)
  have i2 := lost_ok x n L K (by omega) h64 hK
  rw [lost_kz] at i2
  by_cases h0 : lostN n K = []
  · have i3 := fixLN n L (capX x n) h4 h64 hL hS
    rw [h0] at i2 ⊢
    have e0 : setK K [] = K := rfl
    rw [e0]
    generalize fixR L (n - 2) [] = R at *
    cases x <;>
    · refine FunT.ev tabOk mixed Try.func55 rfl ?_
      conv => whnf
      repeat (first | (refine ⟨(by kernel_rfl : chkR _ _ _ _ = true), ?_⟩; conv => whnf) | (refine EvOr.go ?_; conv => whnf))
      refine CallG.use i1 c108 [0, 1, 2] [] ?_ ?_ ?_ ?_ ?_ ?_; rfl; rfl; kernel_rfl; rfl; rfl
      conv => whnf
      repeat (first | (refine ⟨(by kernel_rfl : chkR _ _ _ _ = true), ?_⟩; conv => whnf) | (refine EvOr.go ?_; conv => whnf))
      refine CallG.use i2 c59 [0, 1, 2] [] ?_ ?_ ?_ ?_ ?_ ?_; rfl; rfl; kernel_rfl; rfl; rfl
      conv => whnf
      repeat (first | (refine ⟨(by kernel_rfl : chkR _ _ _ _ = true), ?_⟩; conv => whnf) | (refine EvOr.go ?_; conv => whnf))
      refine CallG.use i3 c17 [1, 3] [] ?_ ?_ ?_ ?_ ?_ ?_; rfl; rfl; kernel_rfl; rfl; rfl
      conv => whnf
      repeat (first | (refine ⟨(by kernel_rfl : chkR _ _ _ _ = true), ?_⟩; conv => whnf) | (refine EvOr.go ?_; conv => whnf))
      intro c hc
      obtain rfl : c = false := by rw [hc]; rfl
      conv => whnf
      repeat (first | (refine ⟨(by kernel_rfl : chkR _ _ _ _ = true), ?_⟩; conv => whnf) | (refine EvOr.go ?_; conv => whnf))
      refine CodeS.loop0 tabOk mixed (Nat.le_of_ble_eq_true rfl) ?_
      conv => whnf
      repeat (first | (refine ⟨(by kernel_rfl : chkR _ _ _ _ = true), ?_⟩; conv => whnf) | (refine EvOr.go ?_; conv => whnf))
      intro c hc
      obtain rfl : c = false := by rw [hc]; rfl
      conv => whnf
      repeat (first | (refine ⟨(by kernel_rfl : chkR _ _ _ _ = true), ?_⟩; conv => whnf) | (refine EvOr.go ?_; conv => whnf))
      exact retQ.allS tabOk [0, 1, 2, 4, 3] _ [.sc nilS, iv 0] rfl (by first | exact .inr rfl | exact .inl rfl) (by repeat' (first | exact trivial | rfl | (intro h; cases h; done) | (refine ⟨?_, ?_⟩))) rfl (by rfl) (by kernel_rfl) (by first | rfl | kernel_rfl)
  · have i3 := (fixL n L (capX x n) (lostN n K) (lostN_rise n K) lostN_lt h4 h64 hL hS (by exact List.length_pos_iff.2 h0) (lostN_len n K)).2 h3
    have hlt := lostN_lt (n := n) (K := K)
    generalize lostN n K = ks at *
    have hpos := List.length_pos_iff.2 h0
    obtain ⟨q1, q2⟩ := nr_row 3 (T := kz ks) (by rw [kz_len]; omega)
    obtain ⟨q3, _⟩ := nr_row 4 (T := kz ks) (by rw [kz_len]; omega)
    rw [q1, q2, kz_len] at i2
    rw [q2, q3, kz_len]
    generalize fixR L (n - 2) ks = R at *
    obtain ⟨I, hI⟩ : ∃ I, I = menI x n L R K ks := ⟨_, rfl⟩
    cases x <;>
    · refine FunT.ev tabOk mixed Try.func55 rfl ?_
      conv => whnf
      repeat (first | (refine ⟨(by kernel_rfl : chkR _ _ _ _ = true), ?_⟩; conv => whnf) | (refine EvOr.go ?_; conv => whnf))
      refine CallG.use i1 c108 [0, 1, 2] [] ?_ ?_ ?_ ?_ ?_ ?_; rfl; rfl; kernel_rfl; rfl; rfl
      conv => whnf
      repeat (first | (refine ⟨(by kernel_rfl : chkR _ _ _ _ = true), ?_⟩; conv => whnf) | (refine EvOr.go ?_; conv => whnf))
      refine CallG.use i2 c59 [0, 1, 2] [] ?_ ?_ ?_ ?_ ?_ ?_; rfl; rfl; kernel_rfl; rfl; rfl
      conv => whnf
      repeat (first | (refine ⟨(by kernel_rfl : chkR _ _ _ _ = true), ?_⟩; conv => whnf) | (refine EvOr.go ?_; conv => whnf))
      refine CallG.use i3 c17 [1, 3] [] ?_ ?_ ?_ ?_ ?_ ?_; rfl; rfl; kernel_rfl; rfl; rfl
      conv => whnf
      repeat (first | (refine ⟨(by kernel_rfl : chkR _ _ _ _ = true), ?_⟩; conv => whnf) | (refine EvOr.go ?_; conv => whnf))
      intro c hc
      obtain rfl : c = false := by rw [hc]; rfl
      conv => whnf
      repeat (first | (refine ⟨(by kernel_rfl : chkR _ _ _ _ = true), ?_⟩; conv => whnf) | (refine EvOr.go ?_; conv => whnf))
      refine CodeT.loopN tabOk mixed I ks.length _ (StW.ofP [0, 1, 2, 3, 4] ?_ ?_ ?_) (fun k => by subst hI; rfl) ?_
      · subst hI; kernel_rfl
      · subst hI; rfl
      · subst hI; rfl
      intro k hkl
      subst hI
      have hKk : (setK K (ks.take k)).length = n := by rw [setK_len, hK]
      show evC Try.prog tab _ _ (menI _ n L R K ks k).1 (menI _ n L R K ks k).2 _
      by_cases hk : k < ks.length
      · have hs := setK_succ (K := K) hk
        have hkm := hlt ks[k] (List.getElem_mem _)
        have hg := kz_get (J := []) hk
        rw [List.append_nil] at hg
        unfold menI
        generalize setK K (ks.take k) = T at *
        generalize ks[k] = i at *
        have g2 := kn_get (K := T) (k := i) (by omega)
        have e2 : (kz (T.set i 1)).map intS = ((kz T).map intS).set (0 + (i : Int).toNat) (intS (1 : Nat)) := kn_set
        conv => whnf
        repeat (first | (refine ⟨(by kernel_rfl : chkR _ _ _ _ = true), ?_⟩; conv => whnf) | (refine EvOr.go ?_; conv => whnf))
        intro c hc
        obtain rfl : c = true := by rw [hc]; exact decide_eq_true (by omega)
        conv => whnf
        repeat (first | (refine ⟨(by kernel_rfl : chkR _ _ _ _ = true), ?_⟩; conv => whnf) | (refine EvOr.go ?_; conv => whnf))
        refine ⟨⟨by omega, by omega⟩, ?_⟩
        conv => whnf
        repeat (first | (refine ⟨(by kernel_rfl : chkR _ _ _ _ = true), ?_⟩; conv => whnf) | (refine EvOr.go ?_; conv => whnf))
        refine ⟨_, hg, ?_⟩
        conv => whnf
        repeat (first | (refine ⟨(by kernel_rfl : chkR _ _ _ _ = true), ?_⟩; conv => whnf) | (refine EvOr.go ?_; conv => whnf))
        refine ⟨⟨by omega, by omega⟩, ?_⟩
        conv => whnf
        repeat (first | (refine ⟨(by kernel_rfl : chkR _ _ _ _ = true), ?_⟩; conv => whnf) | (refine EvOr.go ?_; conv => whnf))
        refine ⟨_, g2, ?_⟩
        conv => whnf
        repeat (first | (refine ⟨(by kernel_rfl : chkR _ _ _ _ = true), ?_⟩; conv => whnf) | (refine EvOr.go ?_; conv => whnf))
        refine ⟨_, inc_nat (by omega), ?_⟩
        conv => whnf
        repeat (first | (refine ⟨(by kernel_rfl : chkR _ _ _ _ = true), ?_⟩; conv => whnf) | (refine EvOr.go ?_; conv => whnf))
        refine ⟨by omega, _, StW.ofP [0, 1, 2, 3, 4] ?_ ?_ ?_⟩
        · kernel_rfl
        · rfl
        · simp only [menI, hs, knB, e2]; rfl
      · obtain rfl : k = ks.length := by omega
        unfold menI
        rw [List.take_length]
        conv => whnf
        repeat (first | (refine ⟨(by kernel_rfl : chkR _ _ _ _ = true), ?_⟩; conv => whnf) | (refine EvOr.go ?_; conv => whnf))
        intro c hc
        obtain rfl : c = false := by rw [hc]; exact decide_eq_false (by omega)
        conv => whnf
        repeat (first | (refine ⟨(by kernel_rfl : chkR _ _ _ _ = true), ?_⟩; conv => whnf) | (refine EvOr.go ?_; conv => whnf))
        exact retQ.allS tabOk [0, 1, 2, 4, 3] _ [.sc (.sl 3 0 1 ks.length none), iv 0] rfl (by first | exact .inr rfl | exact .inl rfl) (by repeat' (first | exact trivial | rfl | (intro h; cases h; done) | (refine ⟨?_, ?_⟩))) rfl (by rfl) (by kernel_rfl) (by first | rfl | kernel_rfl)
end Go.Proofs.Ytdmcbfmpnakdfaa.Eng.St
