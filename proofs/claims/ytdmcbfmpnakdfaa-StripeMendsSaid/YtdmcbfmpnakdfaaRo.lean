/- StripeMends, walked whole. -/
import Derived.Test.YtdmcbfmpnakdfaaRl
import Derived.Test.YtdmcbfmpnakdfaaRq
namespace Go.Proofs.Ytdmcbfmpnakdfaa.Eng.St
open Go Go.RowKit Go.Shelf Go.Proofs Go.Proofs.Ytdmcbfmpnakdfaa.Gf Go.Proofs.Ytdmcbfmpnakdfaa.Rf Go.Proofs.Ytdmcbfmpnakdfaa.Oa
set_option maxRecDepth 20000
set_option maxHeartbeats 8000000
theorem kz_pos {ks : List Nat} (h : 0 < ks.length) : 0 < (kz ks).length := by rw [kz_len]; exact h
/-- A mending that brings a right row back. -/
theorem mend_back (x : Bool) (T L : List (List Nat)) (K : List Nat) (hT : Secs T) (h2 : 2 ≤ T.length) (h62 : T.length ≤ 62) (hS : Secs L) (hL : L.length = T.length + 2) (hK : K.length = T.length + 2) (h3 : (lostN (T.length + 2) K).length ≤ 2) (h0 : 0 < (lostN (T.length + 2) K).length)
    (h : ∀ j, j < T.length + 2 → K.getD j 0 ≠ 0 → L.getD j [] = (rowOf T).getD j []) :
    FunT Try.prog 55 [rpV] (rw3 x (T.length + 2) L K) (.tup [.sc (.sl 4 0 1 (lostN (T.length + 2) K).length none), iv 0]) [rowM (T.length + 2), colB x L, knB (setK K (lostN (T.length + 2) K)), rowX (rowOf T), rowI (kz (lostN (T.length + 2) K))] := by
  have m := mend_ok x (T.length + 2) L K (by omega) (by omega) hL hK hS h3
  rw [fix_back hT (by omega) h62 hS hL h3 h] at m
  obtain ⟨q1, q2⟩ := nr_row 4 (T := kz (lostN (T.length + 2) K)) (kz_pos h0)
  rw [q1, q2, kz_len] at m
  exact m
/-- Sectors that may be none. -/
def nsS (L : List (List Nat)) (id : Nat) : SV := match L with
  | [] => nilS
  | L => .sl id 0 64 L.length none
def nsB (L : List (List Nat)) : Option ABlk := match L with
  | [] => none
  | L => rowX L
theorem ns_row {L : List (List Nat)} (id : Nat) (h : 0 < L.length) : nsS L id = .sl id 0 64 L.length none ∧ nsB L = rowX L := by
  cases L with
  | nil => cases h
  | cons a r => exact ⟨rfl, rfl⟩
abbrev b87 (x : List Nat) : Option ABlk := some (.row .one 87 3 [[.byt 3 x]] [])
abbrev rowU (n : Nat) : Option ABlk := some (.row .one 108 2 [[.one (.sl 4 0 64 n (some n)), .one (.sl 5 0 1 n (some n))]] [4, 5])
def menW (c : Nat) (T R : List (List Nat)) (x s : List Nat) (i k m : Nat) (j : Nat) : LTm × LHp :=
  ([.sc (.sl 0 0 64 T.length (some c)), .junk, .junk, .junk, .junk, .sc (.ptr 2 0 64 0), .junk, .sc (.ptr 3 0 2 0), iv (T.length + 2 : Nat), iv (i : Nat), iv (k : Nat), iv (m : Nat), .sc (nsS (R.take j) 6), iv (j : Nat), .junk, .junk, .junk, .junk, .junk, .junk, .junk, .junk, .junk, .junk, .junk, .junk, .junk, .junk, .junk, .junk, .junk, .junk, .junk, .junk, .junk, .junk, .junk, .junk, .junk, .junk, .junk, .junk, .junk, .junk, .junk, .junk, .junk, .junk, .junk, .junk, .junk, .junk, .junk, .junk, .junk, .junk, .junk, .junk, .junk, .junk, .junk, .junk, .junk, .junk, .junk, .junk, .junk, .junk, .junk, .junk, .junk, .junk, .junk, .junk, .junk, .junk, .junk, .junk, .junk, .junk, .junk, .junk, .junk, .junk, .junk, .junk, .junk, .junk, .junk, .junk, .junk, .junk, .junk, .junk, .junk, .junk, .junk, .junk, .junk, .junk, .junk, .junk, .junk, .junk, .junk, .junk, .junk, .junk, .junk, .junk, .junk, .junk, .junk, .junk, .junk, .junk, .junk, .junk, .junk, .junk, .junk, .junk, .junk, .junk, .junk, .junk, .junk, .junk, .junk, .junk, .junk, .junk, .junk, .junk, .junk, .junk, .junk, .junk, .junk, .junk, .junk, .junk, .junk, .junk, .junk, .junk, .junk, .junk, .junk, .junk, .junk, .junk, .junk, .junk, .junk, .junk, .junk, .junk],
   [rowS T, b87 x, secB s, rowU (T.length + 2), colB false R, knB (ones (T.length + 2)), nsB (R.take j)])
def menX (c N i k m a : Nat) (T R : List (List Nat)) (K : List Nat) (x s : List Nat) (j : Nat) : LTm × LHp :=
  ([.sc (.sl 0 0 64 T.length (some c)), .junk, .junk, .junk, .junk, .sc (.ptr 2 0 64 0), .junk, .sc (.ptr 3 0 2 0), iv (N : Nat), iv (i : Nat), iv (k : Nat), iv (m : Nat), .sc (.sl 6 0 64 a none), .junk, .junk, .junk, .junk, .junk, iv (j : Nat), .junk, .junk, .junk, .junk, .junk, .junk, .junk, .junk, .junk, .junk, .junk, .junk, .junk, .junk, .junk, .junk, .junk, .junk, .junk, .junk, .junk, .junk, .junk, .junk, .junk, .junk, .junk, .junk, .junk, .junk, .junk, .junk, .junk, .junk, .junk, .junk, .junk, .junk, .junk, .junk, .junk, .junk, .junk, .junk, .junk, .junk, .junk, .junk, .junk, .junk, .junk, .junk, .junk, .junk, .junk, .junk, .junk, .junk, .junk, .junk, .junk, .junk, .junk, .junk, .junk, .junk, .junk, .junk, .junk, .junk, .junk, .junk, .junk, .junk, .junk, .junk, .junk, .junk, .junk, .junk, .junk, .junk, .junk, .junk, .junk, .junk, .junk, .junk, .junk, .junk, .junk, .junk, .junk, .junk, .junk, .junk, .junk, .junk, .junk, .junk, .junk, .junk, .junk, .junk, .junk, .junk, .junk, .junk, .junk, .junk, .junk, .junk, .junk, .junk, .junk, .junk, .junk, .junk, .junk, .junk, .junk, .junk, .junk, .junk, .junk, .junk, .junk, .junk, .junk, .junk, .junk, .junk, .junk, .junk, .junk, .junk, .junk, .junk, .junk],
   [rowS T, b87 x, secB s, some (.row .one 108 2 [[.one (.sl 4 0 64 N none), .one (.sl 5 0 1 N (some N))]] [4, 5]), rowX R, knB K, rowX R])
theorem ones_lost (n : Nat) : lostL n (ones n) = [] := by
  refine List.eq_nil_iff_forall_not_mem.2 fun x hx => ?_
  obtain ⟨j, _, h1, hj⟩ := hold_mem.1 hx
  unfold gone ones at hj
  rw [List.getD_eq_getElem?_getD, List.getElem?_replicate, if_pos h1] at hj
  exact absurd hj (by decide)
theorem ones_at {n k : Nat} (hk : k < n) : (ones n).getD k 0 = 1 := by
  unfold ones
  rw [List.getD_eq_getElem?_getD, List.getElem?_replicate, if_pos hk]; rfl
theorem conv64 {a : Nat} (ha : a < 256) : IntKind.i64.wrap (a : Nat) = ((a : Nat) : Int) := IntWalk.i64_in _ ⟨by omega, by omega⟩
theorem rem_nat {a n : Nat} (hn : 0 < n) (hb : n < 2 ^ 62) : arithI .rem .i64 (a : Nat) (n : Nat) = some ((a % n : Nat) : Int) := by
  rw [col_rem hn hb, Int.tmod_eq_emod_of_nonneg (by omega)]; rfl
theorem mends_row (c : Nat) (T : List (List Nat)) (x s : List Nat) (hT : Secs T) (h2 : 2 ≤ T.length) (h62 : T.length ≤ 62) (hx : x.length = 3) (hxb : ∀ b ∈ x, b < 256) (hs : Sec s) :
    FunT Try.prog 12 [.sc (.sl 0 0 64 T.length (some c)), .agg [.byt 3 x], secV s] [rowS T] (bv true) [rowS T] := by
  have r0 := rig_ok (some c) T hT h2 h62
  have e1 : arithI .add .i64 (T.length : Nat) 2 = some ((T.length + 2 : Nat) : Int) := add_nat (b := 2) (by omega) (by decide)
  have hl := rowOf_len T
  have ol : (ones (T.length + 2)).length = T.length + 2 := List.length_replicate
  obtain ⟨x0, x1, x2, rfl⟩ : ∃ x0 x1 x2, x = [x0, x1, x2] := by
    match x, hx with
    | [a, b, c], _ => exact ⟨a, b, c, rfl⟩
  have b0 := hxb x0 (by simp)
  have b1 := hxb x1 (by simp)
  have b2 := hxb x2 (by simp)
  have m0 := rem_nat (a := x0) (n := T.length + 2) (by omega) (by omega)
  have m1 := rem_nat (a := x1) (n := T.length + 2) (by omega) (by omega)
  have m2 := rem_nat (a := x2) (n := T.length + 2) (by omega) (by omega)
  have l0 := Nat.mod_lt x0 (show 0 < T.length + 2 by omega)
  have l1 := Nat.mod_lt x1 (show 0 < T.length + 2 by omega)
  have l2 := Nat.mod_lt x2 (show 0 < T.length + 2 by omega)
  generalize x0 % (T.length + 2) = i at *
  generalize x1 % (T.length + 2) = k at *
  generalize x2 % (T.length + 2) = m at *
  have hS := rowOf_secs hT
  have gc : ∀ j : Nat, j < T.length + 2 → FunT Try.prog 57 [rpV, iv (j : Nat)] (rw3 false (T.length + 2) (rowOf T) (ones (T.length + 2))) (.tup [secV ((rowOf T).getD j []), iv 0]) (rw3 false (T.length + 2) (rowOf T) (ones (T.length + 2))) := fun j hj => by
    have := get_in false (T.length + 2) (rowOf T) (ones (T.length + 2)) j hj hl ol
    unfold getS getE at this
    rw [ones_at hj, if_neg (by decide), if_neg (by decide)] at this
    exact this
  have pr := rowOf_right (T := T) (by omega) h62
  obtain ⟨R, hR⟩ : ∃ R, R = rowOf T := ⟨_, rfl⟩
  have p1 := put_in false (T.length + 2) (rowOf T) (ones (T.length + 2)) i s l0 (by omega) hl ol (by rw [ones_at l0]; decide)
  obtain ⟨K1, k1⟩ : ∃ K1, K1 = (ones (T.length + 2)).set i ((ones (T.length + 2)).getD i 0 + 1) := ⟨_, rfl⟩
  have n1 : K1.length = T.length + 2 := by rw [k1, List.length_set, ol]
  have g1 : ∀ j, K1.getD j 0 = if j = i then 2 else (ones (T.length + 2)).getD j 0 := fun j => by rw [k1, getD_setN (by omega), ones_at l0]
  rw [← k1] at p1
  have p2 := lose_in false (T.length + 2) ((rowOf T).set i s) K1 i l0 n1
  obtain ⟨K2, k2⟩ : ∃ K2, K2 = K1.set i 0 := ⟨_, rfl⟩
  have n2 : K2.length = T.length + 2 := by rw [k2, List.length_set, n1]
  have g2 : ∀ j, K2.getD j 0 = if j = i then 0 else K1.getD j 0 := fun j => by rw [k2, getD_setN (by omega)]
  rw [← k2] at p2
  have y2 : K2.getD k 0 < 2 ^ 40 := by
    rw [g2]
    by_cases c1 : k = i
    · rw [if_pos c1]; decide
    · rw [if_neg c1, g1, if_neg c1, ones_at l1]; decide
  have p3 := put_in false (T.length + 2) ((rowOf T).set i s) K2 k s l1 (by omega) (by rw [List.length_set, hl]) n2 y2
  obtain ⟨K3, k3⟩ : ∃ K3, K3 = K2.set k (K2.getD k 0 + 1) := ⟨_, rfl⟩
  have n3 : K3.length = T.length + 2 := by rw [k3, List.length_set, n2]
  have g3 : ∀ j, K3.getD j 0 = if j = k then K2.getD k 0 + 1 else K2.getD j 0 := fun j => by rw [k3, getD_setN (by omega)]
  rw [← k3] at p3
  have p4 := lose_in false (T.length + 2) (((rowOf T).set i s).set k s) K3 k l1 n3
  obtain ⟨K4, k4⟩ : ∃ K4, K4 = K3.set k 0 := ⟨_, rfl⟩
  have n4 : K4.length = T.length + 2 := by rw [k4, List.length_set, n3]
  have g4 : ∀ j, K4.getD j 0 = if j = k then 0 else K3.getD j 0 := fun j => by rw [k4, getD_setN (by omega)]
  rw [← k4] at p4
  have z4 : ∀ j, (j < T.length + 2 ∧ K4.getD j 0 = 0) ↔ j = i ∨ j = k := fun j => by
    by_cases c1 : j = k
    · rw [g4, if_pos c1]
      exact ⟨fun _ => .inr c1, fun _ => ⟨by omega, rfl⟩⟩
    · rw [g4, if_neg c1, g3, if_neg c1, g2]
      by_cases c2 : j = i
      · rw [if_pos c2]
        exact ⟨fun _ => .inl c2, fun _ => ⟨by omega, rfl⟩⟩
      · rw [if_neg c2, g1, if_neg c2]
        refine ⟨fun h => ?_, fun h => (h.elim c2 c1).elim⟩
        have h9 := h.2
        rw [ones_at h.1] at h9
        exact absurd h9 (by decide)
  have c4 := lost_two z4
  have hS4 : Secs (((rowOf T).set i s).set k s) := set_secs (set_secs hS hs) hs
  have hl4 : (((rowOf T).set i s).set k s).length = T.length + 2 := by rw [List.length_set, List.length_set, hl]
  have p5 := mend_back false T (((rowOf T).set i s).set k s) K4 hT h2 h62 hS4 hl4 n4 (by rw [c4]; split <;> omega) (by rw [c4]; split <;> omega) (fun j hj hK => by
    have c1 : ¬ j = k := fun e => hK ((z4 j).2 (.inr e)).2
    have c2 : ¬ j = i := fun e => hK ((z4 j).2 (.inl e)).2
    rw [getD_set (by rw [List.length_set, hl]; omega), if_neg c1, getD_set (by omega), if_neg c2])
  have n5 : (setK K4 (lostN (T.length + 2) K4)).length = T.length + 2 := by rw [setK_len, n4]
  have s5 := fun j (hj : j < T.length + 2) => setK_some n4 hj
  have o5 := setK_lost n4
  generalize lostN (T.length + 2) K4 = ks at *
  generalize setK K4 ks = K5 at *
  have p6 := rright_ok true (T.length + 2) (rowOf T) K5 (by omega) (by omega) hl n5 hS
  rw [lost_kz, o5, pr] at p6
  have p6 : FunT Try.prog 56 [rpV] (rw3 true (T.length + 2) (rowOf T) K5) (bv true) (rw3 true (T.length + 2) (rowOf T) K5) := p6
  have gd : ∀ j : Nat, j < T.length + 2 → FunT Try.prog 57 [rpV, iv (j : Nat)] (rw3 true (T.length + 2) (rowOf T) K5) (.tup [secV ((rowOf T).getD j []), iv 0]) (rw3 true (T.length + 2) (rowOf T) K5) := fun j hj => by
    have := get_in true (T.length + 2) (rowOf T) K5 j hj hl n5
    unfold getS getE at this
    rw [if_neg (s5 j hj), if_neg (s5 j hj)] at this
    exact this
  have u1 := lose_in true (T.length + 2) (rowOf T) K5 i l0 n5
  have u2 := lose_in true (T.length + 2) (rowOf T) (K5.set i 0) k l1 (by rw [List.length_set, n5])
  have u3 := lose_in true (T.length + 2) (rowOf T) ((K5.set i 0).set k 0) m l2 (by rw [List.length_set, List.length_set, n5])
  have n6 : (((K5.set i 0).set k 0).set m 0).length = T.length + 2 := by rw [List.length_set, List.length_set, List.length_set, n5]
  have z6 : ∀ j, (j < T.length + 2 ∧ (((K5.set i 0).set k 0).set m 0).getD j 0 = 0) ↔ j = i ∨ j = k ∨ j = m := fun j => by
    rw [getD_setN (by rw [List.length_set, List.length_set, n5]; exact l2), getD_setN (by rw [List.length_set, n5]; exact l1), getD_setN (by rw [n5]; exact l0)]
    by_cases c1 : j = m
    · rw [if_pos c1]; exact ⟨fun _ => .inr (.inr c1), fun _ => ⟨by omega, rfl⟩⟩
    · rw [if_neg c1]
      by_cases c2 : j = k
      · rw [if_pos c2]; exact ⟨fun _ => .inr (.inl c2), fun _ => ⟨by omega, rfl⟩⟩
      · rw [if_neg c2]
        by_cases c3 : j = i
        · rw [if_pos c3]; exact ⟨fun _ => .inl c3, fun _ => ⟨by omega, rfl⟩⟩
        · rw [if_neg c3]
          exact ⟨fun h => absurd h.2 (s5 j h.1), fun h => by omega⟩
  generalize ((K5.set i 0).set k 0).set m 0 = K6 at *
  obtain ⟨c6, c7, c8⟩ := lost_three z6
  have v3 : (i ≠ k ∧ k ≠ m ∧ i ≠ m) → FunT Try.prog 55 [rpV] (rw3 true (T.length + 2) (rowOf T) K6) (.tup [.sc nilS, iv 7]) (rw3 true (T.length + 2) (rowOf T) K6) ∧ FunT Try.prog 59 [rpV] (rw3 true (T.length + 2) (rowOf T) K6) (.sc (.sl 3 0 1 3 none)) (rw3 true (T.length + 2) (rowOf T) K6 ++ [rowI (kz (lostN (T.length + 2) K6))]) := fun h => by
    have h3 := c6.2 h
    refine ⟨mend_full true (T.length + 2) (rowOf T) K6 (by omega) (by omega) hl n6 hS (by omega), ?_⟩
    have := lost_ok true (T.length + 2) (rowOf T) K6 (by omega) (by omega) n6
    rw [lost_kz] at this
    obtain ⟨w1, w2⟩ := nr_row 3 (T := kz (lostN (T.length + 2) K6)) (kz_pos c8)
    rw [w1, w2, kz_len, h3] at this
    exact this
  have v2 : ¬ (i ≠ k ∧ k ≠ m ∧ i ≠ m) → FunT Try.prog 55 [rpV] (rw3 true (T.length + 2) (rowOf T) K6) (.tup [.sc (.sl 4 0 1 (lostN (T.length + 2) K6).length none), iv 0]) [rowM (T.length + 2), colB true (rowOf T), knB (setK K6 (lostN (T.length + 2) K6)), rowX (rowOf T), rowI (kz (lostN (T.length + 2) K6))] ∧ FunT Try.prog 59 [rpV] (rw3 true (T.length + 2) (rowOf T) (setK K6 (lostN (T.length + 2) K6))) (.sc nilS) (rw3 true (T.length + 2) (rowOf T) (setK K6 (lostN (T.length + 2) K6)) ++ [none]) := fun h => by
    have h3 : (lostN (T.length + 2) K6).length ≤ 2 := by
      have := fun e => h (c6.1 e)
      omega
    refine ⟨mend_back true T (rowOf T) K6 hT h2 h62 hS hl n6 h3 c8 (fun _ _ _ => rfl), ?_⟩
    have := lost_ok true (T.length + 2) (rowOf T) (setK K6 (lostN (T.length + 2) K6)) (by omega) (by omega) (by rw [setK_len, n6])
    rw [lost_kz, setK_lost n6] at this
    exact this
  generalize setK K6 (lostN (T.length + 2) K6) = K7 at *
  generalize kz (lostN (T.length + 2) K6) = kk6 at *
  generalize (lostN (T.length + 2) K6).length = a6 at *
  rw [← hR] at r0 gc gd hl hS p1 p2 p3 p4 p5 p6 u1 u2 u3 v2 v3
  obtain ⟨J, hJ⟩ : ∃ J, J = menX c (T.length + 2) i k m (T.length + 2) T R K5 [x0, x1, x2] s := ⟨_, rfl⟩
  generalize ks.length = a at *
  generalize kz ks = kk at *
  generalize R.set i s = L1 at *
  generalize L1.set k s = L2 at *
  obtain ⟨I, hI⟩ : ∃ I, I = menW c T R [x0, x1, x2] s i k m := ⟨_, rfl⟩
  refine FunT.ev tabOk mixed Try.func12 rfl ?_
  conv => whnf
  repeat (first | (refine ⟨(by kernel_rfl : chkR _ _ _ _ = true), ?_⟩; conv => whnf) | (refine EvOr.go ?_; conv => whnf))
  refine CallG.use r0 c58 [0] [] ?_ ?_ ?_ ?_ ?_ ?_; rfl; rfl; kernel_rfl; rfl; rfl
  conv => whnf
  repeat (first | (refine ⟨(by kernel_rfl : chkR _ _ _ _ = true), ?_⟩; conv => whnf) | (refine EvOr.go ?_; conv => whnf))
  refine ⟨_, e1, ?_⟩
  conv => whnf
  repeat (first | (refine ⟨(by kernel_rfl : chkR _ _ _ _ = true), ?_⟩; conv => whnf) | (refine EvOr.go ?_; conv => whnf))
  refine ⟨⟨by decide, by decide⟩, ?_⟩
  conv => whnf
  repeat (first | (refine ⟨(by kernel_rfl : chkR _ _ _ _ = true), ?_⟩; conv => whnf) | (refine EvOr.go ?_; conv => whnf))
  refine ⟨by decide, ?_⟩
  conv => whnf
  repeat (first | (refine ⟨(by kernel_rfl : chkR _ _ _ _ = true), ?_⟩; conv => whnf) | (refine EvOr.go ?_; conv => whnf))
  refine ⟨_, conv64 b0, ?_⟩
  conv => whnf
  repeat (first | (refine ⟨(by kernel_rfl : chkR _ _ _ _ = true), ?_⟩; conv => whnf) | (refine EvOr.go ?_; conv => whnf))
  refine ⟨_, m0, ?_⟩
  conv => whnf
  repeat (first | (refine ⟨(by kernel_rfl : chkR _ _ _ _ = true), ?_⟩; conv => whnf) | (refine EvOr.go ?_; conv => whnf))
  refine ⟨⟨by decide, by decide⟩, ?_⟩
  conv => whnf
  repeat (first | (refine ⟨(by kernel_rfl : chkR _ _ _ _ = true), ?_⟩; conv => whnf) | (refine EvOr.go ?_; conv => whnf))
  refine ⟨by decide, ?_⟩
  conv => whnf
  repeat (first | (refine ⟨(by kernel_rfl : chkR _ _ _ _ = true), ?_⟩; conv => whnf) | (refine EvOr.go ?_; conv => whnf))
  refine ⟨_, conv64 b1, ?_⟩
  conv => whnf
  repeat (first | (refine ⟨(by kernel_rfl : chkR _ _ _ _ = true), ?_⟩; conv => whnf) | (refine EvOr.go ?_; conv => whnf))
  refine ⟨_, m1, ?_⟩
  conv => whnf
  repeat (first | (refine ⟨(by kernel_rfl : chkR _ _ _ _ = true), ?_⟩; conv => whnf) | (refine EvOr.go ?_; conv => whnf))
  refine ⟨⟨by decide, by decide⟩, ?_⟩
  conv => whnf
  repeat (first | (refine ⟨(by kernel_rfl : chkR _ _ _ _ = true), ?_⟩; conv => whnf) | (refine EvOr.go ?_; conv => whnf))
  refine ⟨by decide, ?_⟩
  conv => whnf
  repeat (first | (refine ⟨(by kernel_rfl : chkR _ _ _ _ = true), ?_⟩; conv => whnf) | (refine EvOr.go ?_; conv => whnf))
  refine ⟨_, conv64 b2, ?_⟩
  conv => whnf
  repeat (first | (refine ⟨(by kernel_rfl : chkR _ _ _ _ = true), ?_⟩; conv => whnf) | (refine EvOr.go ?_; conv => whnf))
  refine ⟨_, m2, ?_⟩
  conv => whnf
  repeat (first | (refine ⟨(by kernel_rfl : chkR _ _ _ _ = true), ?_⟩; conv => whnf) | (refine EvOr.go ?_; conv => whnf))
  refine CodeT.loopN tabOk mixed I (T.length + 2) _ (StW.ofP [0, 1, 2, 3, 4, 5, 6] ?_ ?_ ?_) (fun j => by subst hI; rfl) ?_
  · subst hI; kernel_rfl
  · subst hI; rfl
  · subst hI; rfl
  intro j hjl
  subst hI
  show evC Try.prog tab _ _ (menW c T R [x0, x1, x2] s i k m j).1 (menW c T R [x0, x1, x2] s i k m j).2 _
  by_cases hj : j < T.length + 2
  · have gj := gc j hj
    have tk : R.take (j + 1) = R.take j ++ [R.getD j []] := by
      rw [List.take_succ_eq_append_getElem (by omega), List.getD_eq_getElem?_getD, List.getElem?_eq_getElem (by omega)]; rfl
    have tl : (R.take j).length = j := by rw [List.length_take]; omega
    by_cases h0 : j = 0
    · subst h0
      unfold menW
      have tk : R.take (0 + 1) = [R.getD 0 []] := tk
      generalize R.getD 0 [] = y at *
      conv => whnf
      repeat (first | (refine ⟨(by kernel_rfl : chkR _ _ _ _ = true), ?_⟩; conv => whnf) | (refine EvOr.go ?_; conv => whnf))
      intro c hc
      obtain rfl : c = true := by rw [hc]; exact decide_eq_true (by omega)
      conv => whnf
      repeat (first | (refine ⟨(by kernel_rfl : chkR _ _ _ _ = true), ?_⟩; conv => whnf) | (refine EvOr.go ?_; conv => whnf))
      refine CallG.use gj c57 [3, 4, 5] [] ?_ ?_ ?_ ?_ ?_ ?_; rfl; rfl; kernel_rfl; rfl; rfl
      conv => whnf
      repeat (first | (refine ⟨(by kernel_rfl : chkR _ _ _ _ = true), ?_⟩; conv => whnf) | (refine EvOr.go ?_; conv => whnf))
      refine ⟨by simp, ?_⟩
      conv => whnf
      repeat (first | (refine ⟨(by kernel_rfl : chkR _ _ _ _ = true), ?_⟩; conv => whnf) | (refine EvOr.go ?_; conv => whnf))
      refine ⟨fun h => absurd h (by decide), fun _ => ⟨by decide, ?_⟩⟩
      conv => whnf
      repeat (first | (refine ⟨(by kernel_rfl : chkR _ _ _ _ = true), ?_⟩; conv => whnf) | (refine EvOr.go ?_; conv => whnf))
      refine ⟨_, inc_nat (by omega), ?_⟩
      conv => whnf
      repeat (first | (refine ⟨(by kernel_rfl : chkR _ _ _ _ = true), ?_⟩; conv => whnf) | (refine EvOr.go ?_; conv => whnf))
      refine ⟨by omega, _, StW.ofP [0, 1, 2, 3, 4, 5, 9] ?_ ?_ ?_⟩
      · show stP _ _ (menW c T R [x0, x1, x2] s i k m (0 + 1)).2 = true
        simp only [menW, tk]; kernel_rfl
      · show maskT _ (menW c T R [x0, x1, x2] s i k m (0 + 1)).1 = renT _ (menW c T R [x0, x1, x2] s i k m (0 + 1)).1
        simp only [menW, tk]; rfl
      · show pickH _ _ 0 (menW c T R [x0, x1, x2] s i k m (0 + 1)).2 = renH _ (menW c T R [x0, x1, x2] s i k m (0 + 1)).2
        simp only [menW, tk]; rfl
    · obtain ⟨q1, q2⟩ := ns_row (L := R.take j) 6 (by omega)
      obtain ⟨q3, q4⟩ := ns_row (L := R.take (j + 1)) 6 (by rw [List.length_take]; omega)
      rw [tl] at q1
      have tl2 : (R.take (j + 1)).length = j + 1 := by rw [List.length_take]; omega
      rw [tl2] at q3
      unfold menW
      rw [q1, q2]
      have em : (R.take (j + 1)).map secS = List.take j (List.drop 0 ((R.take j).map secS)) ++ [[.byt 64 (R.getD j [])]] := by
        have e9 : List.take j ((R.take j).map secS) = (R.take j).map secS := List.take_of_length_le (by rw [List.length_map]; omega)
        rw [tk, List.map_append, List.drop_zero, e9]; rfl
      generalize R.getD j [] = y at *
      conv => whnf
      repeat (first | (refine ⟨(by kernel_rfl : chkR _ _ _ _ = true), ?_⟩; conv => whnf) | (refine EvOr.go ?_; conv => whnf))
      intro c hc
      obtain rfl : c = true := by rw [hc]; exact decide_eq_true (by omega)
      conv => whnf
      repeat (first | (refine ⟨(by kernel_rfl : chkR _ _ _ _ = true), ?_⟩; conv => whnf) | (refine EvOr.go ?_; conv => whnf))
      refine CallG.use gj c57 [3, 4, 5] [] ?_ ?_ ?_ ?_ ?_ ?_; rfl; rfl; kernel_rfl; rfl; rfl
      conv => whnf
      repeat (first | (refine ⟨(by kernel_rfl : chkR _ _ _ _ = true), ?_⟩; conv => whnf) | (refine EvOr.go ?_; conv => whnf))
      refine ⟨by simp, ?_⟩
      conv => whnf
      repeat (first | (refine ⟨(by kernel_rfl : chkR _ _ _ _ = true), ?_⟩; conv => whnf) | (refine EvOr.go ?_; conv => whnf))
      refine ⟨by rw [List.length_map]; omega, fun h => absurd h (by decide), fun _ => ⟨by show (2 * (j + 1) + 192) * 64 ≤ 2 ^ 48; omega, ?_⟩⟩
      conv => whnf
      repeat (first | (refine ⟨(by kernel_rfl : chkR _ _ _ _ = true), ?_⟩; conv => whnf) | (refine EvOr.go ?_; conv => whnf))
      refine ⟨_, inc_nat (by omega), ?_⟩
      conv => whnf
      repeat (first | (refine ⟨(by kernel_rfl : chkR _ _ _ _ = true), ?_⟩; conv => whnf) | (refine EvOr.go ?_; conv => whnf))
      refine ⟨by omega, _, StW.ofP [0, 1, 2, 3, 4, 5, 9] ?_ ?_ ?_⟩
      · show stP _ _ (menW c T R [x0, x1, x2] s i k m (j + 1)).2 = true
        simp only [menW, q4]; kernel_rfl
      · show maskT _ (menW c T R [x0, x1, x2] s i k m (j + 1)).1 = renT _ (menW c T R [x0, x1, x2] s i k m (j + 1)).1
        simp only [menW, q3]; rfl
      · show pickH _ _ 0 (menW c T R [x0, x1, x2] s i k m (j + 1)).2 = renH _ (menW c T R [x0, x1, x2] s i k m (j + 1)).2
        simp only [menW, q4, rowX, em]; rfl
  · obtain rfl : j = T.length + 2 := by omega
    have tf : R.take (T.length + 2) = R := by rw [← hl, List.take_length]
    obtain ⟨q1, q2⟩ := ns_row (L := R) 6 (by omega)
    rw [hl] at q1
    unfold menW
    rw [tf, q1, q2]
    conv => whnf
    repeat (first | (refine ⟨(by kernel_rfl : chkR _ _ _ _ = true), ?_⟩; conv => whnf) | (refine EvOr.go ?_; conv => whnf))
    intro c hc
    obtain rfl : c = false := by rw [hc]; exact decide_eq_false (by omega)
    conv => whnf
    repeat (first | (refine ⟨(by kernel_rfl : chkR _ _ _ _ = true), ?_⟩; conv => whnf) | (refine EvOr.go ?_; conv => whnf))
    refine CallG.use p1 c52 [3, 4, 5] [1, 2] ?_ ?_ ?_ ?_ ?_ ?_; rfl; rfl; kernel_rfl; rfl; rfl
    conv => whnf
    repeat (first | (refine ⟨(by kernel_rfl : chkR _ _ _ _ = true), ?_⟩; conv => whnf) | (refine EvOr.go ?_; conv => whnf))
    refine CallG.use p2 c54 [3, 4, 5] [2] ?_ ?_ ?_ ?_ ?_ ?_; rfl; rfl; kernel_rfl; rfl; rfl
    conv => whnf
    repeat (first | (refine ⟨(by kernel_rfl : chkR _ _ _ _ = true), ?_⟩; conv => whnf) | (refine EvOr.go ?_; conv => whnf))
    refine CallG.use p3 c52 [3, 4, 5] [1, 2] ?_ ?_ ?_ ?_ ?_ ?_; rfl; rfl; kernel_rfl; rfl; rfl
    conv => whnf
    repeat (first | (refine ⟨(by kernel_rfl : chkR _ _ _ _ = true), ?_⟩; conv => whnf) | (refine EvOr.go ?_; conv => whnf))
    refine CallG.use p4 c54 [3, 4, 5] [2] ?_ ?_ ?_ ?_ ?_ ?_; rfl; rfl; kernel_rfl; rfl; rfl
    conv => whnf
    repeat (first | (refine ⟨(by kernel_rfl : chkR _ _ _ _ = true), ?_⟩; conv => whnf) | (refine EvOr.go ?_; conv => whnf))
    refine CallG.use p5 c55 [3, 4, 5] [0, 2] ?_ ?_ ?_ ?_ ?_ ?_; rfl; rfl; kernel_rfl; rfl; rfl
    conv => whnf
    repeat (first | (refine ⟨(by kernel_rfl : chkR _ _ _ _ = true), ?_⟩; conv => whnf) | (refine EvOr.go ?_; conv => whnf))
    intro c hc
    obtain rfl : c = false := by rw [hc]; rfl
    conv => whnf
    repeat (first | (refine ⟨(by kernel_rfl : chkR _ _ _ _ = true), ?_⟩; conv => whnf) | (refine EvOr.go ?_; conv => whnf))
    refine CallG.use p6 c56 [3, 7, 5] [] ?_ ?_ ?_ ?_ ?_ ?_; rfl; rfl; kernel_rfl; rfl; rfl
    conv => whnf
    repeat (first | (refine ⟨(by kernel_rfl : chkR _ _ _ _ = true), ?_⟩; conv => whnf) | (refine EvOr.go ?_; conv => whnf))
    intro c hc
    obtain rfl : c = decide (i = k) := by
      rw [hc, c4, Bool.eq_iff_iff, decide_eq_true_iff]
      by_cases h : i = k
      · rw [if_pos h]; simp [h]
      · rw [if_neg h]; simp [h]
    conv => whnf
    repeat (first | (refine ⟨(by kernel_rfl : chkR _ _ _ _ = true), ?_⟩; conv => whnf) | (refine EvOr.go ?_; conv => whnf))
    intro c hc
    obtain rfl : c = decide (i = k) := by
      rw [hc, Bool.eq_iff_iff, decide_eq_true_iff]
      simp
      exact Int.ofNat_inj
    conv => whnf
    repeat (first | (refine ⟨(by kernel_rfl : chkR _ _ _ _ = true), ?_⟩; conv => whnf) | (refine EvOr.go ?_; conv => whnf))
    rw [show (decide (i = k) != decide (i = k)) = false by simp]
    conv => whnf
    repeat (first | (refine ⟨(by kernel_rfl : chkR _ _ _ _ = true), ?_⟩; conv => whnf) | (refine EvOr.go ?_; conv => whnf))
    refine CodeT.loopN tabOk mixed J (T.length + 2) _ (StW.ofP [0, 1, 2, 3, 7, 5, 6] ?_ ?_ ?_) (fun j => by subst hJ; rfl) ?_
    · subst hJ; kernel_rfl
    · subst hJ; rfl
    · subst hJ; rfl
    intro j hjl
    subst hJ
    show evC Try.prog tab _ _ (menX c (T.length + 2) i k m (T.length + 2) T R K5 [x0, x1, x2] s j).1 (menX c (T.length + 2) i k m (T.length + 2) T R K5 [x0, x1, x2] s j).2 _
    by_cases hj : j < T.length + 2
    · have gj := gd j hj
      have gR := row_at (S := R) (k := j) (by omega)
      unfold menX
      generalize R.getD j [] = y at gj gR
      conv => whnf
      repeat (first | (refine ⟨(by kernel_rfl : chkR _ _ _ _ = true), ?_⟩; conv => whnf) | (refine EvOr.go ?_; conv => whnf))
      intro c hc
      obtain rfl : c = true := by rw [hc]; exact decide_eq_true (by omega)
      conv => whnf
      repeat (first | (refine ⟨(by kernel_rfl : chkR _ _ _ _ = true), ?_⟩; conv => whnf) | (refine EvOr.go ?_; conv => whnf))
      refine CallG.use gj c57 [3, 4, 5] [] ?_ ?_ ?_ ?_ ?_ ?_; rfl; rfl; kernel_rfl; rfl; rfl
      conv => whnf
      repeat (first | (refine ⟨(by kernel_rfl : chkR _ _ _ _ = true), ?_⟩; conv => whnf) | (refine EvOr.go ?_; conv => whnf))
      intro c hc
      obtain rfl : c = false := by rw [hc]; rfl
      conv => whnf
      repeat (first | (refine ⟨(by kernel_rfl : chkR _ _ _ _ = true), ?_⟩; conv => whnf) | (refine EvOr.go ?_; conv => whnf))
      refine ⟨⟨by omega, by omega⟩, ?_⟩
      conv => whnf
      repeat (first | (refine ⟨(by kernel_rfl : chkR _ _ _ _ = true), ?_⟩; conv => whnf) | (refine EvOr.go ?_; conv => whnf))
      refine ⟨_, gR, ?_⟩
      conv => whnf
      repeat (first | (refine ⟨(by kernel_rfl : chkR _ _ _ _ = true), ?_⟩; conv => whnf) | (refine EvOr.go ?_; conv => whnf))
      refine ⟨rfl, ?_⟩
      refine ⟨eq34, ?_⟩
      conv => whnf
      repeat (first | (refine ⟨(by kernel_rfl : chkR _ _ _ _ = true), ?_⟩; conv => whnf) | (refine EvOr.go ?_; conv => whnf))
      intro c hc
      obtain rfl : c = false := by
        cases c
        · rfl
        · exact absurd rfl (hc.1 rfl)
      conv => whnf
      repeat (first | (refine ⟨(by kernel_rfl : chkR _ _ _ _ = true), ?_⟩; conv => whnf) | (refine EvOr.go ?_; conv => whnf))
      conv => whnf
      repeat (first | (refine ⟨(by kernel_rfl : chkR _ _ _ _ = true), ?_⟩; conv => whnf) | (refine EvOr.go ?_; conv => whnf))
      refine ⟨_, inc_nat (by omega), ?_⟩
      conv => whnf
      repeat (first | (refine ⟨(by kernel_rfl : chkR _ _ _ _ = true), ?_⟩; conv => whnf) | (refine EvOr.go ?_; conv => whnf))
      refine ⟨by first | exact hk | omega, _, StW.ofP [0, 1, 2, 3, 4, 5, 6] ?_ ?_ ?_⟩
      · kernel_rfl
      · rfl
      · rfl
    · obtain rfl : j = T.length + 2 := by omega
      unfold menX
      conv => whnf
      repeat (first | (refine ⟨(by kernel_rfl : chkR _ _ _ _ = true), ?_⟩; conv => whnf) | (refine EvOr.go ?_; conv => whnf))
      intro c hc
      obtain rfl : c = false := by rw [hc]; exact decide_eq_false (by omega)
      conv => whnf
      repeat (first | (refine ⟨(by kernel_rfl : chkR _ _ _ _ = true), ?_⟩; conv => whnf) | (refine EvOr.go ?_; conv => whnf))
      refine CallG.use u1 c54 [3, 4, 5] [2] ?_ ?_ ?_ ?_ ?_ ?_; rfl; rfl; kernel_rfl; rfl; rfl
      conv => whnf
      repeat (first | (refine ⟨(by kernel_rfl : chkR _ _ _ _ = true), ?_⟩; conv => whnf) | (refine EvOr.go ?_; conv => whnf))
      refine CallG.use u2 c54 [3, 4, 5] [2] ?_ ?_ ?_ ?_ ?_ ?_; rfl; rfl; kernel_rfl; rfl; rfl
      conv => whnf
      repeat (first | (refine ⟨(by kernel_rfl : chkR _ _ _ _ = true), ?_⟩; conv => whnf) | (refine EvOr.go ?_; conv => whnf))
      refine CallG.use u3 c54 [3, 4, 5] [2] ?_ ?_ ?_ ?_ ?_ ?_; rfl; rfl; kernel_rfl; rfl; rfl
      conv => whnf
      repeat (first | (refine ⟨(by kernel_rfl : chkR _ _ _ _ = true), ?_⟩; conv => whnf) | (refine EvOr.go ?_; conv => whnf))
      by_cases a1 : i = k
      · obtain ⟨v5, v6⟩ := v2 (fun h => h.1 a1)
        intro c hc
        obtain rfl : c = false := by rw [hc]; simp [a1]
        conv => whnf
        repeat (first | (refine ⟨(by kernel_rfl : chkR _ _ _ _ = true), ?_⟩; conv => whnf) | (refine EvOr.go ?_; conv => whnf))
        refine CallG.use v5 c55 [3, 4, 5] [0, 2] ?_ ?_ ?_ ?_ ?_ ?_; rfl; rfl; kernel_rfl; rfl; rfl
        conv => whnf
        repeat (first | (refine ⟨(by kernel_rfl : chkR _ _ _ _ = true), ?_⟩; conv => whnf) | (refine EvOr.go ?_; conv => whnf))
        intro c hc
        obtain rfl : c = false := by rw [hc]; rfl
        conv => whnf
        repeat (first | (refine ⟨(by kernel_rfl : chkR _ _ _ _ = true), ?_⟩; conv => whnf) | (refine EvOr.go ?_; conv => whnf))
        refine CallG.use v6 c59 [3, 7, 5] [] ?_ ?_ ?_ ?_ ?_ ?_; rfl; rfl; kernel_rfl; rfl; rfl
        conv => whnf
        repeat (first | (refine ⟨(by kernel_rfl : chkR _ _ _ _ = true), ?_⟩; conv => whnf) | (refine EvOr.go ?_; conv => whnf))
        intro c hc
        obtain rfl : c = false := by rw [hc]; rfl
        conv => whnf
        repeat (first | (refine ⟨(by kernel_rfl : chkR _ _ _ _ = true), ?_⟩; conv => whnf) | (refine EvOr.go ?_; conv => whnf))
        refine CallG.use works51 c51 [] [] ?_ ?_ ?_ ?_ ?_ ?_; rfl; rfl; kernel_rfl; rfl; rfl
        conv => whnf
        repeat (first | (refine ⟨(by kernel_rfl : chkR _ _ _ _ = true), ?_⟩; conv => whnf) | (refine EvOr.go ?_; conv => whnf))
        exact retQ.one rfl (.inr rfl) rfl (Nat.le_of_ble_eq_true rfl) rfl
      · by_cases a2 : k = m
        · obtain ⟨v5, v6⟩ := v2 (fun h => h.2.1 a2)
          intro c hc
          obtain rfl : c = true := by rw [hc]; simp; omega
          conv => whnf
          repeat (first | (refine ⟨(by kernel_rfl : chkR _ _ _ _ = true), ?_⟩; conv => whnf) | (refine EvOr.go ?_; conv => whnf))
          intro c hc
          obtain rfl : c = false := by rw [hc]; simp [a2]
          conv => whnf
          repeat (first | (refine ⟨(by kernel_rfl : chkR _ _ _ _ = true), ?_⟩; conv => whnf) | (refine EvOr.go ?_; conv => whnf))
          refine CallG.use v5 c55 [3, 4, 5] [0, 2] ?_ ?_ ?_ ?_ ?_ ?_; rfl; rfl; kernel_rfl; rfl; rfl
          conv => whnf
          repeat (first | (refine ⟨(by kernel_rfl : chkR _ _ _ _ = true), ?_⟩; conv => whnf) | (refine EvOr.go ?_; conv => whnf))
          intro c hc
          obtain rfl : c = false := by rw [hc]; rfl
          conv => whnf
          repeat (first | (refine ⟨(by kernel_rfl : chkR _ _ _ _ = true), ?_⟩; conv => whnf) | (refine EvOr.go ?_; conv => whnf))
          refine CallG.use v6 c59 [3, 7, 5] [] ?_ ?_ ?_ ?_ ?_ ?_; rfl; rfl; kernel_rfl; rfl; rfl
          conv => whnf
          repeat (first | (refine ⟨(by kernel_rfl : chkR _ _ _ _ = true), ?_⟩; conv => whnf) | (refine EvOr.go ?_; conv => whnf))
          intro c hc
          obtain rfl : c = false := by rw [hc]; rfl
          conv => whnf
          repeat (first | (refine ⟨(by kernel_rfl : chkR _ _ _ _ = true), ?_⟩; conv => whnf) | (refine EvOr.go ?_; conv => whnf))
          refine CallG.use works51 c51 [] [] ?_ ?_ ?_ ?_ ?_ ?_; rfl; rfl; kernel_rfl; rfl; rfl
          conv => whnf
          repeat (first | (refine ⟨(by kernel_rfl : chkR _ _ _ _ = true), ?_⟩; conv => whnf) | (refine EvOr.go ?_; conv => whnf))
          exact retQ.one rfl (.inr rfl) rfl (Nat.le_of_ble_eq_true rfl) rfl
        · by_cases a3 : i = m
          · obtain ⟨v5, v6⟩ := v2 (fun h => h.2.2 a3)
            intro c hc
            obtain rfl : c = true := by rw [hc]; simp; omega
            conv => whnf
            repeat (first | (refine ⟨(by kernel_rfl : chkR _ _ _ _ = true), ?_⟩; conv => whnf) | (refine EvOr.go ?_; conv => whnf))
            intro c hc
            obtain rfl : c = true := by rw [hc]; simp; omega
            conv => whnf
            repeat (first | (refine ⟨(by kernel_rfl : chkR _ _ _ _ = true), ?_⟩; conv => whnf) | (refine EvOr.go ?_; conv => whnf))
            intro c hc
            obtain rfl : c = false := by rw [hc]; simp [a3]
            conv => whnf
            repeat (first | (refine ⟨(by kernel_rfl : chkR _ _ _ _ = true), ?_⟩; conv => whnf) | (refine EvOr.go ?_; conv => whnf))
            refine CallG.use v5 c55 [3, 4, 5] [0, 2] ?_ ?_ ?_ ?_ ?_ ?_; rfl; rfl; kernel_rfl; rfl; rfl
            conv => whnf
            repeat (first | (refine ⟨(by kernel_rfl : chkR _ _ _ _ = true), ?_⟩; conv => whnf) | (refine EvOr.go ?_; conv => whnf))
            intro c hc
            obtain rfl : c = false := by rw [hc]; rfl
            conv => whnf
            repeat (first | (refine ⟨(by kernel_rfl : chkR _ _ _ _ = true), ?_⟩; conv => whnf) | (refine EvOr.go ?_; conv => whnf))
            refine CallG.use v6 c59 [3, 7, 5] [] ?_ ?_ ?_ ?_ ?_ ?_; rfl; rfl; kernel_rfl; rfl; rfl
            conv => whnf
            repeat (first | (refine ⟨(by kernel_rfl : chkR _ _ _ _ = true), ?_⟩; conv => whnf) | (refine EvOr.go ?_; conv => whnf))
            intro c hc
            obtain rfl : c = false := by rw [hc]; rfl
            conv => whnf
            repeat (first | (refine ⟨(by kernel_rfl : chkR _ _ _ _ = true), ?_⟩; conv => whnf) | (refine EvOr.go ?_; conv => whnf))
            refine CallG.use works51 c51 [] [] ?_ ?_ ?_ ?_ ?_ ?_; rfl; rfl; kernel_rfl; rfl; rfl
            conv => whnf
            repeat (first | (refine ⟨(by kernel_rfl : chkR _ _ _ _ = true), ?_⟩; conv => whnf) | (refine EvOr.go ?_; conv => whnf))
            exact retQ.one rfl (.inr rfl) rfl (Nat.le_of_ble_eq_true rfl) rfl
          · obtain ⟨v5, v6⟩ := v3 ⟨a1, a2, a3⟩
            intro c hc
            obtain rfl : c = true := by rw [hc]; simp; omega
            conv => whnf
            repeat (first | (refine ⟨(by kernel_rfl : chkR _ _ _ _ = true), ?_⟩; conv => whnf) | (refine EvOr.go ?_; conv => whnf))
            intro c hc
            obtain rfl : c = true := by rw [hc]; simp; omega
            conv => whnf
            repeat (first | (refine ⟨(by kernel_rfl : chkR _ _ _ _ = true), ?_⟩; conv => whnf) | (refine EvOr.go ?_; conv => whnf))
            intro c hc
            obtain rfl : c = true := by rw [hc]; simp; omega
            conv => whnf
            repeat (first | (refine ⟨(by kernel_rfl : chkR _ _ _ _ = true), ?_⟩; conv => whnf) | (refine EvOr.go ?_; conv => whnf))
            refine CallG.use v5 c55 [3, 4, 5] [] ?_ ?_ ?_ ?_ ?_ ?_; rfl; rfl; kernel_rfl; rfl; rfl
            conv => whnf
            repeat (first | (refine ⟨(by kernel_rfl : chkR _ _ _ _ = true), ?_⟩; conv => whnf) | (refine EvOr.go ?_; conv => whnf))
            intro c hc
            obtain rfl : c = true := by rw [hc]; rfl
            conv => whnf
            repeat (first | (refine ⟨(by kernel_rfl : chkR _ _ _ _ = true), ?_⟩; conv => whnf) | (refine EvOr.go ?_; conv => whnf))
            refine CallG.use v6 c59 [3, 4, 5] [] ?_ ?_ ?_ ?_ ?_ ?_; rfl; rfl; kernel_rfl; rfl; rfl
            conv => whnf
            repeat (first | (refine ⟨(by kernel_rfl : chkR _ _ _ _ = true), ?_⟩; conv => whnf) | (refine EvOr.go ?_; conv => whnf))
            intro c hc
            obtain rfl : c = true := by rw [hc]; rfl
            conv => whnf
            repeat (first | (refine ⟨(by kernel_rfl : chkR _ _ _ _ = true), ?_⟩; conv => whnf) | (refine EvOr.go ?_; conv => whnf))
            refine CallG.use works51 c51 [] [] ?_ ?_ ?_ ?_ ?_ ?_; rfl; rfl; kernel_rfl; rfl; rfl
            conv => whnf
            repeat (first | (refine ⟨(by kernel_rfl : chkR _ _ _ _ = true), ?_⟩; conv => whnf) | (refine EvOr.go ?_; conv => whnf))
            exact retQ.one rfl (.inr rfl) rfl (Nat.le_of_ble_eq_true rfl) rfl
theorem mends_ok (c0 : Option Nat) (T : List (List Nat)) (x s : List Nat) (ok0 : slOk c0 T ∧ Secs T) (hx : x.length = 3 ∧ ∀ b ∈ x, b < 256) (hs : Sec s) :
    FunT Try.prog 12 [.sc (slA c0 64 T.length 0), .agg [.byt 3 x], secV s] [secsB c0 T] (bv true) [secsB c0 T] := by
  by_cases hn : 2 ≤ T.length ∧ T.length ≤ 62
  · cases c0 with
    | none =>
      obtain rfl : T = [] := ok0.1
      exact absurd hn.1 (by decide)
    | some c => exact mends_row c T x s ok0.2 hn.1 hn.2 hx.1 hx.2 hs
  · have r0 := rig_bad c0 T ok0.1 ok0.2 hn
    cases c0 <;>
    · refine FunT.ev tabOk mixed Try.func12 rfl ?_
      conv => whnf
      repeat (first | (refine ⟨(by kernel_rfl : chkR _ _ _ _ = true), ?_⟩; conv => whnf) | (refine EvOr.go ?_; conv => whnf))
      refine CallG.use r0 c58 [0] [] ?_ ?_ ?_ ?_ ?_ ?_; rfl; rfl; kernel_rfl; rfl; rfl
      conv => whnf
      repeat (first | (refine ⟨(by kernel_rfl : chkR _ _ _ _ = true), ?_⟩; conv => whnf) | (refine EvOr.go ?_; conv => whnf))
      refine CallG.use works51 c51 [] [] ?_ ?_ ?_ ?_ ?_ ?_; rfl; rfl; kernel_rfl; rfl; rfl
      conv => whnf
      repeat (first | (refine ⟨(by kernel_rfl : chkR _ _ _ _ = true), ?_⟩; conv => whnf) | (refine EvOr.go ?_; conv => whnf))
      exact retQ.one rfl (.inr rfl) rfl (Nat.le_of_ble_eq_true rfl) rfl
end Go.Proofs.Ytdmcbfmpnakdfaa.Eng.St
