/- StripeOrder: its loops. -/
import Derived.Test.YtdmcbfmpnakdfaaRs
namespace Go.Proofs.Ytdmcbfmpnakdfaa.Eng.St
open Go Go.RowKit Go.Shelf Go.Proofs Go.Proofs.Ytdmcbfmpnakdfaa.Gf Go.Proofs.Ytdmcbfmpnakdfaa.Rf Go.Proofs.Ytdmcbfmpnakdfaa.Oa
set_option maxRecDepth 20000
set_option maxHeartbeats 8000000
/-- From d on A stands, ahead of it the first value. -/
def fr {α : Type} (A : List α) (z : α) (d : Nat) : List α := List.replicate d z ++ A.drop d
theorem fr_len {α : Type} {A : List α} {z : α} {d : Nat} (h : d ≤ A.length) : (fr A z d).length = A.length := by simp [fr]; omega
theorem fr_zero {α : Type} {A : List α} {z : α} : fr A z 0 = A := by simp [fr]
theorem fr_at {α : Type} {A : List α} {z v : α} {d : Nat} : (fr A z (d + 1)).getD d v = z := by
  unfold fr
  rw [List.getD_eq_getElem?_getD, List.getElem?_append_left (by simp), List.getElem?_replicate, if_pos (by omega)]; rfl
theorem fr_set {α : Type} {A : List α} {z v : α} {d : Nat} (h : d < A.length) : (fr A z (d + 1)).set d (A.getD d v) = fr A z d := by
  unfold fr
  rw [List.set_append, if_pos (by simp), List.replicate_succ', List.set_append, if_neg (by simp), List.length_replicate, Nat.sub_self, List.set_cons_zero, List.append_assoc, List.getD_eq_getElem?_getD, List.getElem?_eq_getElem h]
  congr 1
  rw [List.drop_eq_getElem_cons h]; rfl
def ordA (T : List (List Nat)) : List (List Nat) := T ++ [zs 64, zs 64]
def ordB (m : Nat) : List Nat := List.replicate m 1 ++ [0, 0]
theorem ordA_len (T : List (List Nat)) : (ordA T).length = T.length + 2 := by simp [ordA]
theorem ordB_len (m : Nat) : (ordB m).length = m + 2 := by simp [ordB]
theorem ordA_at {T : List (List Nat)} {k : Nat} (h : k < T.length) : (ordA T).getD k [] = T.getD k [] := by
  unfold ordA
  rw [List.getD_eq_getElem?_getD, List.getElem?_append_left h, ← List.getD_eq_getElem?_getD]
theorem ordB_at {m k : Nat} (h : k < m) : (ordB m).getD k 0 = 1 := by
  unfold ordB
  rw [List.getD_eq_getElem?_getD, List.getElem?_append_left (by simpa using h), List.getElem?_replicate, if_pos h]; rfl
theorem ordA_secs {T : List (List Nat)} (h : Secs T) : Secs (ordA T) := fun l hl => by
  rcases List.mem_append.1 hl with h1 | h1
  · exact h l h1
  · simp only [List.mem_cons, List.not_mem_nil, or_false, or_self] at h1
    subst h1; exact zeros_sec
theorem fl_ordA (T : List (List Nat)) : fl (ordA T) (zs 64) T.length = ordA T := by
  unfold fl
  rw [ordA_len, show T.length + 2 - T.length = 2 by omega]
  unfold ordA
  rw [List.take_left]; rfl
theorem fl_ordB (m : Nat) : fl (ordB m) 0 m = ordB m := by
  unfold fl
  rw [ordB_len, show m + 2 - m = 2 by omega]
  unfold ordB
  rw [List.take_left' (by simp)]; rfl
theorem fr_ordA (T : List (List Nat)) : fr (ordA T) (zs 64) T.length = List.replicate (T.length + 2) (zs 64) := by
  unfold fr ordA
  rw [List.drop_left, show [zs 64, zs 64] = List.replicate 2 (zs 64) from rfl, List.replicate_append_replicate]
theorem fr_ordB (m : Nat) : fr (ordB m) 0 m = List.replicate (m + 2) 0 := by
  unfold fr ordB
  rw [List.drop_left' (by simp), show [0, 0] = List.replicate 2 0 from rfl, List.replicate_append_replicate]
theorem putA {T : List (List Nat)} {k : Nat} (h62 : T.length ≤ 62) (hk : k < T.length) : FunT Try.prog 52 [rpV, iv (k : Nat), secV (T.getD k [])] (rw3 false (T.length + 2) (fl (ordA T) (zs 64) k) (fl (ordB T.length) 0 k)) (iv 0) (rw3 false (T.length + 2) (fl (ordA T) (zs 64) (k + 1)) (fl (ordB T.length) 0 (k + 1))) := by
  have la := ordA_len T
  have lb := ordB_len T.length
  have := put_in false (T.length + 2) (fl (ordA T) (zs 64) k) (fl (ordB T.length) 0 k) k (T.getD k []) (by omega) (by omega) (by rw [fl_len (by omega), la]) (by rw [fl_len (by omega), lb]) (by rw [fl_at (by omega)]; decide)
  rw [← ordA_at hk, fl_set (by omega), fl_at (by omega)] at this
  rw [show 0 + 1 = (ordB T.length).getD k 0 from (ordB_at hk).symm, fl_set (by omega), ordA_at hk] at this
  exact this
theorem putB {T : List (List Nat)} {k : Nat} (h62 : T.length ≤ 62) (hk : k < T.length) : FunT Try.prog 52 [rpV, iv (k : Nat), secV (T.getD k [])] (rw3 false (T.length + 2) (fr (ordA T) (zs 64) (k + 1)) (fr (ordB T.length) 0 (k + 1))) (iv 0) (rw3 false (T.length + 2) (fr (ordA T) (zs 64) k) (fr (ordB T.length) 0 k)) := by
  have la := ordA_len T
  have lb := ordB_len T.length
  have := put_in false (T.length + 2) (fr (ordA T) (zs 64) (k + 1)) (fr (ordB T.length) 0 (k + 1)) k (T.getD k []) (by omega) (by omega) (by rw [fr_len (by omega), la]) (by rw [fr_len (by omega), lb]) (by rw [fr_at]; decide)
  rw [← ordA_at hk, fr_set (by omega), fr_at] at this
  rw [show 0 + 1 = (ordB T.length).getD k 0 from (ordB_at hk).symm, fr_set (by omega), ordA_at hk] at this
  exact this
/-- One act. -/
def osStep (n : Nat) (σ : OS) (a : ActS) : OS :=
  if a.w.tmod 2 = 0 then ⟨σ.lr.set (colOf n a.c) a.s, σ.kr.set (colOf n a.c) (σ.kr.getD (colOf n a.c) 0 + 1 + 1), σ.lq.set (colOf n a.c) a.s, σ.kq.set (colOf n a.c) 2⟩
  else ⟨σ.lr.set (colOf n a.c) (rep 9), σ.kr.set (colOf n a.c) 0, σ.lq, σ.kq.set (colOf n a.c) 0⟩
theorem osStep_inv {n : Nat} {σ : OS} {b : Nat} {a : ActS} (hn : 0 < n) (h : OInv n σ b) (hb1 : 1 ≤ b) (ha : a.Ok) : OInv n (osStep n σ a) (b + 2) := by
  obtain ⟨l1, l2, l3, l4, s1, s2, bd, zr, eq⟩ := h
  have hc := colOf_lt hn a.c
  unfold osStep
  generalize colOf n a.c = c at *
  have hb := (bd c).1
  have t2 := fun v j => getD_setN (K := σ.kr) (i := c) (j := j) (v := v) (by omega)
  have t4 := fun v j => getD_setN (K := σ.kq) (i := c) (j := j) (v := v) (by omega)
  have t1 := fun d j => getD_set (S := σ.lr) (i := c) (j := j) (d := d) (by omega)
  have t3 := fun d j => getD_set (S := σ.lq) (i := c) (j := j) (d := d) (by omega)
  split
  · refine ⟨by simp [l1], by simp [l2], by simp [l3], by simp [l4], set_secs s1 ha.s, set_secs s2 ha.s, fun j => ?_, fun j hj => ?_, fun j hj hz => ?_⟩
    · have := bd j
      show (σ.kr.set c _).getD j 0 ≤ _ ∧ (σ.kq.set c _).getD j 0 ≤ _
      rw [t2, t4]
      by_cases e : j = c
      · rw [if_pos e, if_pos e]; omega
      · rw [if_neg e, if_neg e]; omega
    · show (σ.kr.set c _).getD j 0 = 0 ↔ (σ.kq.set c _).getD j 0 = 0
      rw [t2, t4]
      by_cases e : j = c
      · rw [if_pos e, if_pos e]; omega
      · rw [if_neg e, if_neg e]; exact zr j hj
    · have hz : (σ.kr.set c _).getD j 0 ≠ 0 := hz
      show (σ.lr.set c _).getD j [] = (σ.lq.set c _).getD j []
      rw [t2] at hz
      rw [t1, t3]
      by_cases e : j = c
      · rw [if_pos e, if_pos e]
      · rw [if_neg e, if_neg e]
        rw [if_neg e] at hz
        exact eq j hj hz
  · refine ⟨by simp [l1], by simp [l2], l3, by simp [l4], set_secs s1 (rep_sec (by decide)), s2, fun j => ?_, fun j hj => ?_, fun j hj hz => ?_⟩
    · have := bd j
      show (σ.kr.set c _).getD j 0 ≤ _ ∧ (σ.kq.set c _).getD j 0 ≤ _
      rw [t2, t4]
      by_cases e : j = c
      · rw [if_pos e, if_pos e]; omega
      · rw [if_neg e, if_neg e]; omega
    · show (σ.kr.set c _).getD j 0 = 0 ↔ (σ.kq.set c _).getD j 0 = 0
      rw [t2, t4]
      by_cases e : j = c
      · rw [if_pos e, if_pos e]
      · rw [if_neg e, if_neg e]; exact zr j hj
    · have hz : (σ.kr.set c _).getD j 0 ≠ 0 := hz
      show (σ.lr.set c _).getD j [] = σ.lq.getD j []
      rw [t2] at hz
      rw [t1]
      by_cases e : j = c
      · rw [if_pos e] at hz; exact absurd rfl hz
      · rw [if_neg e]
        rw [if_neg e] at hz
        exact eq j hj hz
def osF (T : List (List Nat)) (l : List ActS) (k : Nat) : OS := (l.take k).foldl (osStep (T.length + 2)) ⟨ordA T, ordB T.length, ordA T, ordB T.length⟩
theorem osF_succ {T : List (List Nat)} {l : List ActS} {k : Nat} (hk : k < l.length) : osF T l (k + 1) = osStep (T.length + 2) (osF T l k) l[k] := by
  unfold osF
  rw [List.take_succ_eq_append_getElem hk, List.foldl_append]; rfl
theorem osF_inv {T : List (List Nat)} {l : List ActS} (hT : Secs T) (hl : ∀ a ∈ l, a.Ok) : ∀ k, k ≤ l.length → OInv (T.length + 2) (osF T l k) (1 + 2 * k)
  | 0, _ => by
    have hb : ∀ j, (ordB T.length).getD j 0 ≤ 1 := fun j => by
      unfold ordB
      rw [List.getD_eq_getElem?_getD]
      by_cases h : j < T.length
      · rw [List.getElem?_append_left (by simpa using h), List.getElem?_replicate, if_pos h]; decide
      · rw [List.getElem?_append_right (by simp; omega), List.length_replicate]
        match j - T.length with
        | 0 => decide
        | 1 => decide
        | n + 2 => simp
    exact ⟨ordA_len T, ordB_len _, ordA_len T, ordB_len _, ordA_secs hT, ordA_secs hT, fun j => ⟨hb j, hb j⟩, fun _ _ => Iff.rfl, fun _ _ _ => rfl⟩
  | k + 1, h => by
    have hk : k < l.length := h
    have h1 := osF_inv hT hl k (by omega)
    have h2 := osStep_inv (by omega) h1 (by omega) (hl l[k] (List.getElem_mem hk))
    rw [osF_succ hk]
    exact h2
def ordI1 (c : Nat) (T : List (List Nat)) (v : SV) (X : Option ABlk) (k : Nat) : LTm × LHp :=
  ([.sc (.sl 0 0 64 T.length (some c)), .sc v, .junk, .junk, .junk, iv (T.length + 2 : Nat), .sc (.ptr 2 0 2 0), .junk, .sc (.ptr 5 0 2 0), .junk, iv (k : Nat), .junk, .junk, .junk, .junk, .junk, .junk, .junk, .junk, .junk, .junk, .junk, .junk, .junk, .junk, .junk, .junk, .junk, .junk, .junk, .junk, .junk, .junk, .junk, .junk, .junk, .junk, .junk, .junk, .junk, .junk, .junk, .junk, .junk, .junk, .junk, .junk, .junk, .junk, .junk, .junk, .junk, .junk, .junk, .junk, .junk, .junk, .junk, .junk, .junk, .junk, .junk, .junk, .junk, .junk, .junk, .junk, .junk, .junk, .junk, .junk, .junk, .junk, .junk, .junk, .junk, .junk, .junk, .junk, .junk, .junk, .junk, .junk, .junk, .junk, .junk, .junk, .junk, .junk, .junk, .junk, .junk, .junk, .junk, .junk, .junk, .junk, .junk, .junk, .junk, .junk, .junk, .junk, .junk, .junk, .junk, .junk, .junk, .junk, .junk, .junk, .junk, .junk, .junk, .junk, .junk, .junk, .junk, .junk, .junk, .junk, .junk, .junk, .junk, .junk, .junk, .junk, .junk, .junk, .junk, .junk, .junk, .junk, .junk, .junk, .junk, .junk, .junk, .junk, .junk, .junk, .junk, .junk, .junk, .junk, .junk, .junk, .junk, .junk, .junk, .junk, .junk, .junk, .junk, .junk, .junk, .junk, .junk, .junk, .junk, .junk, .junk, .junk, .junk, .junk, .junk, .junk, .junk, .junk, .junk, .junk, .junk, .junk, .junk, .junk, .junk, .junk, .junk, .junk, .junk, .junk],
   [rowS T, X, rowAt false (T.length + 2) 3 4, colB false (fl (ordA T) (zs 64) k), knB (fl (ordB T.length) 0 k), rowAt false (T.length + 2) 6 7, colB false (fr (ordA T) (zs 64) (T.length - k)), knB (fr (ordB T.length) 0 (T.length - k))])
def ordI2 (c c1 : Nat) (T : List (List Nat)) (l : List ActS) (k : Nat) : LTm × LHp :=
  ([.junk, .sc (.sl 1 0 66 l.length (some c1)), .junk, .junk, .junk, iv (T.length + 2 : Nat), .sc (.ptr 2 0 2 0), .junk, .sc (.ptr 5 0 2 0), .junk, .junk, iv (k : Nat), .junk, .junk, .junk, .junk, .junk, .junk, .junk, .junk, .junk, .junk, .junk, .junk, .junk, .junk, .junk, .junk, .junk, .junk, .junk, .junk, .junk, .junk, .junk, .junk, .junk, .junk, .junk, .junk, .junk, .junk, .junk, .junk, .junk, .junk, .junk, .junk, .junk, .junk, .junk, .junk, .junk, .junk, .junk, .junk, .junk, .junk, .junk, .junk, .junk, .junk, .junk, .junk, .junk, .junk, .junk, .junk, .junk, .junk, .junk, .junk, .junk, .junk, .junk, .junk, .junk, .junk, .junk, .junk, .junk, .junk, .junk, .junk, .junk, .junk, .junk, .junk, .junk, .junk, .junk, .junk, .junk, .junk, .junk, .junk, .junk, .junk, .junk, .junk, .junk, .junk, .junk, .junk, .junk, .junk, .junk, .junk, .junk, .junk, .junk, .junk, .junk, .junk, .junk, .junk, .junk, .junk, .junk, .junk, .junk, .junk, .junk, .junk, .junk, .junk, .junk, .junk, .junk, .junk, .junk, .junk, .junk, .junk, .junk, .junk, .junk, .junk, .junk, .junk, .junk, .junk, .junk, .junk, .junk, .junk, .junk, .junk, .junk, .junk, .junk, .junk, .junk, .junk, .junk, .junk, .junk, .junk, .junk, .junk, .junk, .junk, .junk, .junk, .junk, .junk, .junk, .junk, .junk, .junk, .junk, .junk, .junk, .junk, .junk, .junk, .junk, .junk, .junk, .junk, .junk],
   [rowS T, rowA l, rowAt false (T.length + 2) 3 4, colB false (osF T l k).lr, knB (osF T l k).kr, rowAt false (T.length + 2) 6 7, colB false (osF T l k).lq, knB (osF T l k).kq])
theorem order_row (c c1 : Nat) (T : List (List Nat)) (l : List ActS) (hT : Secs T) (h2 : 2 ≤ T.length) (h62 : T.length ≤ 62) (hl : ∀ a ∈ l, a.Ok) :
    FunT Try.prog 11 [.sc (.sl 0 0 64 T.length (some c)), .sc (.sl 1 0 66 l.length (some c1))] [rowS T, rowA l] (bv true) [rowS T, rowA l] := by
  have e1 : arithI .add .i64 (T.length : Nat) 2 = some ((T.length + 2 : Nat) : Int) := add_nat (b := 2) (by omega) (by decide)
  have e2 : arithI .sub .i64 (T.length : Nat) 1 = some ((T.length - 1 : Nat) : Int) := subn (b := 1) (by omega) (by omega)
  have n0 := new_ok (T.length + 2) (by omega) (by omega)
  have f9 := fill_ok 9 (by decide)
  have f8 := fill_ok 8 (by decide)
  have gM := fun k (hk : k ≤ l.length) => ordM (T.length + 2) T (rowA l) (.inr ⟨l, rfl⟩) (by omega) (by omega) (osF T l k) _ (osF_inv hT hl k hk)
  obtain ⟨I, hI⟩ : ∃ I, I = ordI1 c T (.sl 1 0 66 l.length (some c1)) (rowA l) := ⟨_, rfl⟩
  obtain ⟨J, hJ⟩ : ∃ J, J = ordI2 c c1 T l := ⟨_, rfl⟩
  have z1 : fl (ordA T) (zs 64) 0 = List.replicate (T.length + 2) (zs 64) := by rw [fl_zero, ordA_len]
  have z2 : fl (ordB T.length) 0 0 = List.replicate (T.length + 2) 0 := by rw [fl_zero, ordB_len]
  have z3 := fr_ordA T
  have z4 := fr_ordB T.length
  refine FunT.ev tabOk mixed Try.func11 rfl ?_
  conv => whnf
  repeat (first | (refine ⟨(by kernel_rfl : chkR _ _ _ _ = true), ?_⟩; conv => whnf) | (refine EvOr.go ?_; conv => whnf))
  refine ⟨_, e1, ?_⟩
  conv => whnf
  repeat (first | (refine ⟨(by kernel_rfl : chkR _ _ _ _ = true), ?_⟩; conv => whnf) | (refine EvOr.go ?_; conv => whnf))
  refine CallG.use n0 c50 [] [] ?_ ?_ ?_ ?_ ?_ ?_; rfl; rfl; kernel_rfl; rfl; rfl
  conv => whnf
  repeat (first | (refine ⟨(by kernel_rfl : chkR _ _ _ _ = true), ?_⟩; conv => whnf) | (refine EvOr.go ?_; conv => whnf))
  refine CallG.use n0 c50 [] [] ?_ ?_ ?_ ?_ ?_ ?_; rfl; rfl; kernel_rfl; rfl; rfl
  conv => whnf
  repeat (first | (refine ⟨(by kernel_rfl : chkR _ _ _ _ = true), ?_⟩; conv => whnf) | (refine EvOr.go ?_; conv => whnf))
  intro c hc
  obtain rfl : c = false := by rw [hc]; rfl
  conv => whnf
  repeat (first | (refine ⟨(by kernel_rfl : chkR _ _ _ _ = true), ?_⟩; conv => whnf) | (refine EvOr.go ?_; conv => whnf))
  intro c hc
  obtain rfl : c = false := by rw [hc]; rfl
  conv => whnf
  repeat (first | (refine ⟨(by kernel_rfl : chkR _ _ _ _ = true), ?_⟩; conv => whnf) | (refine EvOr.go ?_; conv => whnf))
  refine CodeT.loopN tabOk mixed I T.length _ (StW.ofP [0, 1, 2, 3, 4, 5, 6, 7] ?_ ?_ ?_) (fun k => by subst hI; rfl) ?_
  · subst hI; kernel_rfl
  · subst hI; rfl
  · subst hI
    simp only [ordI1, Nat.sub_zero, z1, z2, z3, z4]
    rfl
  intro k hkl
  subst hI
  show evC Try.prog tab _ _ (ordI1 c T (.sl 1 0 66 l.length (some c1)) (rowA l) k).1 (ordI1 c T (.sl 1 0 66 l.length (some c1)) (rowA l) k).2 _
  by_cases hk : k < T.length
  · have e3 : arithI .sub .i64 (T.length - 1 : Nat) (k : Nat) = some ((T.length - (k + 1) : Nat) : Int) := by
      rw [subn (by omega) (by omega), show T.length - 1 - k = T.length - (k + 1) by omega]
    have pa := putA h62 hk
    have pb := putB (k := T.length - (k + 1)) h62 (by omega)
    rw [show T.length - (k + 1) + 1 = T.length - k by omega] at pb
    have g1 := row_at (S := T) hk
    have g2 := row_at (S := T) (k := T.length - (k + 1)) (by omega)
    unfold ordI1
    conv => whnf
    repeat (first | (refine ⟨(by kernel_rfl : chkR _ _ _ _ = true), ?_⟩; conv => whnf) | (refine EvOr.go ?_; conv => whnf))
    intro c hc
    obtain rfl : c = true := by rw [hc]; exact decide_eq_true (by omega)
    conv => whnf
    repeat (first | (refine ⟨(by kernel_rfl : chkR _ _ _ _ = true), ?_⟩; conv => whnf) | (refine EvOr.go ?_; conv => whnf))
    refine ⟨⟨by omega, by omega⟩, ?_⟩
    conv => whnf
    repeat (first | (refine ⟨(by kernel_rfl : chkR _ _ _ _ = true), ?_⟩; conv => whnf) | (refine EvOr.go ?_; conv => whnf))
    refine ⟨_, g1, ?_⟩
    conv => whnf
    repeat (first | (refine ⟨(by kernel_rfl : chkR _ _ _ _ = true), ?_⟩; conv => whnf) | (refine EvOr.go ?_; conv => whnf))
    refine CallG.use pa c52 [2, 3, 4] [1, 2] ?_ ?_ ?_ ?_ ?_ ?_; rfl; rfl; kernel_rfl; rfl; rfl
    conv => whnf
    repeat (first | (refine ⟨(by kernel_rfl : chkR _ _ _ _ = true), ?_⟩; conv => whnf) | (refine EvOr.go ?_; conv => whnf))
    refine ⟨_, e2, ?_⟩
    conv => whnf
    repeat (first | (refine ⟨(by kernel_rfl : chkR _ _ _ _ = true), ?_⟩; conv => whnf) | (refine EvOr.go ?_; conv => whnf))
    refine ⟨_, e3, ?_⟩
    conv => whnf
    repeat (first | (refine ⟨(by kernel_rfl : chkR _ _ _ _ = true), ?_⟩; conv => whnf) | (refine EvOr.go ?_; conv => whnf))
    refine ⟨_, e2, ?_⟩
    conv => whnf
    repeat (first | (refine ⟨(by kernel_rfl : chkR _ _ _ _ = true), ?_⟩; conv => whnf) | (refine EvOr.go ?_; conv => whnf))
    refine ⟨_, e3, ?_⟩
    conv => whnf
    repeat (first | (refine ⟨(by kernel_rfl : chkR _ _ _ _ = true), ?_⟩; conv => whnf) | (refine EvOr.go ?_; conv => whnf))
    refine ⟨⟨by omega, by omega⟩, ?_⟩
    conv => whnf
    repeat (first | (refine ⟨(by kernel_rfl : chkR _ _ _ _ = true), ?_⟩; conv => whnf) | (refine EvOr.go ?_; conv => whnf))
    refine ⟨_, g2, ?_⟩
    conv => whnf
    repeat (first | (refine ⟨(by kernel_rfl : chkR _ _ _ _ = true), ?_⟩; conv => whnf) | (refine EvOr.go ?_; conv => whnf))
    refine CallG.use pb c52 [5, 6, 7] [1, 2] ?_ ?_ ?_ ?_ ?_ ?_; rfl; rfl; kernel_rfl; rfl; rfl
    conv => whnf
    repeat (first | (refine ⟨(by kernel_rfl : chkR _ _ _ _ = true), ?_⟩; conv => whnf) | (refine EvOr.go ?_; conv => whnf))
    refine ⟨_, inc_nat (by omega), ?_⟩
    conv => whnf
    repeat (first | (refine ⟨(by kernel_rfl : chkR _ _ _ _ = true), ?_⟩; conv => whnf) | (refine EvOr.go ?_; conv => whnf))
    refine ⟨by first | exact hk | omega, _, StW.ofP [0, 1, 2, 3, 4, 5, 6, 7] ?_ ?_ ?_⟩
    · kernel_rfl
    · rfl
    · rfl
  · obtain rfl : k = T.length := by omega
    unfold ordI1
    rw [Nat.sub_self, fr_zero, fr_zero, fl_ordA, fl_ordB]
    conv => whnf
    repeat (first | (refine ⟨(by kernel_rfl : chkR _ _ _ _ = true), ?_⟩; conv => whnf) | (refine EvOr.go ?_; conv => whnf))
    intro c hc
    obtain rfl : c = false := by rw [hc]; exact decide_eq_false (by omega)
    conv => whnf
    repeat (first | (refine ⟨(by kernel_rfl : chkR _ _ _ _ = true), ?_⟩; conv => whnf) | (refine EvOr.go ?_; conv => whnf))
    refine CodeT.loopN tabOk mixed J (min l.length 60) _ (StW.ofP [0, 1, 2, 3, 4, 5, 6, 7] ?_ ?_ ?_) (fun k => by subst hJ; rfl) ?_
    · subst hJ; kernel_rfl
    · subst hJ; rfl
    · subst hJ; rfl
    intro k hkl
    subst hJ
    show evC Try.prog tab _ _ (ordI2 c c1 T l k).1 (ordI2 c c1 T l k).2 _
    by_cases hk : k < min l.length 60
    · have hk1 : k < l.length := by omega
      have hk2 : k < 60 := by omega
      have hs := osF_succ (T := T) hk1
      have inv := osF_inv hT hl k (by omega)
      have ga := act_at hk1
      have ha := hl _ (List.getElem_mem hk1)
      have i0 : 0 < T.length + 2 := by omega
      have rm := col_rem (n := T.length + 2) i0 (by omega) l[k].c
      have cl := colOf_lt i0 l[k].c
      have ca : l[k].c.tmod (T.length + 2 : Nat) < 0 → arithI .add .i64 (l[k].c.tmod (T.length + 2 : Nat)) (T.length + 2 : Nat) = some ((colOf (T.length + 2) l[k].c : Nat) : Int) := fun h => col_add (n := T.length + 2) i0 (by omega) h
      have cp : ¬ l[k].c.tmod (T.length + 2 : Nat) < 0 → l[k].c.tmod (T.length + 2 : Nat) = ((colOf (T.length + 2) l[k].c : Nat) : Int) := fun h => col_pos (n := T.length + 2) i0 h
      have w2 : arithI .rem .i64 l[k].w 2 = some (l[k].w.tmod 2) := rfl
      unfold osStep at hs
      unfold ordI2
      generalize colOf (T.length + 2) l[k].c = j at *
      generalize l[k] = a at *
      clear gM
      generalize hσ : osF T l k = σ at *
      clear hσ
      obtain ⟨L, K, M, H⟩ := σ
      obtain ⟨l1, l2, l3, l4, s1, s2, bd, zr, eq⟩ := inv
      simp only at l1 l2 l3 l4 s1 s2 bd zr eq hs ⊢
      have bj := (bd j).1
      have p1 := put_in false (T.length + 2) L K j (rep 9) cl (by omega) l1 l2 (by omega)
      have q1 := lose_in false (T.length + 2) M H j cl l4
      by_cases hw : a.w.tmod 2 = 0
      · rw [if_pos hw] at hs
        have p2 := put_in false (T.length + 2) (L.set j (rep 9)) (K.set j (K.getD j 0 + 1)) j a.s cl (by omega) (by rw [List.length_set, l1]) (by rw [List.length_set, l2]) (by rw [getD_setN (by omega), if_pos rfl]; omega)
        rw [List.set_set, getD_setN (by omega), if_pos rfl, List.set_set] at p2
        have q2 := put_in false (T.length + 2) M (H.set j 0) j (rep 8) cl (by omega) l3 (by rw [List.length_set, l4]) (by rw [getD_setN (by omega), if_pos rfl]; decide)
        rw [getD_setN (by omega), if_pos rfl, List.set_set] at q2
        have q3 := put_in false (T.length + 2) (M.set j (rep 8)) (H.set j (0 + 1)) j a.s cl (by omega) (by rw [List.length_set, l3]) (by rw [List.length_set, l4]) (by rw [getD_setN (by omega), if_pos rfl]; decide)
        rw [List.set_set, getD_setN (by omega), if_pos rfl, List.set_set] at q3
        generalize rep 9 = c9 at *
        generalize rep 8 = c8 at *
        by_cases hneg : a.c.tmod (T.length + 2 : Nat) < 0
        · conv => whnf
          repeat (first | (refine ⟨(by kernel_rfl : chkR _ _ _ _ = true), ?_⟩; conv => whnf) | (refine EvOr.go ?_; conv => whnf))
          intro c hc
          obtain rfl : c = true := by rw [hc]; exact decide_eq_true (by omega)
          conv => whnf
          repeat (first | (refine ⟨(by kernel_rfl : chkR _ _ _ _ = true), ?_⟩; conv => whnf) | (refine EvOr.go ?_; conv => whnf))
          intro c hc
          obtain rfl : c = true := by rw [hc]; exact decide_eq_true (by omega)
          conv => whnf
          repeat (first | (refine ⟨(by kernel_rfl : chkR _ _ _ _ = true), ?_⟩; conv => whnf) | (refine EvOr.go ?_; conv => whnf))
          refine ⟨⟨by omega, by omega⟩, ?_⟩
          conv => whnf
          repeat (first | (refine ⟨(by kernel_rfl : chkR _ _ _ _ = true), ?_⟩; conv => whnf) | (refine EvOr.go ?_; conv => whnf))
          refine ⟨_, ga, ?_⟩
          conv => whnf
          repeat (first | (refine ⟨(by kernel_rfl : chkR _ _ _ _ = true), ?_⟩; conv => whnf) | (refine EvOr.go ?_; conv => whnf))
          refine ⟨_, rm, ?_⟩
          conv => whnf
          repeat (first | (refine ⟨(by kernel_rfl : chkR _ _ _ _ = true), ?_⟩; conv => whnf) | (refine EvOr.go ?_; conv => whnf))
          intro c hc
          obtain rfl : c = true := by rw [hc]; exact decide_eq_true hneg
          conv => whnf
          repeat (first | (refine ⟨(by kernel_rfl : chkR _ _ _ _ = true), ?_⟩; conv => whnf) | (refine EvOr.go ?_; conv => whnf))
          refine ⟨_, ca hneg, ?_⟩
          conv => whnf
          repeat (first | (refine ⟨(by kernel_rfl : chkR _ _ _ _ = true), ?_⟩; conv => whnf) | (refine EvOr.go ?_; conv => whnf))
          refine CallG.use f9 c53 [] [] ?_ ?_ ?_ ?_ ?_ ?_; rfl; rfl; kernel_rfl; rfl; rfl
          conv => whnf
          repeat (first | (refine ⟨(by kernel_rfl : chkR _ _ _ _ = true), ?_⟩; conv => whnf) | (refine EvOr.go ?_; conv => whnf))
          refine CallG.use p1 c52 [2, 3, 4] [1, 2] ?_ ?_ ?_ ?_ ?_ ?_; rfl; rfl; kernel_rfl; rfl; rfl
          conv => whnf
          repeat (first | (refine ⟨(by kernel_rfl : chkR _ _ _ _ = true), ?_⟩; conv => whnf) | (refine EvOr.go ?_; conv => whnf))
          refine CallG.use q1 c54 [5, 6, 7] [2] ?_ ?_ ?_ ?_ ?_ ?_; rfl; rfl; kernel_rfl; rfl; rfl
          conv => whnf
          repeat (first | (refine ⟨(by kernel_rfl : chkR _ _ _ _ = true), ?_⟩; conv => whnf) | (refine EvOr.go ?_; conv => whnf))
          refine ⟨⟨by omega, by omega⟩, ?_⟩
          conv => whnf
          repeat (first | (refine ⟨(by kernel_rfl : chkR _ _ _ _ = true), ?_⟩; conv => whnf) | (refine EvOr.go ?_; conv => whnf))
          refine ⟨_, ga, ?_⟩
          conv => whnf
          repeat (first | (refine ⟨(by kernel_rfl : chkR _ _ _ _ = true), ?_⟩; conv => whnf) | (refine EvOr.go ?_; conv => whnf))
          refine ⟨_, w2, ?_⟩
          conv => whnf
          repeat (first | (refine ⟨(by kernel_rfl : chkR _ _ _ _ = true), ?_⟩; conv => whnf) | (refine EvOr.go ?_; conv => whnf))
          intro c hc
          obtain rfl : c = true := by rw [hc, hw]; rfl
          conv => whnf
          repeat (first | (refine ⟨(by kernel_rfl : chkR _ _ _ _ = true), ?_⟩; conv => whnf) | (refine EvOr.go ?_; conv => whnf))
          refine ⟨⟨by omega, by omega⟩, ?_⟩
          conv => whnf
          repeat (first | (refine ⟨(by kernel_rfl : chkR _ _ _ _ = true), ?_⟩; conv => whnf) | (refine EvOr.go ?_; conv => whnf))
          refine ⟨_, ga, ?_⟩
          conv => whnf
          repeat (first | (refine ⟨(by kernel_rfl : chkR _ _ _ _ = true), ?_⟩; conv => whnf) | (refine EvOr.go ?_; conv => whnf))
          refine CallG.use p2 c52 [2, 3, 4] [1, 2] ?_ ?_ ?_ ?_ ?_ ?_; rfl; rfl; kernel_rfl; rfl; rfl
          conv => whnf
          repeat (first | (refine ⟨(by kernel_rfl : chkR _ _ _ _ = true), ?_⟩; conv => whnf) | (refine EvOr.go ?_; conv => whnf))
          refine CallG.use f8 c53 [] [] ?_ ?_ ?_ ?_ ?_ ?_; rfl; rfl; kernel_rfl; rfl; rfl
          conv => whnf
          repeat (first | (refine ⟨(by kernel_rfl : chkR _ _ _ _ = true), ?_⟩; conv => whnf) | (refine EvOr.go ?_; conv => whnf))
          refine CallG.use q2 c52 [5, 6, 7] [1, 2] ?_ ?_ ?_ ?_ ?_ ?_; rfl; rfl; kernel_rfl; rfl; rfl
          conv => whnf
          repeat (first | (refine ⟨(by kernel_rfl : chkR _ _ _ _ = true), ?_⟩; conv => whnf) | (refine EvOr.go ?_; conv => whnf))
          refine ⟨⟨by omega, by omega⟩, ?_⟩
          conv => whnf
          repeat (first | (refine ⟨(by kernel_rfl : chkR _ _ _ _ = true), ?_⟩; conv => whnf) | (refine EvOr.go ?_; conv => whnf))
          refine ⟨_, ga, ?_⟩
          conv => whnf
          repeat (first | (refine ⟨(by kernel_rfl : chkR _ _ _ _ = true), ?_⟩; conv => whnf) | (refine EvOr.go ?_; conv => whnf))
          refine CallG.use q3 c52 [5, 6, 7] [1, 2] ?_ ?_ ?_ ?_ ?_ ?_; rfl; rfl; kernel_rfl; rfl; rfl
          conv => whnf
          repeat (first | (refine ⟨(by kernel_rfl : chkR _ _ _ _ = true), ?_⟩; conv => whnf) | (refine EvOr.go ?_; conv => whnf))
          refine ⟨_, inc_nat (by omega), ?_⟩
          conv => whnf
          repeat (first | (refine ⟨(by kernel_rfl : chkR _ _ _ _ = true), ?_⟩; conv => whnf) | (refine EvOr.go ?_; conv => whnf))
          refine ⟨by omega, _, StW.ofP [0, 1, 2, 3, 4, 5, 6, 7] ?_ ?_ ?_⟩
          · kernel_rfl
          · rfl
          · simp only [ordI2, hs]; rfl
        · rw [cp hneg] at rm
          conv => whnf
          repeat (first | (refine ⟨(by kernel_rfl : chkR _ _ _ _ = true), ?_⟩; conv => whnf) | (refine EvOr.go ?_; conv => whnf))
          intro c hc
          obtain rfl : c = true := by rw [hc]; exact decide_eq_true (by omega)
          conv => whnf
          repeat (first | (refine ⟨(by kernel_rfl : chkR _ _ _ _ = true), ?_⟩; conv => whnf) | (refine EvOr.go ?_; conv => whnf))
          intro c hc
          obtain rfl : c = true := by rw [hc]; exact decide_eq_true (by omega)
          conv => whnf
          repeat (first | (refine ⟨(by kernel_rfl : chkR _ _ _ _ = true), ?_⟩; conv => whnf) | (refine EvOr.go ?_; conv => whnf))
          refine ⟨⟨by omega, by omega⟩, ?_⟩
          conv => whnf
          repeat (first | (refine ⟨(by kernel_rfl : chkR _ _ _ _ = true), ?_⟩; conv => whnf) | (refine EvOr.go ?_; conv => whnf))
          refine ⟨_, ga, ?_⟩
          conv => whnf
          repeat (first | (refine ⟨(by kernel_rfl : chkR _ _ _ _ = true), ?_⟩; conv => whnf) | (refine EvOr.go ?_; conv => whnf))
          refine ⟨_, rm, ?_⟩
          conv => whnf
          repeat (first | (refine ⟨(by kernel_rfl : chkR _ _ _ _ = true), ?_⟩; conv => whnf) | (refine EvOr.go ?_; conv => whnf))
          intro c hc
          obtain rfl : c = false := by rw [hc]; exact decide_eq_false (by omega)
          conv => whnf
          repeat (first | (refine ⟨(by kernel_rfl : chkR _ _ _ _ = true), ?_⟩; conv => whnf) | (refine EvOr.go ?_; conv => whnf))
          refine CallG.use f9 c53 [] [] ?_ ?_ ?_ ?_ ?_ ?_; rfl; rfl; kernel_rfl; rfl; rfl
          conv => whnf
          repeat (first | (refine ⟨(by kernel_rfl : chkR _ _ _ _ = true), ?_⟩; conv => whnf) | (refine EvOr.go ?_; conv => whnf))
          refine CallG.use p1 c52 [2, 3, 4] [1, 2] ?_ ?_ ?_ ?_ ?_ ?_; rfl; rfl; kernel_rfl; rfl; rfl
          conv => whnf
          repeat (first | (refine ⟨(by kernel_rfl : chkR _ _ _ _ = true), ?_⟩; conv => whnf) | (refine EvOr.go ?_; conv => whnf))
          refine CallG.use q1 c54 [5, 6, 7] [2] ?_ ?_ ?_ ?_ ?_ ?_; rfl; rfl; kernel_rfl; rfl; rfl
          conv => whnf
          repeat (first | (refine ⟨(by kernel_rfl : chkR _ _ _ _ = true), ?_⟩; conv => whnf) | (refine EvOr.go ?_; conv => whnf))
          refine ⟨⟨by omega, by omega⟩, ?_⟩
          conv => whnf
          repeat (first | (refine ⟨(by kernel_rfl : chkR _ _ _ _ = true), ?_⟩; conv => whnf) | (refine EvOr.go ?_; conv => whnf))
          refine ⟨_, ga, ?_⟩
          conv => whnf
          repeat (first | (refine ⟨(by kernel_rfl : chkR _ _ _ _ = true), ?_⟩; conv => whnf) | (refine EvOr.go ?_; conv => whnf))
          refine ⟨_, w2, ?_⟩
          conv => whnf
          repeat (first | (refine ⟨(by kernel_rfl : chkR _ _ _ _ = true), ?_⟩; conv => whnf) | (refine EvOr.go ?_; conv => whnf))
          intro c hc
          obtain rfl : c = true := by rw [hc, hw]; rfl
          conv => whnf
          repeat (first | (refine ⟨(by kernel_rfl : chkR _ _ _ _ = true), ?_⟩; conv => whnf) | (refine EvOr.go ?_; conv => whnf))
          refine ⟨⟨by omega, by omega⟩, ?_⟩
          conv => whnf
          repeat (first | (refine ⟨(by kernel_rfl : chkR _ _ _ _ = true), ?_⟩; conv => whnf) | (refine EvOr.go ?_; conv => whnf))
          refine ⟨_, ga, ?_⟩
          conv => whnf
          repeat (first | (refine ⟨(by kernel_rfl : chkR _ _ _ _ = true), ?_⟩; conv => whnf) | (refine EvOr.go ?_; conv => whnf))
          refine CallG.use p2 c52 [2, 3, 4] [1, 2] ?_ ?_ ?_ ?_ ?_ ?_; rfl; rfl; kernel_rfl; rfl; rfl
          conv => whnf
          repeat (first | (refine ⟨(by kernel_rfl : chkR _ _ _ _ = true), ?_⟩; conv => whnf) | (refine EvOr.go ?_; conv => whnf))
          refine CallG.use f8 c53 [] [] ?_ ?_ ?_ ?_ ?_ ?_; rfl; rfl; kernel_rfl; rfl; rfl
          conv => whnf
          repeat (first | (refine ⟨(by kernel_rfl : chkR _ _ _ _ = true), ?_⟩; conv => whnf) | (refine EvOr.go ?_; conv => whnf))
          refine CallG.use q2 c52 [5, 6, 7] [1, 2] ?_ ?_ ?_ ?_ ?_ ?_; rfl; rfl; kernel_rfl; rfl; rfl
          conv => whnf
          repeat (first | (refine ⟨(by kernel_rfl : chkR _ _ _ _ = true), ?_⟩; conv => whnf) | (refine EvOr.go ?_; conv => whnf))
          refine ⟨⟨by omega, by omega⟩, ?_⟩
          conv => whnf
          repeat (first | (refine ⟨(by kernel_rfl : chkR _ _ _ _ = true), ?_⟩; conv => whnf) | (refine EvOr.go ?_; conv => whnf))
          refine ⟨_, ga, ?_⟩
          conv => whnf
          repeat (first | (refine ⟨(by kernel_rfl : chkR _ _ _ _ = true), ?_⟩; conv => whnf) | (refine EvOr.go ?_; conv => whnf))
          refine CallG.use q3 c52 [5, 6, 7] [1, 2] ?_ ?_ ?_ ?_ ?_ ?_; rfl; rfl; kernel_rfl; rfl; rfl
          conv => whnf
          repeat (first | (refine ⟨(by kernel_rfl : chkR _ _ _ _ = true), ?_⟩; conv => whnf) | (refine EvOr.go ?_; conv => whnf))
          refine ⟨_, inc_nat (by omega), ?_⟩
          conv => whnf
          repeat (first | (refine ⟨(by kernel_rfl : chkR _ _ _ _ = true), ?_⟩; conv => whnf) | (refine EvOr.go ?_; conv => whnf))
          refine ⟨by omega, _, StW.ofP [0, 1, 2, 3, 4, 5, 6, 7] ?_ ?_ ?_⟩
          · kernel_rfl
          · rfl
          · simp only [ordI2, hs]; rfl
      · rw [if_neg hw] at hs
        have p3 := lose_in false (T.length + 2) (L.set j (rep 9)) (K.set j (K.getD j 0 + 1)) j cl (by rw [List.length_set, l2])
        rw [List.set_set] at p3
        generalize rep 9 = c9 at *
        by_cases hneg : a.c.tmod (T.length + 2 : Nat) < 0
        · conv => whnf
          repeat (first | (refine ⟨(by kernel_rfl : chkR _ _ _ _ = true), ?_⟩; conv => whnf) | (refine EvOr.go ?_; conv => whnf))
          intro c hc
          obtain rfl : c = true := by rw [hc]; exact decide_eq_true (by omega)
          conv => whnf
          repeat (first | (refine ⟨(by kernel_rfl : chkR _ _ _ _ = true), ?_⟩; conv => whnf) | (refine EvOr.go ?_; conv => whnf))
          intro c hc
          obtain rfl : c = true := by rw [hc]; exact decide_eq_true (by omega)
          conv => whnf
          repeat (first | (refine ⟨(by kernel_rfl : chkR _ _ _ _ = true), ?_⟩; conv => whnf) | (refine EvOr.go ?_; conv => whnf))
          refine ⟨⟨by omega, by omega⟩, ?_⟩
          conv => whnf
          repeat (first | (refine ⟨(by kernel_rfl : chkR _ _ _ _ = true), ?_⟩; conv => whnf) | (refine EvOr.go ?_; conv => whnf))
          refine ⟨_, ga, ?_⟩
          conv => whnf
          repeat (first | (refine ⟨(by kernel_rfl : chkR _ _ _ _ = true), ?_⟩; conv => whnf) | (refine EvOr.go ?_; conv => whnf))
          refine ⟨_, rm, ?_⟩
          conv => whnf
          repeat (first | (refine ⟨(by kernel_rfl : chkR _ _ _ _ = true), ?_⟩; conv => whnf) | (refine EvOr.go ?_; conv => whnf))
          intro c hc
          obtain rfl : c = true := by rw [hc]; exact decide_eq_true hneg
          conv => whnf
          repeat (first | (refine ⟨(by kernel_rfl : chkR _ _ _ _ = true), ?_⟩; conv => whnf) | (refine EvOr.go ?_; conv => whnf))
          refine ⟨_, ca hneg, ?_⟩
          conv => whnf
          repeat (first | (refine ⟨(by kernel_rfl : chkR _ _ _ _ = true), ?_⟩; conv => whnf) | (refine EvOr.go ?_; conv => whnf))
          refine CallG.use f9 c53 [] [] ?_ ?_ ?_ ?_ ?_ ?_; rfl; rfl; kernel_rfl; rfl; rfl
          conv => whnf
          repeat (first | (refine ⟨(by kernel_rfl : chkR _ _ _ _ = true), ?_⟩; conv => whnf) | (refine EvOr.go ?_; conv => whnf))
          refine CallG.use p1 c52 [2, 3, 4] [1, 2] ?_ ?_ ?_ ?_ ?_ ?_; rfl; rfl; kernel_rfl; rfl; rfl
          conv => whnf
          repeat (first | (refine ⟨(by kernel_rfl : chkR _ _ _ _ = true), ?_⟩; conv => whnf) | (refine EvOr.go ?_; conv => whnf))
          refine CallG.use q1 c54 [5, 6, 7] [2] ?_ ?_ ?_ ?_ ?_ ?_; rfl; rfl; kernel_rfl; rfl; rfl
          conv => whnf
          repeat (first | (refine ⟨(by kernel_rfl : chkR _ _ _ _ = true), ?_⟩; conv => whnf) | (refine EvOr.go ?_; conv => whnf))
          refine ⟨⟨by omega, by omega⟩, ?_⟩
          conv => whnf
          repeat (first | (refine ⟨(by kernel_rfl : chkR _ _ _ _ = true), ?_⟩; conv => whnf) | (refine EvOr.go ?_; conv => whnf))
          refine ⟨_, ga, ?_⟩
          conv => whnf
          repeat (first | (refine ⟨(by kernel_rfl : chkR _ _ _ _ = true), ?_⟩; conv => whnf) | (refine EvOr.go ?_; conv => whnf))
          refine ⟨_, w2, ?_⟩
          conv => whnf
          repeat (first | (refine ⟨(by kernel_rfl : chkR _ _ _ _ = true), ?_⟩; conv => whnf) | (refine EvOr.go ?_; conv => whnf))
          intro c hc
          obtain rfl : c = false := by rw [hc]; simp; omega
          conv => whnf
          repeat (first | (refine ⟨(by kernel_rfl : chkR _ _ _ _ = true), ?_⟩; conv => whnf) | (refine EvOr.go ?_; conv => whnf))
          refine CallG.use p3 c54 [2, 3, 4] [2] ?_ ?_ ?_ ?_ ?_ ?_; rfl; rfl; kernel_rfl; rfl; rfl
          conv => whnf
          repeat (first | (refine ⟨(by kernel_rfl : chkR _ _ _ _ = true), ?_⟩; conv => whnf) | (refine EvOr.go ?_; conv => whnf))
          refine ⟨_, inc_nat (by omega), ?_⟩
          conv => whnf
          repeat (first | (refine ⟨(by kernel_rfl : chkR _ _ _ _ = true), ?_⟩; conv => whnf) | (refine EvOr.go ?_; conv => whnf))
          refine ⟨by omega, _, StW.ofP [0, 1, 2, 3, 4, 5, 6, 7] ?_ ?_ ?_⟩
          · kernel_rfl
          · rfl
          · simp only [ordI2, hs]; rfl
        · rw [cp hneg] at rm
          conv => whnf
          repeat (first | (refine ⟨(by kernel_rfl : chkR _ _ _ _ = true), ?_⟩; conv => whnf) | (refine EvOr.go ?_; conv => whnf))
          intro c hc
          obtain rfl : c = true := by rw [hc]; exact decide_eq_true (by omega)
          conv => whnf
          repeat (first | (refine ⟨(by kernel_rfl : chkR _ _ _ _ = true), ?_⟩; conv => whnf) | (refine EvOr.go ?_; conv => whnf))
          intro c hc
          obtain rfl : c = true := by rw [hc]; exact decide_eq_true (by omega)
          conv => whnf
          repeat (first | (refine ⟨(by kernel_rfl : chkR _ _ _ _ = true), ?_⟩; conv => whnf) | (refine EvOr.go ?_; conv => whnf))
          refine ⟨⟨by omega, by omega⟩, ?_⟩
          conv => whnf
          repeat (first | (refine ⟨(by kernel_rfl : chkR _ _ _ _ = true), ?_⟩; conv => whnf) | (refine EvOr.go ?_; conv => whnf))
          refine ⟨_, ga, ?_⟩
          conv => whnf
          repeat (first | (refine ⟨(by kernel_rfl : chkR _ _ _ _ = true), ?_⟩; conv => whnf) | (refine EvOr.go ?_; conv => whnf))
          refine ⟨_, rm, ?_⟩
          conv => whnf
          repeat (first | (refine ⟨(by kernel_rfl : chkR _ _ _ _ = true), ?_⟩; conv => whnf) | (refine EvOr.go ?_; conv => whnf))
          intro c hc
          obtain rfl : c = false := by rw [hc]; exact decide_eq_false (by omega)
          conv => whnf
          repeat (first | (refine ⟨(by kernel_rfl : chkR _ _ _ _ = true), ?_⟩; conv => whnf) | (refine EvOr.go ?_; conv => whnf))
          refine CallG.use f9 c53 [] [] ?_ ?_ ?_ ?_ ?_ ?_; rfl; rfl; kernel_rfl; rfl; rfl
          conv => whnf
          repeat (first | (refine ⟨(by kernel_rfl : chkR _ _ _ _ = true), ?_⟩; conv => whnf) | (refine EvOr.go ?_; conv => whnf))
          refine CallG.use p1 c52 [2, 3, 4] [1, 2] ?_ ?_ ?_ ?_ ?_ ?_; rfl; rfl; kernel_rfl; rfl; rfl
          conv => whnf
          repeat (first | (refine ⟨(by kernel_rfl : chkR _ _ _ _ = true), ?_⟩; conv => whnf) | (refine EvOr.go ?_; conv => whnf))
          refine CallG.use q1 c54 [5, 6, 7] [2] ?_ ?_ ?_ ?_ ?_ ?_; rfl; rfl; kernel_rfl; rfl; rfl
          conv => whnf
          repeat (first | (refine ⟨(by kernel_rfl : chkR _ _ _ _ = true), ?_⟩; conv => whnf) | (refine EvOr.go ?_; conv => whnf))
          refine ⟨⟨by omega, by omega⟩, ?_⟩
          conv => whnf
          repeat (first | (refine ⟨(by kernel_rfl : chkR _ _ _ _ = true), ?_⟩; conv => whnf) | (refine EvOr.go ?_; conv => whnf))
          refine ⟨_, ga, ?_⟩
          conv => whnf
          repeat (first | (refine ⟨(by kernel_rfl : chkR _ _ _ _ = true), ?_⟩; conv => whnf) | (refine EvOr.go ?_; conv => whnf))
          refine ⟨_, w2, ?_⟩
          conv => whnf
          repeat (first | (refine ⟨(by kernel_rfl : chkR _ _ _ _ = true), ?_⟩; conv => whnf) | (refine EvOr.go ?_; conv => whnf))
          intro c hc
          obtain rfl : c = false := by rw [hc]; simp; omega
          conv => whnf
          repeat (first | (refine ⟨(by kernel_rfl : chkR _ _ _ _ = true), ?_⟩; conv => whnf) | (refine EvOr.go ?_; conv => whnf))
          refine CallG.use p3 c54 [2, 3, 4] [2] ?_ ?_ ?_ ?_ ?_ ?_; rfl; rfl; kernel_rfl; rfl; rfl
          conv => whnf
          repeat (first | (refine ⟨(by kernel_rfl : chkR _ _ _ _ = true), ?_⟩; conv => whnf) | (refine EvOr.go ?_; conv => whnf))
          refine ⟨_, inc_nat (by omega), ?_⟩
          conv => whnf
          repeat (first | (refine ⟨(by kernel_rfl : chkR _ _ _ _ = true), ?_⟩; conv => whnf) | (refine EvOr.go ?_; conv => whnf))
          refine ⟨by omega, _, StW.ofP [0, 1, 2, 3, 4, 5, 6, 7] ?_ ?_ ?_⟩
          · kernel_rfl
          · rfl
          · simp only [ordI2, hs]; rfl
    · obtain rfl : k = min l.length 60 := by omega
      have gM := gM (min l.length 60) (by omega)
      unfold ordI2
      generalize osF T l (min l.length 60) = σ at *
      obtain ⟨L, K, M, H⟩ := σ
      by_cases h60 : l.length ≤ 60
      · conv => whnf
        repeat (refine ⟨(by kernel_rfl : chkR _ _ _ _ = true), ?_⟩; conv => whnf)
        intro c hc
        obtain rfl : c = false := by rw [hc]; exact decide_eq_false (by omega)
        conv => whnf
        repeat (refine ⟨(by kernel_rfl : chkR _ _ _ _ = true), ?_⟩; conv => whnf)
        refine EvOr.go ?_
        conv => whnf
        refine EvOr.cut (CodeT.weaken _ (StW.ofP [0, 1, 2, 3, 4, 5, 6, 7] ?_ ?_ ?_) gM)
        · kernel_rfl
        · rfl
        · rfl
      · conv => whnf
        repeat (refine ⟨(by kernel_rfl : chkR _ _ _ _ = true), ?_⟩; conv => whnf)
        intro c hc
        obtain rfl : c = true := by rw [hc]; exact decide_eq_true (by omega)
        conv => whnf
        repeat (refine ⟨(by kernel_rfl : chkR _ _ _ _ = true), ?_⟩; conv => whnf)
        intro c hc
        obtain rfl : c = false := by rw [hc]; exact decide_eq_false (by omega)
        conv => whnf
        repeat (refine ⟨(by kernel_rfl : chkR _ _ _ _ = true), ?_⟩; conv => whnf)
        refine EvOr.go ?_
        conv => whnf
        refine EvOr.cut (CodeT.weaken _ (StW.ofP [0, 1, 2, 3, 4, 5, 6, 7] ?_ ?_ ?_) gM)
        · kernel_rfl
        · rfl
        · rfl
theorem order_nil (c : Nat) (T : List (List Nat)) (hT : Secs T) (h2 : 2 ≤ T.length) (h62 : T.length ≤ 62) :
    FunT Try.prog 11 [.sc (.sl 0 0 64 T.length (some c)), .sc nilS] [rowS T, none] (bv true) [rowS T, none] := by
  have e1 : arithI .add .i64 (T.length : Nat) 2 = some ((T.length + 2 : Nat) : Int) := add_nat (b := 2) (by omega) (by decide)
  have e2 : arithI .sub .i64 (T.length : Nat) 1 = some ((T.length - 1 : Nat) : Int) := subn (b := 1) (by omega) (by omega)
  have n0 := new_ok (T.length + 2) (by omega) (by omega)
  have f9 := fill_ok 9 (by decide)
  have f8 := fill_ok 8 (by decide)
  have gM := ordM (T.length + 2) T none (.inl rfl) (by omega) (by omega) (osF T [] 0) _ (osF_inv hT (fun _ h => by cases h) 0 (Nat.le_refl _))
  obtain ⟨I, hI⟩ : ∃ I, I = ordI1 c T nilS none := ⟨_, rfl⟩
  have z1 : fl (ordA T) (zs 64) 0 = List.replicate (T.length + 2) (zs 64) := by rw [fl_zero, ordA_len]
  have z2 : fl (ordB T.length) 0 0 = List.replicate (T.length + 2) 0 := by rw [fl_zero, ordB_len]
  have z3 := fr_ordA T
  have z4 := fr_ordB T.length
  refine FunT.ev tabOk mixed Try.func11 rfl ?_
  conv => whnf
  repeat (first | (refine ⟨(by kernel_rfl : chkR _ _ _ _ = true), ?_⟩; conv => whnf) | (refine EvOr.go ?_; conv => whnf))
  refine ⟨_, e1, ?_⟩
  conv => whnf
  repeat (first | (refine ⟨(by kernel_rfl : chkR _ _ _ _ = true), ?_⟩; conv => whnf) | (refine EvOr.go ?_; conv => whnf))
  refine CallG.use n0 c50 [] [] ?_ ?_ ?_ ?_ ?_ ?_; rfl; rfl; kernel_rfl; rfl; rfl
  conv => whnf
  repeat (first | (refine ⟨(by kernel_rfl : chkR _ _ _ _ = true), ?_⟩; conv => whnf) | (refine EvOr.go ?_; conv => whnf))
  refine CallG.use n0 c50 [] [] ?_ ?_ ?_ ?_ ?_ ?_; rfl; rfl; kernel_rfl; rfl; rfl
  conv => whnf
  repeat (first | (refine ⟨(by kernel_rfl : chkR _ _ _ _ = true), ?_⟩; conv => whnf) | (refine EvOr.go ?_; conv => whnf))
  intro c hc
  obtain rfl : c = false := by rw [hc]; rfl
  conv => whnf
  repeat (first | (refine ⟨(by kernel_rfl : chkR _ _ _ _ = true), ?_⟩; conv => whnf) | (refine EvOr.go ?_; conv => whnf))
  intro c hc
  obtain rfl : c = false := by rw [hc]; rfl
  conv => whnf
  repeat (first | (refine ⟨(by kernel_rfl : chkR _ _ _ _ = true), ?_⟩; conv => whnf) | (refine EvOr.go ?_; conv => whnf))
  refine CodeT.loopN tabOk mixed I T.length _ (StW.ofP [0, 1, 2, 3, 4, 5, 6, 7] ?_ ?_ ?_) (fun k => by subst hI; rfl) ?_
  · subst hI; kernel_rfl
  · subst hI; rfl
  · subst hI
    simp only [ordI1, Nat.sub_zero, z1, z2, z3, z4]
    rfl
  intro k hkl
  subst hI
  show evC Try.prog tab _ _ (ordI1 c T nilS none k).1 (ordI1 c T nilS none k).2 _
  by_cases hk : k < T.length
  · have e3 : arithI .sub .i64 (T.length - 1 : Nat) (k : Nat) = some ((T.length - (k + 1) : Nat) : Int) := by
      rw [subn (by omega) (by omega), show T.length - 1 - k = T.length - (k + 1) by omega]
    have pa := putA h62 hk
    have pb := putB (k := T.length - (k + 1)) h62 (by omega)
    rw [show T.length - (k + 1) + 1 = T.length - k by omega] at pb
    have g1 := row_at (S := T) hk
    have g2 := row_at (S := T) (k := T.length - (k + 1)) (by omega)
    unfold ordI1
    conv => whnf
    repeat (first | (refine ⟨(by kernel_rfl : chkR _ _ _ _ = true), ?_⟩; conv => whnf) | (refine EvOr.go ?_; conv => whnf))
    intro c hc
    obtain rfl : c = true := by rw [hc]; exact decide_eq_true (by omega)
    conv => whnf
    repeat (first | (refine ⟨(by kernel_rfl : chkR _ _ _ _ = true), ?_⟩; conv => whnf) | (refine EvOr.go ?_; conv => whnf))
    refine ⟨⟨by omega, by omega⟩, ?_⟩
    conv => whnf
    repeat (first | (refine ⟨(by kernel_rfl : chkR _ _ _ _ = true), ?_⟩; conv => whnf) | (refine EvOr.go ?_; conv => whnf))
    refine ⟨_, g1, ?_⟩
    conv => whnf
    repeat (first | (refine ⟨(by kernel_rfl : chkR _ _ _ _ = true), ?_⟩; conv => whnf) | (refine EvOr.go ?_; conv => whnf))
    refine CallG.use pa c52 [2, 3, 4] [1, 2] ?_ ?_ ?_ ?_ ?_ ?_; rfl; rfl; kernel_rfl; rfl; rfl
    conv => whnf
    repeat (first | (refine ⟨(by kernel_rfl : chkR _ _ _ _ = true), ?_⟩; conv => whnf) | (refine EvOr.go ?_; conv => whnf))
    refine ⟨_, e2, ?_⟩
    conv => whnf
    repeat (first | (refine ⟨(by kernel_rfl : chkR _ _ _ _ = true), ?_⟩; conv => whnf) | (refine EvOr.go ?_; conv => whnf))
    refine ⟨_, e3, ?_⟩
    conv => whnf
    repeat (first | (refine ⟨(by kernel_rfl : chkR _ _ _ _ = true), ?_⟩; conv => whnf) | (refine EvOr.go ?_; conv => whnf))
    refine ⟨_, e2, ?_⟩
    conv => whnf
    repeat (first | (refine ⟨(by kernel_rfl : chkR _ _ _ _ = true), ?_⟩; conv => whnf) | (refine EvOr.go ?_; conv => whnf))
    refine ⟨_, e3, ?_⟩
    conv => whnf
    repeat (first | (refine ⟨(by kernel_rfl : chkR _ _ _ _ = true), ?_⟩; conv => whnf) | (refine EvOr.go ?_; conv => whnf))
    refine ⟨⟨by omega, by omega⟩, ?_⟩
    conv => whnf
    repeat (first | (refine ⟨(by kernel_rfl : chkR _ _ _ _ = true), ?_⟩; conv => whnf) | (refine EvOr.go ?_; conv => whnf))
    refine ⟨_, g2, ?_⟩
    conv => whnf
    repeat (first | (refine ⟨(by kernel_rfl : chkR _ _ _ _ = true), ?_⟩; conv => whnf) | (refine EvOr.go ?_; conv => whnf))
    refine CallG.use pb c52 [5, 6, 7] [1, 2] ?_ ?_ ?_ ?_ ?_ ?_; rfl; rfl; kernel_rfl; rfl; rfl
    conv => whnf
    repeat (first | (refine ⟨(by kernel_rfl : chkR _ _ _ _ = true), ?_⟩; conv => whnf) | (refine EvOr.go ?_; conv => whnf))
    refine ⟨_, inc_nat (by omega), ?_⟩
    conv => whnf
    repeat (first | (refine ⟨(by kernel_rfl : chkR _ _ _ _ = true), ?_⟩; conv => whnf) | (refine EvOr.go ?_; conv => whnf))
    refine ⟨by first | exact hk | omega, _, StW.ofP [0, 1, 2, 3, 4, 5, 6, 7] ?_ ?_ ?_⟩
    · kernel_rfl
    · rfl
    · rfl
  · obtain rfl : k = T.length := by omega
    unfold ordI1
    rw [Nat.sub_self, fr_zero, fr_zero, fl_ordA, fl_ordB]
    conv => whnf
    repeat (first | (refine ⟨(by kernel_rfl : chkR _ _ _ _ = true), ?_⟩; conv => whnf) | (refine EvOr.go ?_; conv => whnf))
    intro c hc
    obtain rfl : c = false := by rw [hc]; exact decide_eq_false (by omega)
    conv => whnf
    repeat (first | (refine ⟨(by kernel_rfl : chkR _ _ _ _ = true), ?_⟩; conv => whnf) | (refine EvOr.go ?_; conv => whnf))
    refine CodeS.loop0 tabOk mixed (Nat.le_of_ble_eq_true rfl) ?_
    conv => whnf
    repeat (refine ⟨(by kernel_rfl : chkR _ _ _ _ = true), ?_⟩; conv => whnf)
    intro c hc
    obtain rfl : c = false := by rw [hc]; rfl
    conv => whnf
    repeat (refine ⟨(by kernel_rfl : chkR _ _ _ _ = true), ?_⟩; conv => whnf)
    refine EvOr.go ?_
    conv => whnf
    refine EvOr.cut (CodeT.weaken _ (StW.ofP [0, 1, 2, 3, 4, 5, 6, 7] ?_ ?_ ?_) gM)
    · kernel_rfl
    · rfl
    · rfl
theorem order_ok (c0 c1 : Option Nat) (T : List (List Nat)) (l : List ActS) (ok0 : slOk c0 T ∧ Secs T) (ok1 : slOk c1 l ∧ ∀ a ∈ l, a.Ok) :
    FunT Try.prog 11 [.sc (slA c0 64 T.length 0), .sc (slA c1 66 l.length 1)] [secsB c0 T, actB c1 l] (bv true) [secsB c0 T, actB c1 l] := by
  by_cases hn : 2 ≤ T.length ∧ T.length ≤ 62
  · cases c0 with
    | none =>
      obtain rfl : T = [] := ok0.1
      exact absurd hn.1 (by decide)
    | some c =>
      cases c1 with
      | none =>
        obtain rfl : l = [] := ok1.1
        exact order_nil c T ok0.2 hn.1 hn.2
      | some k => exact order_row c k T l ok0.2 hn.1 hn.2 ok1.2
  · cases c0 with
    | none =>
      obtain rfl : T = [] := ok0.1
      have n0 := new_bad 2 (by decide)
      cases c1 <;>
      · refine FunT.ev tabOk mixed Try.func11 rfl ?_
        conv => whnf
        repeat (first | (refine ⟨(by kernel_rfl : chkR _ _ _ _ = true), ?_⟩; conv => whnf) | (refine EvOr.go ?_; conv => whnf))
        refine ⟨2, rfl, ?_⟩
        conv => whnf
        repeat (first | (refine ⟨(by kernel_rfl : chkR _ _ _ _ = true), ?_⟩; conv => whnf) | (refine EvOr.go ?_; conv => whnf))
        refine CallG.use n0 c50 [] [] ?_ ?_ ?_ ?_ ?_ ?_; rfl; rfl; kernel_rfl; rfl; rfl
        conv => whnf
        repeat (first | (refine ⟨(by kernel_rfl : chkR _ _ _ _ = true), ?_⟩; conv => whnf) | (refine EvOr.go ?_; conv => whnf))
        refine CallG.use n0 c50 [] [] ?_ ?_ ?_ ?_ ?_ ?_; rfl; rfl; kernel_rfl; rfl; rfl
        conv => whnf
        repeat (first | (refine ⟨(by kernel_rfl : chkR _ _ _ _ = true), ?_⟩; conv => whnf) | (refine EvOr.go ?_; conv => whnf))
        intro c hc
        obtain rfl : c = false := by rw [hc]; rfl
        conv => whnf
        repeat (first | (refine ⟨(by kernel_rfl : chkR _ _ _ _ = true), ?_⟩; conv => whnf) | (refine EvOr.go ?_; conv => whnf))
        intro c hc
        obtain rfl : c = true := by rw [hc]; rfl
        conv => whnf
        repeat (first | (refine ⟨(by kernel_rfl : chkR _ _ _ _ = true), ?_⟩; conv => whnf) | (refine EvOr.go ?_; conv => whnf))
        refine CallG.use works51 c51 [] [] ?_ ?_ ?_ ?_ ?_ ?_; rfl; rfl; kernel_rfl; rfl; rfl
        conv => whnf
        repeat (first | (refine ⟨(by kernel_rfl : chkR _ _ _ _ = true), ?_⟩; conv => whnf) | (refine EvOr.go ?_; conv => whnf))
        exact retQ.one rfl (.inr rfl) rfl (Nat.le_of_ble_eq_true rfl) rfl
    | some c =>
      have hb : T.length ≤ c ∧ c < 2 ^ 63 := ok0.1
      have e1 : arithI .add .i64 (T.length : Nat) 2 = some (IntKind.i64.wrap ((T.length : Nat) + 2)) := rfl
      have n0 := new_bad (IntKind.i64.wrap ((T.length : Nat) + 2)) (by rw [IntKind.wrap_i64]; omega)
      generalize IntKind.i64.wrap ((T.length : Nat) + 2) = z at *
      cases c1 <;>
      · refine FunT.ev tabOk mixed Try.func11 rfl ?_
        conv => whnf
        repeat (first | (refine ⟨(by kernel_rfl : chkR _ _ _ _ = true), ?_⟩; conv => whnf) | (refine EvOr.go ?_; conv => whnf))
        refine ⟨_, e1, ?_⟩
        conv => whnf
        repeat (first | (refine ⟨(by kernel_rfl : chkR _ _ _ _ = true), ?_⟩; conv => whnf) | (refine EvOr.go ?_; conv => whnf))
        refine CallG.use n0 c50 [] [] ?_ ?_ ?_ ?_ ?_ ?_; rfl; rfl; kernel_rfl; rfl; rfl
        conv => whnf
        repeat (first | (refine ⟨(by kernel_rfl : chkR _ _ _ _ = true), ?_⟩; conv => whnf) | (refine EvOr.go ?_; conv => whnf))
        refine CallG.use n0 c50 [] [] ?_ ?_ ?_ ?_ ?_ ?_; rfl; rfl; kernel_rfl; rfl; rfl
        conv => whnf
        repeat (first | (refine ⟨(by kernel_rfl : chkR _ _ _ _ = true), ?_⟩; conv => whnf) | (refine EvOr.go ?_; conv => whnf))
        intro c hc
        obtain rfl : c = false := by rw [hc]; rfl
        conv => whnf
        repeat (first | (refine ⟨(by kernel_rfl : chkR _ _ _ _ = true), ?_⟩; conv => whnf) | (refine EvOr.go ?_; conv => whnf))
        intro c hc
        obtain rfl : c = true := by rw [hc]; rfl
        conv => whnf
        repeat (first | (refine ⟨(by kernel_rfl : chkR _ _ _ _ = true), ?_⟩; conv => whnf) | (refine EvOr.go ?_; conv => whnf))
        refine CallG.use works51 c51 [] [] ?_ ?_ ?_ ?_ ?_ ?_; rfl; rfl; kernel_rfl; rfl; rfl
        conv => whnf
        repeat (first | (refine ⟨(by kernel_rfl : chkR _ _ _ _ = true), ?_⟩; conv => whnf) | (refine EvOr.go ?_; conv => whnf))
        exact retQ.one rfl (.inr rfl) rfl (Nat.le_of_ble_eq_true rfl) rfl
end Go.Proofs.Ytdmcbfmpnakdfaa.Eng.St
