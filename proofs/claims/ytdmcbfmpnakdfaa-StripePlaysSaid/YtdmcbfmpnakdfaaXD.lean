/- StripePlays: its loop. -/
import Derived.Test.YtdmcbfmpnakdfaaXC
namespace Go.Proofs.Ytdmcbfmpnakdfaa.Eng.St
open Go Go.RowKit Go.Shelf Go.Proofs Go.Proofs.Ytdmcbfmpnakdfaa.Gf Go.Proofs.Ytdmcbfmpnakdfaa.Rf Go.Proofs.Ytdmcbfmpnakdfaa.Oa
set_option maxRecDepth 20000
set_option maxHeartbeats 64000000
theorem tail_row {n : Nat} {σ : PS} {b : Nat} (h : PInv n σ b) (h4 : 4 ≤ n) (h64 : n ≤ 64) (hO : lostN n σ.K ≠ []) : ∃ O : List Int, O.length < 2 ^ 32 ∧
    FunT Try.prog 59 [rpV] (rw3 σ.x n σ.L σ.K) (.sc (.sl 3 0 1 O.length none)) (rw3 σ.x n σ.L σ.K ++ [rowI O]) ∧ FunT Try.prog 68 [rpV] (rf3 n σ.L σ.K) (.sc (.sl 3 0 1 O.length none)) (rf3 n σ.L σ.K ++ [rowI O]) ∧
    FunT Try.prog 56 [rpV] (rw3 σ.x n σ.L σ.K) (bv false) (rw3 σ.x n σ.L σ.K) ∧ FunT Try.prog 69 [rpV] (rf3 n σ.L σ.K) (bv false) (rf3 n σ.L σ.K) := by
  have l1 := lost_ok σ.x n σ.L σ.K (by omega) h64 h.l2
  have l2 := rlost_ok n σ.L σ.K h64 h.l2
  have r1 := rright_ok σ.x n σ.L σ.K (by omega) h64 h.l1 h.l2 h.s1
  have r2 := rrr_ok n σ.L σ.K h4 h64 h.l1 h.l2 h.s1
  have hne : lostL n σ.K ≠ [] := fun e => hO (kz_nil.1 e)
  rw [decide_eq_false hne, Bool.false_and] at r1 r2
  obtain ⟨q1, q2⟩ := nr_row 3 (List.length_pos_iff.2 hne)
  rw [q1, q2] at l1 l2
  exact ⟨_, by have : (lostL n σ.K).length ≤ n := hold_len (gone σ.K) n; omega, l1, l2, r1, r2⟩
theorem tail_nil {n : Nat} {σ : PS} {b : Nat} (h : PInv n σ b) (h4 : 4 ≤ n) (h64 : n ≤ 64) (hO : lostN n σ.K = []) : ∃ d : Bool,
    FunT Try.prog 59 [rpV] (rw3 σ.x n σ.L σ.K) (.sc nilS) (rw3 σ.x n σ.L σ.K ++ [none]) ∧ FunT Try.prog 68 [rpV] (rf3 n σ.L σ.K) (.sc nilS) (rf3 n σ.L σ.K ++ [none]) ∧
    FunT Try.prog 56 [rpV] (rw3 σ.x n σ.L σ.K) (bv d) (rw3 σ.x n σ.L σ.K) ∧ FunT Try.prog 69 [rpV] (rf3 n σ.L σ.K) (bv d) (rf3 n σ.L σ.K) := by
  have l1 := lost_ok σ.x n σ.L σ.K (by omega) h64 h.l2
  have l2 := rlost_ok n σ.L σ.K h64 h.l2
  have r1 := rright_ok σ.x n σ.L σ.K (by omega) h64 h.l1 h.l2 h.s1
  have r2 := rrr_ok n σ.L σ.K h4 h64 h.l1 h.l2 h.s1
  have he : lostL n σ.K = [] := kz_nil.2 hO
  rw [he] at l1 l2
  exact ⟨_, l1, l2, r1, r2⟩
theorem writeA {n : Nat} {σ : PS} {b : Nat} (h : PInv n σ b) (h4 : 4 ≤ n) (h64 : n ≤ 64) (c : Int) (s : List Nat) (hc : ¬ ((0 ≤ c ∧ c < (n - 2 : Nat)) ∧ lostN n σ.K = [])) : ∃ e,
    FunT Try.prog 60 [rpV, iv c, secV s] (rw3 σ.x n σ.L σ.K) (.tup [.sc nilS, iv e]) (rw3 σ.x n σ.L σ.K) ∧ FunT Try.prog 66 [rpV, iv c, secV s] (rf3 n σ.L σ.K) (.tup [.sc nilS, iv e]) (rf3 n σ.L σ.K) := by
  obtain ⟨m, rfl⟩ : ∃ m, n = m + 2 := ⟨n - 2, by omega⟩
  rw [show m + 2 - 2 = m by omega] at hc
  by_cases h1 : 0 ≤ c ∧ c < m
  · have hO : lostL (m + 2) σ.K ≠ [] := fun e => hc ⟨h1, kz_nil.1 e⟩
    obtain ⟨k, rfl⟩ : ∃ k : Nat, c = k := ⟨c.toNat, by omega⟩
    exact ⟨5, write_none σ.x m σ.L σ.K k s (by omega) (by omega) h.l2 hO, rwri_none m σ.L σ.K k s (by omega) (by omega) h.l2 hO⟩
  · exact ⟨2, write_out σ.x m σ.L σ.K c s (by omega) h1, rwri_out m σ.L σ.K c s (by omega) h1⟩
theorem writeB {n : Nat} {σ : PS} {b : Nat} (h : PInv n σ b) (h4 : 4 ≤ n) (h64 : n ≤ 64) (c : Int) (s : List Nat) (hs : Sec s) (hc : (0 ≤ c ∧ c < (n - 2 : Nat)) ∧ lostN n σ.K = []) : ∃ D : List Int, D.length < 2 ^ 32 ∧
    FunT Try.prog 60 [rpV, iv c, secV s] (rw3 σ.x n σ.L σ.K) (.tup [.sc (nrS D 3), iv 0]) (rw3 σ.x n (wri (n - 2) σ.L c.toNat s) σ.K ++ [nrB D]) ∧
    FunT Try.prog 66 [rpV, iv c, secV s] (rf3 n σ.L σ.K) (.tup [.sc (nrS D 4), iv 0]) [refM n, rowX σ.L, gonB σ.K, rowX (wri (n - 2) σ.L c.toNat s), nrB D] := by
  obtain ⟨m, rfl⟩ : ∃ m, n = m + 2 := ⟨n - 2, by omega⟩
  rw [show m + 2 - 2 = m by omega] at hc ⊢
  obtain ⟨k, rfl⟩ : ∃ k : Nat, c = k := ⟨c.toNat, by omega⟩
  have hO : lostL (m + 2) σ.K = [] := kz_nil.2 hc.2
  exact ⟨othL (m + 2) σ.L (wri m σ.L k s), by have : (othL (m + 2) σ.L (wri m σ.L k s)).length ≤ m + 2 := hold_len (othr σ.L (wri m σ.L k s)) (m + 2); omega, write_ok σ.x m σ.L σ.K k s (by omega) (by omega) h.l1 h.l2 h.s1 hs hO, rwri_ok m σ.L σ.K k s (by omega) (by omega) h.l1 h.l2 h.s1 hs hO⟩
def plI (c1 n : Nat) (l : List ActS) (k : Nat) : LTm × LHp :=
  ([.junk, .sc (.sl 0 0 66 l.length (some c1)), .junk, .junk, .junk, .sc (.ptr 1 0 2 0), .junk, .sc (.ptr 4 0 2 0), .junk, iv (k : Nat), .junk, .junk, .junk, .junk, .junk, .junk, .junk, .junk, .junk, .junk, .junk, .junk, .junk, .junk, .junk, .junk, .junk, .junk, .junk, .junk, .junk, .junk, .junk, .junk, .junk, .junk, .junk, .junk, .junk, .junk, .junk, .junk, .junk, .junk, .junk, .junk, .junk, .junk, .junk, .junk, .junk, .junk, .junk, .junk, .junk, .junk, .junk, .junk, .junk, .junk, .junk, .junk, .junk, .junk, .junk, .junk, .junk, .junk, .junk, .junk, .junk, .junk, .junk, .junk, .junk, .junk, .junk, .junk, .junk, .junk, .junk, .junk, .junk, .junk, .junk, .junk, .junk, .junk, .junk, .junk, .junk, .junk, .junk, .junk, .junk, .junk, .junk, .junk, .junk, .junk, .junk, .junk, .junk, .junk, .junk, .junk, .junk, .junk, .junk, .junk, .junk, .junk, .junk, .junk, .junk, .junk, .junk, .junk, .junk, .junk, .junk, .junk, .junk, .junk, .junk, .junk, .junk, .junk, .junk, .junk, .junk, .junk, .junk, .junk, .junk, .junk, .junk, .junk, .junk, .junk, .junk, .junk, .junk, .junk, .junk, .junk, .junk, .junk, .junk, .junk, .junk, .junk, .junk, .junk, .junk, .junk, .junk, .junk, .junk, .junk, .junk, .junk, .junk, .junk, .junk, .junk, .junk, .junk, .junk, .junk, .junk, .junk, .junk, .junk, .junk, .junk, .junk, .junk, .junk, .junk, .junk, .junk, .junk, .junk, .junk, .junk, .junk, .junk, .junk, .junk, .junk, .junk, .junk, .junk, .junk, .junk, .junk, .junk, .junk, .junk, .junk, .junk, .junk, .junk, .junk, .junk, .junk, .junk, .junk, .junk, .junk, .junk, .junk, .junk, .junk, .junk],
   [rowA l, rowAt (plF n l k).x n 2 3, colB (plF n l k).x (plF n l k).L, knB (plF n l k).K, refAt n 5 6, rowX (plF n l k).L, gonB (plF n l k).K])
theorem plays_row (c1 n : Nat) (l : List ActS) (hl : ∀ a ∈ l, a.Ok) (h4 : 4 ≤ n) (h64 : n ≤ 64) :
    FunT Try.prog 14 [iv (n : Nat), .sc (.sl 0 0 66 l.length (some c1))] [rowA l] (bv true) [rowA l] := by
  have n0 := new_ok n h4 h64
  have n1 := rnew_ok n h4 h64
  have gE := fun k (h1 : k ≤ 60) (h2 : k ≤ l.length) => plE n (rowA l) (.inr ⟨l, rfl⟩) (plF n l k) k (plF_inv h4 h64 hl k h1 h2) (by omega) h64
  obtain ⟨I, hI⟩ : ∃ I, I = plI c1 n l := ⟨_, rfl⟩
  refine FunT.ev tabOk mixed Try.func14 rfl ?_
  conv => whnf
  repeat (first | (refine ⟨(by kernel_rfl : chkR _ _ _ _ = true), ?_⟩; conv => whnf) | (refine EvOr.go ?_; conv => whnf))
  refine CallG.use n0 c50 [] [] ?_ ?_ ?_ ?_ ?_ ?_; rfl; rfl; kernel_rfl; rfl; rfl
  conv => whnf
  repeat (first | (refine ⟨(by kernel_rfl : chkR _ _ _ _ = true), ?_⟩; conv => whnf) | (refine EvOr.go ?_; conv => whnf))
  refine CallG.use n1 c61 [] [] ?_ ?_ ?_ ?_ ?_ ?_; rfl; rfl; kernel_rfl; rfl; rfl
  conv => whnf
  repeat (first | (refine ⟨(by kernel_rfl : chkR _ _ _ _ = true), ?_⟩; conv => whnf) | (refine EvOr.go ?_; conv => whnf))
  intro c hc
  obtain rfl : c = false := by rw [hc]; rfl
  conv => whnf
  repeat (first | (refine ⟨(by kernel_rfl : chkR _ _ _ _ = true), ?_⟩; conv => whnf) | (refine EvOr.go ?_; conv => whnf))
  intro c hc
  obtain rfl : c = false := by rw [hc]; rfl
  conv => whnf
  repeat (first | (refine ⟨(by kernel_rfl : chkR _ _ _ _ = true), ?_⟩; conv => whnf) | (refine EvOr.go ?_; conv => whnf))
  refine CodeT.loopN tabOk mixed I (min l.length 60) _ (StW.ofP [0, 1, 2, 3, 4, 5, 6] ?_ ?_ ?_) (fun k => by subst hI; rfl) ?_
  · subst hI; kernel_rfl
  · subst hI; rfl
  · subst hI; rfl
  intro k hkl
  subst hI
  show evC Try.prog tab _ _ (plI c1 n l k).1 (plI c1 n l k).2 _
  by_cases hk : k < min l.length 60
  · have hk1 : k < l.length := by omega
    have hk2 : k < 60 := by omega
    have hs := plF_succ (n := n) hk1
    have inv := plF_inv h4 h64 hl k (by omega) (by omega)
    have ga := act_at hk1
    have ha := hl _ (List.getElem_mem hk1)
    have w4 : arithI .rem .i64 l[k].w 4 = some (l[k].w.tmod 4) := rfl
    have gc := fun (σ : PS) => cols_ok σ.x n σ.L σ.K (by omega)
    unfold plI
    clear gE
    generalize l[k] = a at *
    generalize hσ : plF n l k = σ at *
    clear hσ
    unfold plStep at hs
    by_cases w0 : a.w.tmod 4 = 0
    · rw [if_pos w0] at hs
      obtain ⟨e, p1, p2, inv', hx⟩ := put_any inv (by omega) (by omega) h64 a.c a.s ha.s
      generalize putP n σ a.c a.s = σ' at *
      obtain ⟨x, L, K⟩ := σ
      obtain ⟨x', L', K'⟩ := σ'
      dsimp only at hx p1 p2 ⊢
      subst x'
      obtain ⟨y, e2, g1, g2⟩ := get_any inv' (by omega) a.c
      have c1' := gc ⟨x, L', K'⟩
      by_cases hO : lostN n K' = []
      · obtain ⟨d, t1, t2, t3, t4⟩ := tail_nil inv' h4 h64 hO
        dsimp only at g1 g2 c1' t1 t2 t3 t4
        cases x <;> cases d <;>
        · conv => whnf
          repeat (first | (refine ⟨(by kernel_rfl : chkR _ _ _ _ = true), ?_⟩; conv => whnf) | (refine EvOr.go ?_; conv => whnf))
          intro c hc
          obtain rfl : c = true := by rw [hc]; exact decide_eq_true (by omega)
          conv => whnf
          repeat (first | (refine ⟨(by kernel_rfl : chkR _ _ _ _ = true), ?_⟩; conv => whnf) | (refine EvOr.go ?_; conv => whnf))
          intro c hc
          obtain rfl : c = true := by rw [hc]; exact decide_eq_true (by omega)
          conv => whnf
          repeat (first | (refine ⟨(by kernel_rfl : chkR _ _ _ _ = true), ?_⟩; conv => whnf) | (refine EvOr.go ?_; conv => whnf))
          refine ⟨⟨by omega, by omega⟩, ?_⟩
          conv => whnf
          repeat (first | (refine ⟨(by kernel_rfl : chkR _ _ _ _ = true), ?_⟩; conv => whnf) | (refine EvOr.go ?_; conv => whnf))
          refine ⟨_, ga, ?_⟩
          conv => whnf
          repeat (first | (refine ⟨(by kernel_rfl : chkR _ _ _ _ = true), ?_⟩; conv => whnf) | (refine EvOr.go ?_; conv => whnf))
          refine ⟨_, w4, ?_⟩
          conv => whnf
          repeat (first | (refine ⟨(by kernel_rfl : chkR _ _ _ _ = true), ?_⟩; conv => whnf) | (refine EvOr.go ?_; conv => whnf))
          intro c hc
          obtain rfl : c = true := by rw [hc, w0]; rfl
          conv => whnf
          repeat (first | (refine ⟨(by kernel_rfl : chkR _ _ _ _ = true), ?_⟩; conv => whnf) | (refine EvOr.go ?_; conv => whnf))
          refine CallG.use p1 c52 [1, 2, 3] [1, 2] ?_ ?_ ?_ ?_ ?_ ?_; rfl; rfl; kernel_rfl; rfl; rfl
          conv => whnf
          repeat (first | (refine ⟨(by kernel_rfl : chkR _ _ _ _ = true), ?_⟩; conv => whnf) | (refine EvOr.go ?_; conv => whnf))
          refine CallG.use p2 c62 [4, 5, 6] [1, 2] ?_ ?_ ?_ ?_ ?_ ?_; rfl; rfl; kernel_rfl; rfl; rfl
          conv => whnf
          repeat (first | (refine ⟨(by kernel_rfl : chkR _ _ _ _ = true), ?_⟩; conv => whnf) | (refine EvOr.go ?_; conv => whnf))
          intro c hc
          obtain rfl : c = false := by rw [hc]; simp
          conv => whnf
          repeat (first | (refine ⟨(by kernel_rfl : chkR _ _ _ _ = true), ?_⟩; conv => whnf) | (refine EvOr.go ?_; conv => whnf))
          refine CallG.use g1 c57 [1, 2, 3] [] ?_ ?_ ?_ ?_ ?_ ?_; rfl; rfl; kernel_rfl; rfl; rfl
          conv => whnf
          repeat (first | (refine ⟨(by kernel_rfl : chkR _ _ _ _ = true), ?_⟩; conv => whnf) | (refine EvOr.go ?_; conv => whnf))
          refine CallG.use g2 c67 [4, 5, 6] [] ?_ ?_ ?_ ?_ ?_ ?_; rfl; rfl; kernel_rfl; rfl; rfl
          conv => whnf
          repeat (first | (refine ⟨(by kernel_rfl : chkR _ _ _ _ = true), ?_⟩; conv => whnf) | (refine EvOr.go ?_; conv => whnf))
          refine ⟨rfl, ?_⟩
          refine ⟨eq34, ?_⟩
          conv => whnf
          repeat (first | (refine ⟨(by kernel_rfl : chkR _ _ _ _ = true), ?_⟩; conv => whnf) | (refine EvOr.go ?_; conv => whnf))
          intro c hc
          obtain rfl : c = false := by
            cases c
            · rfl
            · exact absurd rfl (hc.1 rfl)
          conv => whnf
          repeat (first | (refine ⟨(by kernel_rfl : chkR _ _ _ _ = true), ?_⟩; conv => whnf) | (refine EvOr.go ?_; conv => whnf))
          conv => whnf
          repeat (first | (refine ⟨(by kernel_rfl : chkR _ _ _ _ = true), ?_⟩; conv => whnf) | (refine EvOr.go ?_; conv => whnf))
          intro c hc
          obtain rfl : c = false := by rw [hc]; simp
          conv => whnf
          repeat (first | (refine ⟨(by kernel_rfl : chkR _ _ _ _ = true), ?_⟩; conv => whnf) | (refine EvOr.go ?_; conv => whnf))
          refine CallG.use t1 c59 [1, 2, 3] [] ?_ ?_ ?_ ?_ ?_ ?_; rfl; rfl; kernel_rfl; rfl; rfl
          conv => whnf
          repeat (first | (refine ⟨(by kernel_rfl : chkR _ _ _ _ = true), ?_⟩; conv => whnf) | (refine EvOr.go ?_; conv => whnf))
          refine CallG.use t2 c68 [4, 5, 6] [] ?_ ?_ ?_ ?_ ?_ ?_; rfl; rfl; kernel_rfl; rfl; rfl
          conv => whnf
          repeat (first | (refine ⟨(by kernel_rfl : chkR _ _ _ _ = true), ?_⟩; conv => whnf) | (refine EvOr.go ?_; conv => whnf))
          refine CallG.use ints_nil c65 [] [] ?_ ?_ ?_ ?_ ?_ ?_; rfl; rfl; kernel_rfl; rfl; rfl
          conv => whnf
          repeat (first | (refine ⟨(by kernel_rfl : chkR _ _ _ _ = true), ?_⟩; conv => whnf) | (refine EvOr.go ?_; conv => whnf))
          refine CallG.use t3 c56 [1, 2, 3] [] ?_ ?_ ?_ ?_ ?_ ?_; rfl; rfl; kernel_rfl; rfl; rfl
          conv => whnf
          repeat (first | (refine ⟨(by kernel_rfl : chkR _ _ _ _ = true), ?_⟩; conv => whnf) | (refine EvOr.go ?_; conv => whnf))
          refine CallG.use t4 c69 [4, 5, 6] [] ?_ ?_ ?_ ?_ ?_ ?_; rfl; rfl; kernel_rfl; rfl; rfl
          conv => whnf
          repeat (first | (refine ⟨(by kernel_rfl : chkR _ _ _ _ = true), ?_⟩; conv => whnf) | (refine EvOr.go ?_; conv => whnf))
          refine CallG.use c1' c70 [1, 2, 3] [] ?_ ?_ ?_ ?_ ?_ ?_; rfl; rfl; kernel_rfl; rfl; rfl
          conv => whnf
          repeat (first | (refine ⟨(by kernel_rfl : chkR _ _ _ _ = true), ?_⟩; conv => whnf) | (refine EvOr.go ?_; conv => whnf))
          intro c hc
          obtain rfl : c = false := by rw [hc]; simp
          conv => whnf
          repeat (first | (refine ⟨(by kernel_rfl : chkR _ _ _ _ = true), ?_⟩; conv => whnf) | (refine EvOr.go ?_; conv => whnf))
          refine ⟨_, inc_nat (by omega), ?_⟩
          conv => whnf
          repeat (first | (refine ⟨(by kernel_rfl : chkR _ _ _ _ = true), ?_⟩; conv => whnf) | (refine EvOr.go ?_; conv => whnf))
          refine ⟨by omega, _, StW.ofP [0, 1, 2, 3, 4, 5, 6] ?_ ?_ ?_⟩
          · show stP _ _ (plI c1 n l (k + 1)).2 = true
            simp only [plI, hs]; kernel_rfl
          · rfl
          · simp only [plI, hs]; rfl
      · obtain ⟨O, ho, t1, t2, t3, t4⟩ := tail_row inv' h4 h64 hO
        dsimp only at g1 g2 c1' t1 t2 t3 t4
        cases x <;>
        · conv => whnf
          repeat (first | (refine ⟨(by kernel_rfl : chkR _ _ _ _ = true), ?_⟩; conv => whnf) | (refine EvOr.go ?_; conv => whnf))
          intro c hc
          obtain rfl : c = true := by rw [hc]; exact decide_eq_true (by omega)
          conv => whnf
          repeat (first | (refine ⟨(by kernel_rfl : chkR _ _ _ _ = true), ?_⟩; conv => whnf) | (refine EvOr.go ?_; conv => whnf))
          intro c hc
          obtain rfl : c = true := by rw [hc]; exact decide_eq_true (by omega)
          conv => whnf
          repeat (first | (refine ⟨(by kernel_rfl : chkR _ _ _ _ = true), ?_⟩; conv => whnf) | (refine EvOr.go ?_; conv => whnf))
          refine ⟨⟨by omega, by omega⟩, ?_⟩
          conv => whnf
          repeat (first | (refine ⟨(by kernel_rfl : chkR _ _ _ _ = true), ?_⟩; conv => whnf) | (refine EvOr.go ?_; conv => whnf))
          refine ⟨_, ga, ?_⟩
          conv => whnf
          repeat (first | (refine ⟨(by kernel_rfl : chkR _ _ _ _ = true), ?_⟩; conv => whnf) | (refine EvOr.go ?_; conv => whnf))
          refine ⟨_, w4, ?_⟩
          conv => whnf
          repeat (first | (refine ⟨(by kernel_rfl : chkR _ _ _ _ = true), ?_⟩; conv => whnf) | (refine EvOr.go ?_; conv => whnf))
          intro c hc
          obtain rfl : c = true := by rw [hc, w0]; rfl
          conv => whnf
          repeat (first | (refine ⟨(by kernel_rfl : chkR _ _ _ _ = true), ?_⟩; conv => whnf) | (refine EvOr.go ?_; conv => whnf))
          refine CallG.use p1 c52 [1, 2, 3] [1, 2] ?_ ?_ ?_ ?_ ?_ ?_; rfl; rfl; kernel_rfl; rfl; rfl
          conv => whnf
          repeat (first | (refine ⟨(by kernel_rfl : chkR _ _ _ _ = true), ?_⟩; conv => whnf) | (refine EvOr.go ?_; conv => whnf))
          refine CallG.use p2 c62 [4, 5, 6] [1, 2] ?_ ?_ ?_ ?_ ?_ ?_; rfl; rfl; kernel_rfl; rfl; rfl
          conv => whnf
          repeat (first | (refine ⟨(by kernel_rfl : chkR _ _ _ _ = true), ?_⟩; conv => whnf) | (refine EvOr.go ?_; conv => whnf))
          intro c hc
          obtain rfl : c = false := by rw [hc]; simp
          conv => whnf
          repeat (first | (refine ⟨(by kernel_rfl : chkR _ _ _ _ = true), ?_⟩; conv => whnf) | (refine EvOr.go ?_; conv => whnf))
          refine CallG.use g1 c57 [1, 2, 3] [] ?_ ?_ ?_ ?_ ?_ ?_; rfl; rfl; kernel_rfl; rfl; rfl
          conv => whnf
          repeat (first | (refine ⟨(by kernel_rfl : chkR _ _ _ _ = true), ?_⟩; conv => whnf) | (refine EvOr.go ?_; conv => whnf))
          refine CallG.use g2 c67 [4, 5, 6] [] ?_ ?_ ?_ ?_ ?_ ?_; rfl; rfl; kernel_rfl; rfl; rfl
          conv => whnf
          repeat (first | (refine ⟨(by kernel_rfl : chkR _ _ _ _ = true), ?_⟩; conv => whnf) | (refine EvOr.go ?_; conv => whnf))
          refine ⟨rfl, ?_⟩
          refine ⟨eq34, ?_⟩
          conv => whnf
          repeat (first | (refine ⟨(by kernel_rfl : chkR _ _ _ _ = true), ?_⟩; conv => whnf) | (refine EvOr.go ?_; conv => whnf))
          intro c hc
          obtain rfl : c = false := by
            cases c
            · rfl
            · exact absurd rfl (hc.1 rfl)
          conv => whnf
          repeat (first | (refine ⟨(by kernel_rfl : chkR _ _ _ _ = true), ?_⟩; conv => whnf) | (refine EvOr.go ?_; conv => whnf))
          conv => whnf
          repeat (first | (refine ⟨(by kernel_rfl : chkR _ _ _ _ = true), ?_⟩; conv => whnf) | (refine EvOr.go ?_; conv => whnf))
          intro c hc
          obtain rfl : c = false := by rw [hc]; simp
          conv => whnf
          repeat (first | (refine ⟨(by kernel_rfl : chkR _ _ _ _ = true), ?_⟩; conv => whnf) | (refine EvOr.go ?_; conv => whnf))
          refine CallG.use t1 c59 [1, 2, 3] [] ?_ ?_ ?_ ?_ ?_ ?_; rfl; rfl; kernel_rfl; rfl; rfl
          conv => whnf
          repeat (first | (refine ⟨(by kernel_rfl : chkR _ _ _ _ = true), ?_⟩; conv => whnf) | (refine EvOr.go ?_; conv => whnf))
          refine CallG.use t2 c68 [4, 5, 6] [] ?_ ?_ ?_ ?_ ?_ ?_; rfl; rfl; kernel_rfl; rfl; rfl
          conv => whnf
          repeat (first | (refine ⟨(by kernel_rfl : chkR _ _ _ _ = true), ?_⟩; conv => whnf) | (refine EvOr.go ?_; conv => whnf))
          refine CallG.use (ints_ok O ho) c65 [10, 11] [] ?_ ?_ ?_ ?_ ?_ ?_; rfl; rfl; kernel_rfl; rfl; rfl
          conv => whnf
          repeat (first | (refine ⟨(by kernel_rfl : chkR _ _ _ _ = true), ?_⟩; conv => whnf) | (refine EvOr.go ?_; conv => whnf))
          refine CallG.use t3 c56 [1, 2, 3] [] ?_ ?_ ?_ ?_ ?_ ?_; rfl; rfl; kernel_rfl; rfl; rfl
          conv => whnf
          repeat (first | (refine ⟨(by kernel_rfl : chkR _ _ _ _ = true), ?_⟩; conv => whnf) | (refine EvOr.go ?_; conv => whnf))
          refine CallG.use t4 c69 [4, 5, 6] [] ?_ ?_ ?_ ?_ ?_ ?_; rfl; rfl; kernel_rfl; rfl; rfl
          conv => whnf
          repeat (first | (refine ⟨(by kernel_rfl : chkR _ _ _ _ = true), ?_⟩; conv => whnf) | (refine EvOr.go ?_; conv => whnf))
          refine CallG.use c1' c70 [1, 2, 3] [] ?_ ?_ ?_ ?_ ?_ ?_; rfl; rfl; kernel_rfl; rfl; rfl
          conv => whnf
          repeat (first | (refine ⟨(by kernel_rfl : chkR _ _ _ _ = true), ?_⟩; conv => whnf) | (refine EvOr.go ?_; conv => whnf))
          intro c hc
          obtain rfl : c = false := by rw [hc]; simp
          conv => whnf
          repeat (first | (refine ⟨(by kernel_rfl : chkR _ _ _ _ = true), ?_⟩; conv => whnf) | (refine EvOr.go ?_; conv => whnf))
          refine ⟨_, inc_nat (by omega), ?_⟩
          conv => whnf
          repeat (first | (refine ⟨(by kernel_rfl : chkR _ _ _ _ = true), ?_⟩; conv => whnf) | (refine EvOr.go ?_; conv => whnf))
          refine ⟨by omega, _, StW.ofP [0, 1, 2, 3, 4, 5, 6] ?_ ?_ ?_⟩
          · show stP _ _ (plI c1 n l (k + 1)).2 = true
            simp only [plI, hs]; kernel_rfl
          · rfl
          · simp only [plI, hs]; rfl
    · rw [if_neg w0] at hs
      by_cases w1 : a.w.tmod 4 = 1
      · rw [if_pos w1] at hs
        obtain ⟨e, p1, p2, inv', hx⟩ := lose_any inv (by omega) h64 a.c
        generalize loseP n σ a.c = σ' at *
        obtain ⟨x, L, K⟩ := σ
        obtain ⟨x', L', K'⟩ := σ'
        dsimp only at hx p1 p2 ⊢
        subst x'
        obtain ⟨y, e2, g1, g2⟩ := get_any inv' (by omega) a.c
        have c1' := gc ⟨x, L', K'⟩
        by_cases hO : lostN n K' = []
        · obtain ⟨d, t1, t2, t3, t4⟩ := tail_nil inv' h4 h64 hO
          dsimp only at g1 g2 c1' t1 t2 t3 t4
          cases x <;> cases d <;>
          · conv => whnf
            repeat (first | (refine ⟨(by kernel_rfl : chkR _ _ _ _ = true), ?_⟩; conv => whnf) | (refine EvOr.go ?_; conv => whnf))
            intro c hc
            obtain rfl : c = true := by rw [hc]; exact decide_eq_true (by omega)
            conv => whnf
            repeat (first | (refine ⟨(by kernel_rfl : chkR _ _ _ _ = true), ?_⟩; conv => whnf) | (refine EvOr.go ?_; conv => whnf))
            intro c hc
            obtain rfl : c = true := by rw [hc]; exact decide_eq_true (by omega)
            conv => whnf
            repeat (first | (refine ⟨(by kernel_rfl : chkR _ _ _ _ = true), ?_⟩; conv => whnf) | (refine EvOr.go ?_; conv => whnf))
            refine ⟨⟨by omega, by omega⟩, ?_⟩
            conv => whnf
            repeat (first | (refine ⟨(by kernel_rfl : chkR _ _ _ _ = true), ?_⟩; conv => whnf) | (refine EvOr.go ?_; conv => whnf))
            refine ⟨_, ga, ?_⟩
            conv => whnf
            repeat (first | (refine ⟨(by kernel_rfl : chkR _ _ _ _ = true), ?_⟩; conv => whnf) | (refine EvOr.go ?_; conv => whnf))
            refine ⟨_, w4, ?_⟩
            conv => whnf
            repeat (first | (refine ⟨(by kernel_rfl : chkR _ _ _ _ = true), ?_⟩; conv => whnf) | (refine EvOr.go ?_; conv => whnf))
            intro c hc
            obtain rfl : c = false := by rw [hc]; simp; omega
            conv => whnf
            repeat (first | (refine ⟨(by kernel_rfl : chkR _ _ _ _ = true), ?_⟩; conv => whnf) | (refine EvOr.go ?_; conv => whnf))
            intro c hc
            obtain rfl : c = true := by rw [hc, w1]; rfl
            conv => whnf
            repeat (first | (refine ⟨(by kernel_rfl : chkR _ _ _ _ = true), ?_⟩; conv => whnf) | (refine EvOr.go ?_; conv => whnf))
            refine CallG.use p1 c54 [1, 2, 3] [1, 2] ?_ ?_ ?_ ?_ ?_ ?_; rfl; rfl; kernel_rfl; rfl; rfl
            conv => whnf
            repeat (first | (refine ⟨(by kernel_rfl : chkR _ _ _ _ = true), ?_⟩; conv => whnf) | (refine EvOr.go ?_; conv => whnf))
            refine CallG.use p2 c63 [4, 5, 6] [1, 2] ?_ ?_ ?_ ?_ ?_ ?_; rfl; rfl; kernel_rfl; rfl; rfl
            conv => whnf
            repeat (first | (refine ⟨(by kernel_rfl : chkR _ _ _ _ = true), ?_⟩; conv => whnf) | (refine EvOr.go ?_; conv => whnf))
            intro c hc
            obtain rfl : c = false := by rw [hc]; simp
            conv => whnf
            repeat (first | (refine ⟨(by kernel_rfl : chkR _ _ _ _ = true), ?_⟩; conv => whnf) | (refine EvOr.go ?_; conv => whnf))
            refine CallG.use g1 c57 [1, 2, 3] [] ?_ ?_ ?_ ?_ ?_ ?_; rfl; rfl; kernel_rfl; rfl; rfl
            conv => whnf
            repeat (first | (refine ⟨(by kernel_rfl : chkR _ _ _ _ = true), ?_⟩; conv => whnf) | (refine EvOr.go ?_; conv => whnf))
            refine CallG.use g2 c67 [4, 5, 6] [] ?_ ?_ ?_ ?_ ?_ ?_; rfl; rfl; kernel_rfl; rfl; rfl
            conv => whnf
            repeat (first | (refine ⟨(by kernel_rfl : chkR _ _ _ _ = true), ?_⟩; conv => whnf) | (refine EvOr.go ?_; conv => whnf))
            refine ⟨rfl, ?_⟩
            refine ⟨eq34, ?_⟩
            conv => whnf
            repeat (first | (refine ⟨(by kernel_rfl : chkR _ _ _ _ = true), ?_⟩; conv => whnf) | (refine EvOr.go ?_; conv => whnf))
            intro c hc
            obtain rfl : c = false := by
              cases c
              · rfl
              · exact absurd rfl (hc.1 rfl)
            conv => whnf
            repeat (first | (refine ⟨(by kernel_rfl : chkR _ _ _ _ = true), ?_⟩; conv => whnf) | (refine EvOr.go ?_; conv => whnf))
            conv => whnf
            repeat (first | (refine ⟨(by kernel_rfl : chkR _ _ _ _ = true), ?_⟩; conv => whnf) | (refine EvOr.go ?_; conv => whnf))
            intro c hc
            obtain rfl : c = false := by rw [hc]; simp
            conv => whnf
            repeat (first | (refine ⟨(by kernel_rfl : chkR _ _ _ _ = true), ?_⟩; conv => whnf) | (refine EvOr.go ?_; conv => whnf))
            refine CallG.use t1 c59 [1, 2, 3] [] ?_ ?_ ?_ ?_ ?_ ?_; rfl; rfl; kernel_rfl; rfl; rfl
            conv => whnf
            repeat (first | (refine ⟨(by kernel_rfl : chkR _ _ _ _ = true), ?_⟩; conv => whnf) | (refine EvOr.go ?_; conv => whnf))
            refine CallG.use t2 c68 [4, 5, 6] [] ?_ ?_ ?_ ?_ ?_ ?_; rfl; rfl; kernel_rfl; rfl; rfl
            conv => whnf
            repeat (first | (refine ⟨(by kernel_rfl : chkR _ _ _ _ = true), ?_⟩; conv => whnf) | (refine EvOr.go ?_; conv => whnf))
            refine CallG.use ints_nil c65 [] [] ?_ ?_ ?_ ?_ ?_ ?_; rfl; rfl; kernel_rfl; rfl; rfl
            conv => whnf
            repeat (first | (refine ⟨(by kernel_rfl : chkR _ _ _ _ = true), ?_⟩; conv => whnf) | (refine EvOr.go ?_; conv => whnf))
            refine CallG.use t3 c56 [1, 2, 3] [] ?_ ?_ ?_ ?_ ?_ ?_; rfl; rfl; kernel_rfl; rfl; rfl
            conv => whnf
            repeat (first | (refine ⟨(by kernel_rfl : chkR _ _ _ _ = true), ?_⟩; conv => whnf) | (refine EvOr.go ?_; conv => whnf))
            refine CallG.use t4 c69 [4, 5, 6] [] ?_ ?_ ?_ ?_ ?_ ?_; rfl; rfl; kernel_rfl; rfl; rfl
            conv => whnf
            repeat (first | (refine ⟨(by kernel_rfl : chkR _ _ _ _ = true), ?_⟩; conv => whnf) | (refine EvOr.go ?_; conv => whnf))
            refine CallG.use c1' c70 [1, 2, 3] [] ?_ ?_ ?_ ?_ ?_ ?_; rfl; rfl; kernel_rfl; rfl; rfl
            conv => whnf
            repeat (first | (refine ⟨(by kernel_rfl : chkR _ _ _ _ = true), ?_⟩; conv => whnf) | (refine EvOr.go ?_; conv => whnf))
            intro c hc
            obtain rfl : c = false := by rw [hc]; simp
            conv => whnf
            repeat (first | (refine ⟨(by kernel_rfl : chkR _ _ _ _ = true), ?_⟩; conv => whnf) | (refine EvOr.go ?_; conv => whnf))
            refine ⟨_, inc_nat (by omega), ?_⟩
            conv => whnf
            repeat (first | (refine ⟨(by kernel_rfl : chkR _ _ _ _ = true), ?_⟩; conv => whnf) | (refine EvOr.go ?_; conv => whnf))
            refine ⟨by omega, _, StW.ofP [0, 1, 2, 3, 4, 5, 6] ?_ ?_ ?_⟩
            · show stP _ _ (plI c1 n l (k + 1)).2 = true
              simp only [plI, hs]; kernel_rfl
            · rfl
            · simp only [plI, hs]; rfl
        · obtain ⟨O, ho, t1, t2, t3, t4⟩ := tail_row inv' h4 h64 hO
          dsimp only at g1 g2 c1' t1 t2 t3 t4
          cases x <;>
          · conv => whnf
            repeat (first | (refine ⟨(by kernel_rfl : chkR _ _ _ _ = true), ?_⟩; conv => whnf) | (refine EvOr.go ?_; conv => whnf))
            intro c hc
            obtain rfl : c = true := by rw [hc]; exact decide_eq_true (by omega)
            conv => whnf
            repeat (first | (refine ⟨(by kernel_rfl : chkR _ _ _ _ = true), ?_⟩; conv => whnf) | (refine EvOr.go ?_; conv => whnf))
            intro c hc
            obtain rfl : c = true := by rw [hc]; exact decide_eq_true (by omega)
            conv => whnf
            repeat (first | (refine ⟨(by kernel_rfl : chkR _ _ _ _ = true), ?_⟩; conv => whnf) | (refine EvOr.go ?_; conv => whnf))
            refine ⟨⟨by omega, by omega⟩, ?_⟩
            conv => whnf
            repeat (first | (refine ⟨(by kernel_rfl : chkR _ _ _ _ = true), ?_⟩; conv => whnf) | (refine EvOr.go ?_; conv => whnf))
            refine ⟨_, ga, ?_⟩
            conv => whnf
            repeat (first | (refine ⟨(by kernel_rfl : chkR _ _ _ _ = true), ?_⟩; conv => whnf) | (refine EvOr.go ?_; conv => whnf))
            refine ⟨_, w4, ?_⟩
            conv => whnf
            repeat (first | (refine ⟨(by kernel_rfl : chkR _ _ _ _ = true), ?_⟩; conv => whnf) | (refine EvOr.go ?_; conv => whnf))
            intro c hc
            obtain rfl : c = false := by rw [hc]; simp; omega
            conv => whnf
            repeat (first | (refine ⟨(by kernel_rfl : chkR _ _ _ _ = true), ?_⟩; conv => whnf) | (refine EvOr.go ?_; conv => whnf))
            intro c hc
            obtain rfl : c = true := by rw [hc, w1]; rfl
            conv => whnf
            repeat (first | (refine ⟨(by kernel_rfl : chkR _ _ _ _ = true), ?_⟩; conv => whnf) | (refine EvOr.go ?_; conv => whnf))
            refine CallG.use p1 c54 [1, 2, 3] [1, 2] ?_ ?_ ?_ ?_ ?_ ?_; rfl; rfl; kernel_rfl; rfl; rfl
            conv => whnf
            repeat (first | (refine ⟨(by kernel_rfl : chkR _ _ _ _ = true), ?_⟩; conv => whnf) | (refine EvOr.go ?_; conv => whnf))
            refine CallG.use p2 c63 [4, 5, 6] [1, 2] ?_ ?_ ?_ ?_ ?_ ?_; rfl; rfl; kernel_rfl; rfl; rfl
            conv => whnf
            repeat (first | (refine ⟨(by kernel_rfl : chkR _ _ _ _ = true), ?_⟩; conv => whnf) | (refine EvOr.go ?_; conv => whnf))
            intro c hc
            obtain rfl : c = false := by rw [hc]; simp
            conv => whnf
            repeat (first | (refine ⟨(by kernel_rfl : chkR _ _ _ _ = true), ?_⟩; conv => whnf) | (refine EvOr.go ?_; conv => whnf))
            refine CallG.use g1 c57 [1, 2, 3] [] ?_ ?_ ?_ ?_ ?_ ?_; rfl; rfl; kernel_rfl; rfl; rfl
            conv => whnf
            repeat (first | (refine ⟨(by kernel_rfl : chkR _ _ _ _ = true), ?_⟩; conv => whnf) | (refine EvOr.go ?_; conv => whnf))
            refine CallG.use g2 c67 [4, 5, 6] [] ?_ ?_ ?_ ?_ ?_ ?_; rfl; rfl; kernel_rfl; rfl; rfl
            conv => whnf
            repeat (first | (refine ⟨(by kernel_rfl : chkR _ _ _ _ = true), ?_⟩; conv => whnf) | (refine EvOr.go ?_; conv => whnf))
            refine ⟨rfl, ?_⟩
            refine ⟨eq34, ?_⟩
            conv => whnf
            repeat (first | (refine ⟨(by kernel_rfl : chkR _ _ _ _ = true), ?_⟩; conv => whnf) | (refine EvOr.go ?_; conv => whnf))
            intro c hc
            obtain rfl : c = false := by
              cases c
              · rfl
              · exact absurd rfl (hc.1 rfl)
            conv => whnf
            repeat (first | (refine ⟨(by kernel_rfl : chkR _ _ _ _ = true), ?_⟩; conv => whnf) | (refine EvOr.go ?_; conv => whnf))
            conv => whnf
            repeat (first | (refine ⟨(by kernel_rfl : chkR _ _ _ _ = true), ?_⟩; conv => whnf) | (refine EvOr.go ?_; conv => whnf))
            intro c hc
            obtain rfl : c = false := by rw [hc]; simp
            conv => whnf
            repeat (first | (refine ⟨(by kernel_rfl : chkR _ _ _ _ = true), ?_⟩; conv => whnf) | (refine EvOr.go ?_; conv => whnf))
            refine CallG.use t1 c59 [1, 2, 3] [] ?_ ?_ ?_ ?_ ?_ ?_; rfl; rfl; kernel_rfl; rfl; rfl
            conv => whnf
            repeat (first | (refine ⟨(by kernel_rfl : chkR _ _ _ _ = true), ?_⟩; conv => whnf) | (refine EvOr.go ?_; conv => whnf))
            refine CallG.use t2 c68 [4, 5, 6] [] ?_ ?_ ?_ ?_ ?_ ?_; rfl; rfl; kernel_rfl; rfl; rfl
            conv => whnf
            repeat (first | (refine ⟨(by kernel_rfl : chkR _ _ _ _ = true), ?_⟩; conv => whnf) | (refine EvOr.go ?_; conv => whnf))
            refine CallG.use (ints_ok O ho) c65 [10, 11] [] ?_ ?_ ?_ ?_ ?_ ?_; rfl; rfl; kernel_rfl; rfl; rfl
            conv => whnf
            repeat (first | (refine ⟨(by kernel_rfl : chkR _ _ _ _ = true), ?_⟩; conv => whnf) | (refine EvOr.go ?_; conv => whnf))
            refine CallG.use t3 c56 [1, 2, 3] [] ?_ ?_ ?_ ?_ ?_ ?_; rfl; rfl; kernel_rfl; rfl; rfl
            conv => whnf
            repeat (first | (refine ⟨(by kernel_rfl : chkR _ _ _ _ = true), ?_⟩; conv => whnf) | (refine EvOr.go ?_; conv => whnf))
            refine CallG.use t4 c69 [4, 5, 6] [] ?_ ?_ ?_ ?_ ?_ ?_; rfl; rfl; kernel_rfl; rfl; rfl
            conv => whnf
            repeat (first | (refine ⟨(by kernel_rfl : chkR _ _ _ _ = true), ?_⟩; conv => whnf) | (refine EvOr.go ?_; conv => whnf))
            refine CallG.use c1' c70 [1, 2, 3] [] ?_ ?_ ?_ ?_ ?_ ?_; rfl; rfl; kernel_rfl; rfl; rfl
            conv => whnf
            repeat (first | (refine ⟨(by kernel_rfl : chkR _ _ _ _ = true), ?_⟩; conv => whnf) | (refine EvOr.go ?_; conv => whnf))
            intro c hc
            obtain rfl : c = false := by rw [hc]; simp
            conv => whnf
            repeat (first | (refine ⟨(by kernel_rfl : chkR _ _ _ _ = true), ?_⟩; conv => whnf) | (refine EvOr.go ?_; conv => whnf))
            refine ⟨_, inc_nat (by omega), ?_⟩
            conv => whnf
            repeat (first | (refine ⟨(by kernel_rfl : chkR _ _ _ _ = true), ?_⟩; conv => whnf) | (refine EvOr.go ?_; conv => whnf))
            refine ⟨by omega, _, StW.ofP [0, 1, 2, 3, 4, 5, 6] ?_ ?_ ?_⟩
            · show stP _ _ (plI c1 n l (k + 1)).2 = true
              simp only [plI, hs]; kernel_rfl
            · rfl
            · simp only [plI, hs]; rfl
      · rw [if_neg w1] at hs
        by_cases w2 : a.w.tmod 4 = 2
        · rw [if_pos w2] at hs
          by_cases h3 : (lostN n σ.K).length ≤ 2
          · rw [if_pos h3] at hs
            have inv' := mendP inv h4
            have p1 := mend_ok σ.x n σ.L σ.K h4 h64 inv.l1 inv.l2 inv.s1 h3
            have p2 := rmend_ok n σ.L σ.K h4 h64 inv.l1 inv.l2 inv.s1 h3
            have hO := setK_lost inv.l2
            generalize fixR σ.L (n - 2) (lostN n σ.K) = L' at *
            generalize setK σ.K (lostN n σ.K) = K' at *
            generalize lostN n σ.K = ks at *
            obtain ⟨x, L, K⟩ := σ
            dsimp only at p1 p2 ⊢
            obtain ⟨y, e2, g1, g2⟩ := get_any inv' (by omega) a.c
            have c1' := gc ⟨true, L', K'⟩
            obtain ⟨d, t1, t2, t3, t4⟩ := tail_nil inv' h4 h64 hO
            dsimp only at g1 g2 c1' t1 t2 t3 t4
            by_cases hks : ks = []
            · subst hks
              cases x <;> cases d <;>
              · conv => whnf
                repeat (first | (refine ⟨(by kernel_rfl : chkR _ _ _ _ = true), ?_⟩; conv => whnf) | (refine EvOr.go ?_; conv => whnf))
                intro c hc
                obtain rfl : c = true := by rw [hc]; exact decide_eq_true (by omega)
                conv => whnf
                repeat (first | (refine ⟨(by kernel_rfl : chkR _ _ _ _ = true), ?_⟩; conv => whnf) | (refine EvOr.go ?_; conv => whnf))
                intro c hc
                obtain rfl : c = true := by rw [hc]; exact decide_eq_true (by omega)
                conv => whnf
                repeat (first | (refine ⟨(by kernel_rfl : chkR _ _ _ _ = true), ?_⟩; conv => whnf) | (refine EvOr.go ?_; conv => whnf))
                refine ⟨⟨by omega, by omega⟩, ?_⟩
                conv => whnf
                repeat (first | (refine ⟨(by kernel_rfl : chkR _ _ _ _ = true), ?_⟩; conv => whnf) | (refine EvOr.go ?_; conv => whnf))
                refine ⟨_, ga, ?_⟩
                conv => whnf
                repeat (first | (refine ⟨(by kernel_rfl : chkR _ _ _ _ = true), ?_⟩; conv => whnf) | (refine EvOr.go ?_; conv => whnf))
                refine ⟨_, w4, ?_⟩
                conv => whnf
                repeat (first | (refine ⟨(by kernel_rfl : chkR _ _ _ _ = true), ?_⟩; conv => whnf) | (refine EvOr.go ?_; conv => whnf))
                intro c hc
                obtain rfl : c = false := by rw [hc]; simp; omega
                conv => whnf
                repeat (first | (refine ⟨(by kernel_rfl : chkR _ _ _ _ = true), ?_⟩; conv => whnf) | (refine EvOr.go ?_; conv => whnf))
                intro c hc
                obtain rfl : c = false := by rw [hc]; simp; omega
                conv => whnf
                repeat (first | (refine ⟨(by kernel_rfl : chkR _ _ _ _ = true), ?_⟩; conv => whnf) | (refine EvOr.go ?_; conv => whnf))
                intro c hc
                obtain rfl : c = true := by rw [hc, w2]; rfl
                conv => whnf
                repeat (first | (refine ⟨(by kernel_rfl : chkR _ _ _ _ = true), ?_⟩; conv => whnf) | (refine EvOr.go ?_; conv => whnf))
                refine CallG.use p1 c55 [1, 2, 3] [0, 2] ?_ ?_ ?_ ?_ ?_ ?_; rfl; rfl; kernel_rfl; rfl; rfl
                conv => whnf
                repeat (first | (refine ⟨(by kernel_rfl : chkR _ _ _ _ = true), ?_⟩; conv => whnf) | (refine EvOr.go ?_; conv => whnf))
                refine CallG.use p2 c64 [4, 5, 6] [0, 2] ?_ ?_ ?_ ?_ ?_ ?_; rfl; rfl; kernel_rfl; rfl; rfl
                conv => whnf
                repeat (first | (refine ⟨(by kernel_rfl : chkR _ _ _ _ = true), ?_⟩; conv => whnf) | (refine EvOr.go ?_; conv => whnf))
                refine CallG.use ints_nil c65 [] [] ?_ ?_ ?_ ?_ ?_ ?_; rfl; rfl; kernel_rfl; rfl; rfl
                conv => whnf
                repeat (first | (refine ⟨(by kernel_rfl : chkR _ _ _ _ = true), ?_⟩; conv => whnf) | (refine EvOr.go ?_; conv => whnf))
                intro c hc
                obtain rfl : c = false := by rw [hc]; rfl
                conv => whnf
                repeat (first | (refine ⟨(by kernel_rfl : chkR _ _ _ _ = true), ?_⟩; conv => whnf) | (refine EvOr.go ?_; conv => whnf))
                refine CallG.use g1 c57 [1, 8, 3] [] ?_ ?_ ?_ ?_ ?_ ?_; rfl; rfl; kernel_rfl; rfl; rfl
                conv => whnf
                repeat (first | (refine ⟨(by kernel_rfl : chkR _ _ _ _ = true), ?_⟩; conv => whnf) | (refine EvOr.go ?_; conv => whnf))
                refine CallG.use g2 c67 [4, 10, 6] [] ?_ ?_ ?_ ?_ ?_ ?_; rfl; rfl; kernel_rfl; rfl; rfl
                conv => whnf
                repeat (first | (refine ⟨(by kernel_rfl : chkR _ _ _ _ = true), ?_⟩; conv => whnf) | (refine EvOr.go ?_; conv => whnf))
                refine ⟨rfl, ?_⟩
                refine ⟨eq34, ?_⟩
                conv => whnf
                repeat (first | (refine ⟨(by kernel_rfl : chkR _ _ _ _ = true), ?_⟩; conv => whnf) | (refine EvOr.go ?_; conv => whnf))
                intro c hc
                obtain rfl : c = false := by
                  cases c
                  · rfl
                  · exact absurd rfl (hc.1 rfl)
                conv => whnf
                repeat (first | (refine ⟨(by kernel_rfl : chkR _ _ _ _ = true), ?_⟩; conv => whnf) | (refine EvOr.go ?_; conv => whnf))
                conv => whnf
                repeat (first | (refine ⟨(by kernel_rfl : chkR _ _ _ _ = true), ?_⟩; conv => whnf) | (refine EvOr.go ?_; conv => whnf))
                intro c hc
                obtain rfl : c = false := by rw [hc]; simp
                conv => whnf
                repeat (first | (refine ⟨(by kernel_rfl : chkR _ _ _ _ = true), ?_⟩; conv => whnf) | (refine EvOr.go ?_; conv => whnf))
                refine CallG.use t1 c59 [1, 8, 3] [] ?_ ?_ ?_ ?_ ?_ ?_; rfl; rfl; kernel_rfl; rfl; rfl
                conv => whnf
                repeat (first | (refine ⟨(by kernel_rfl : chkR _ _ _ _ = true), ?_⟩; conv => whnf) | (refine EvOr.go ?_; conv => whnf))
                refine CallG.use t2 c68 [4, 10, 6] [] ?_ ?_ ?_ ?_ ?_ ?_; rfl; rfl; kernel_rfl; rfl; rfl
                conv => whnf
                repeat (first | (refine ⟨(by kernel_rfl : chkR _ _ _ _ = true), ?_⟩; conv => whnf) | (refine EvOr.go ?_; conv => whnf))
                refine CallG.use ints_nil c65 [] [] ?_ ?_ ?_ ?_ ?_ ?_; rfl; rfl; kernel_rfl; rfl; rfl
                conv => whnf
                repeat (first | (refine ⟨(by kernel_rfl : chkR _ _ _ _ = true), ?_⟩; conv => whnf) | (refine EvOr.go ?_; conv => whnf))
                refine CallG.use t3 c56 [1, 8, 3] [] ?_ ?_ ?_ ?_ ?_ ?_; rfl; rfl; kernel_rfl; rfl; rfl
                conv => whnf
                repeat (first | (refine ⟨(by kernel_rfl : chkR _ _ _ _ = true), ?_⟩; conv => whnf) | (refine EvOr.go ?_; conv => whnf))
                refine CallG.use t4 c69 [4, 10, 6] [] ?_ ?_ ?_ ?_ ?_ ?_; rfl; rfl; kernel_rfl; rfl; rfl
                conv => whnf
                repeat (first | (refine ⟨(by kernel_rfl : chkR _ _ _ _ = true), ?_⟩; conv => whnf) | (refine EvOr.go ?_; conv => whnf))
                refine CallG.use c1' c70 [1, 8, 3] [] ?_ ?_ ?_ ?_ ?_ ?_; rfl; rfl; kernel_rfl; rfl; rfl
                conv => whnf
                repeat (first | (refine ⟨(by kernel_rfl : chkR _ _ _ _ = true), ?_⟩; conv => whnf) | (refine EvOr.go ?_; conv => whnf))
                intro c hc
                obtain rfl : c = false := by rw [hc]; simp
                conv => whnf
                repeat (first | (refine ⟨(by kernel_rfl : chkR _ _ _ _ = true), ?_⟩; conv => whnf) | (refine EvOr.go ?_; conv => whnf))
                refine ⟨_, inc_nat (by omega), ?_⟩
                conv => whnf
                repeat (first | (refine ⟨(by kernel_rfl : chkR _ _ _ _ = true), ?_⟩; conv => whnf) | (refine EvOr.go ?_; conv => whnf))
                refine ⟨by omega, _, StW.ofP [0, 1, 8, 3, 4, 10, 6] ?_ ?_ ?_⟩
                · show stP _ _ (plI c1 n l (k + 1)).2 = true
                  simp only [plI, hs]; kernel_rfl
                · rfl
                · simp only [plI, hs]; rfl
            · have hkl : (kz ks).length < 2 ^ 32 := by rw [kz_len]; omega
              obtain ⟨q1, q2⟩ := nr_row 4 (T := kz ks) (by rw [kz_len]; exact List.length_pos_iff.2 hks)
              rw [q1, q2] at p1 p2
              cases x <;> cases d <;>
              · conv => whnf
                repeat (first | (refine ⟨(by kernel_rfl : chkR _ _ _ _ = true), ?_⟩; conv => whnf) | (refine EvOr.go ?_; conv => whnf))
                intro c hc
                obtain rfl : c = true := by rw [hc]; exact decide_eq_true (by omega)
                conv => whnf
                repeat (first | (refine ⟨(by kernel_rfl : chkR _ _ _ _ = true), ?_⟩; conv => whnf) | (refine EvOr.go ?_; conv => whnf))
                intro c hc
                obtain rfl : c = true := by rw [hc]; exact decide_eq_true (by omega)
                conv => whnf
                repeat (first | (refine ⟨(by kernel_rfl : chkR _ _ _ _ = true), ?_⟩; conv => whnf) | (refine EvOr.go ?_; conv => whnf))
                refine ⟨⟨by omega, by omega⟩, ?_⟩
                conv => whnf
                repeat (first | (refine ⟨(by kernel_rfl : chkR _ _ _ _ = true), ?_⟩; conv => whnf) | (refine EvOr.go ?_; conv => whnf))
                refine ⟨_, ga, ?_⟩
                conv => whnf
                repeat (first | (refine ⟨(by kernel_rfl : chkR _ _ _ _ = true), ?_⟩; conv => whnf) | (refine EvOr.go ?_; conv => whnf))
                refine ⟨_, w4, ?_⟩
                conv => whnf
                repeat (first | (refine ⟨(by kernel_rfl : chkR _ _ _ _ = true), ?_⟩; conv => whnf) | (refine EvOr.go ?_; conv => whnf))
                intro c hc
                obtain rfl : c = false := by rw [hc]; simp; omega
                conv => whnf
                repeat (first | (refine ⟨(by kernel_rfl : chkR _ _ _ _ = true), ?_⟩; conv => whnf) | (refine EvOr.go ?_; conv => whnf))
                intro c hc
                obtain rfl : c = false := by rw [hc]; simp; omega
                conv => whnf
                repeat (first | (refine ⟨(by kernel_rfl : chkR _ _ _ _ = true), ?_⟩; conv => whnf) | (refine EvOr.go ?_; conv => whnf))
                intro c hc
                obtain rfl : c = true := by rw [hc, w2]; rfl
                conv => whnf
                repeat (first | (refine ⟨(by kernel_rfl : chkR _ _ _ _ = true), ?_⟩; conv => whnf) | (refine EvOr.go ?_; conv => whnf))
                refine CallG.use p1 c55 [1, 2, 3] [0, 2] ?_ ?_ ?_ ?_ ?_ ?_; rfl; rfl; kernel_rfl; rfl; rfl
                conv => whnf
                repeat (first | (refine ⟨(by kernel_rfl : chkR _ _ _ _ = true), ?_⟩; conv => whnf) | (refine EvOr.go ?_; conv => whnf))
                refine CallG.use p2 c64 [4, 5, 6] [0, 2] ?_ ?_ ?_ ?_ ?_ ?_; rfl; rfl; kernel_rfl; rfl; rfl
                conv => whnf
                repeat (first | (refine ⟨(by kernel_rfl : chkR _ _ _ _ = true), ?_⟩; conv => whnf) | (refine EvOr.go ?_; conv => whnf))
                refine CallG.use (ints_ok (kz ks) hkl) c65 [9, 11] [] ?_ ?_ ?_ ?_ ?_ ?_; rfl; rfl; kernel_rfl; rfl; rfl
                conv => whnf
                repeat (first | (refine ⟨(by kernel_rfl : chkR _ _ _ _ = true), ?_⟩; conv => whnf) | (refine EvOr.go ?_; conv => whnf))
                intro c hc
                obtain rfl : c = false := by rw [hc]; rfl
                conv => whnf
                repeat (first | (refine ⟨(by kernel_rfl : chkR _ _ _ _ = true), ?_⟩; conv => whnf) | (refine EvOr.go ?_; conv => whnf))
                refine CallG.use g1 c57 [1, 8, 3] [] ?_ ?_ ?_ ?_ ?_ ?_; rfl; rfl; kernel_rfl; rfl; rfl
                conv => whnf
                repeat (first | (refine ⟨(by kernel_rfl : chkR _ _ _ _ = true), ?_⟩; conv => whnf) | (refine EvOr.go ?_; conv => whnf))
                refine CallG.use g2 c67 [4, 10, 6] [] ?_ ?_ ?_ ?_ ?_ ?_; rfl; rfl; kernel_rfl; rfl; rfl
                conv => whnf
                repeat (first | (refine ⟨(by kernel_rfl : chkR _ _ _ _ = true), ?_⟩; conv => whnf) | (refine EvOr.go ?_; conv => whnf))
                refine ⟨rfl, ?_⟩
                refine ⟨eq34, ?_⟩
                conv => whnf
                repeat (first | (refine ⟨(by kernel_rfl : chkR _ _ _ _ = true), ?_⟩; conv => whnf) | (refine EvOr.go ?_; conv => whnf))
                intro c hc
                obtain rfl : c = false := by
                  cases c
                  · rfl
                  · exact absurd rfl (hc.1 rfl)
                conv => whnf
                repeat (first | (refine ⟨(by kernel_rfl : chkR _ _ _ _ = true), ?_⟩; conv => whnf) | (refine EvOr.go ?_; conv => whnf))
                conv => whnf
                repeat (first | (refine ⟨(by kernel_rfl : chkR _ _ _ _ = true), ?_⟩; conv => whnf) | (refine EvOr.go ?_; conv => whnf))
                intro c hc
                obtain rfl : c = false := by rw [hc]; simp
                conv => whnf
                repeat (first | (refine ⟨(by kernel_rfl : chkR _ _ _ _ = true), ?_⟩; conv => whnf) | (refine EvOr.go ?_; conv => whnf))
                refine CallG.use t1 c59 [1, 8, 3] [] ?_ ?_ ?_ ?_ ?_ ?_; rfl; rfl; kernel_rfl; rfl; rfl
                conv => whnf
                repeat (first | (refine ⟨(by kernel_rfl : chkR _ _ _ _ = true), ?_⟩; conv => whnf) | (refine EvOr.go ?_; conv => whnf))
                refine CallG.use t2 c68 [4, 10, 6] [] ?_ ?_ ?_ ?_ ?_ ?_; rfl; rfl; kernel_rfl; rfl; rfl
                conv => whnf
                repeat (first | (refine ⟨(by kernel_rfl : chkR _ _ _ _ = true), ?_⟩; conv => whnf) | (refine EvOr.go ?_; conv => whnf))
                refine CallG.use ints_nil c65 [] [] ?_ ?_ ?_ ?_ ?_ ?_; rfl; rfl; kernel_rfl; rfl; rfl
                conv => whnf
                repeat (first | (refine ⟨(by kernel_rfl : chkR _ _ _ _ = true), ?_⟩; conv => whnf) | (refine EvOr.go ?_; conv => whnf))
                refine CallG.use t3 c56 [1, 8, 3] [] ?_ ?_ ?_ ?_ ?_ ?_; rfl; rfl; kernel_rfl; rfl; rfl
                conv => whnf
                repeat (first | (refine ⟨(by kernel_rfl : chkR _ _ _ _ = true), ?_⟩; conv => whnf) | (refine EvOr.go ?_; conv => whnf))
                refine CallG.use t4 c69 [4, 10, 6] [] ?_ ?_ ?_ ?_ ?_ ?_; rfl; rfl; kernel_rfl; rfl; rfl
                conv => whnf
                repeat (first | (refine ⟨(by kernel_rfl : chkR _ _ _ _ = true), ?_⟩; conv => whnf) | (refine EvOr.go ?_; conv => whnf))
                refine CallG.use c1' c70 [1, 8, 3] [] ?_ ?_ ?_ ?_ ?_ ?_; rfl; rfl; kernel_rfl; rfl; rfl
                conv => whnf
                repeat (first | (refine ⟨(by kernel_rfl : chkR _ _ _ _ = true), ?_⟩; conv => whnf) | (refine EvOr.go ?_; conv => whnf))
                intro c hc
                obtain rfl : c = false := by rw [hc]; simp
                conv => whnf
                repeat (first | (refine ⟨(by kernel_rfl : chkR _ _ _ _ = true), ?_⟩; conv => whnf) | (refine EvOr.go ?_; conv => whnf))
                refine ⟨_, inc_nat (by omega), ?_⟩
                conv => whnf
                repeat (first | (refine ⟨(by kernel_rfl : chkR _ _ _ _ = true), ?_⟩; conv => whnf) | (refine EvOr.go ?_; conv => whnf))
                refine ⟨by omega, _, StW.ofP [0, 1, 8, 3, 4, 10, 6] ?_ ?_ ?_⟩
                · show stP _ _ (plI c1 n l (k + 1)).2 = true
                  simp only [plI, hs]; kernel_rfl
                · rfl
                · simp only [plI, hs]; rfl
          · rw [if_neg h3] at hs
            obtain ⟨x, L', K'⟩ := σ
            have inv' := inv
            dsimp only at h3 ⊢
            have p1 := mend_full x n L' K' h4 h64 inv.l1 inv.l2 inv.s1 (by omega)
            have p2 := rmend_full n L' K' h4 h64 inv.l1 inv.l2 inv.s1 (by omega)
            have hO : lostN n K' ≠ [] := fun e => by rw [e] at h3; exact h3 (by decide)
            obtain ⟨y, e2, g1, g2⟩ := get_any inv' (by omega) a.c
            have c1' := gc ⟨x, L', K'⟩
            obtain ⟨O, ho, t1, t2, t3, t4⟩ := tail_row inv' h4 h64 hO
            dsimp only at g1 g2 c1' t1 t2 t3 t4
            cases x <;>
            · conv => whnf
              repeat (first | (refine ⟨(by kernel_rfl : chkR _ _ _ _ = true), ?_⟩; conv => whnf) | (refine EvOr.go ?_; conv => whnf))
              intro c hc
              obtain rfl : c = true := by rw [hc]; exact decide_eq_true (by omega)
              conv => whnf
              repeat (first | (refine ⟨(by kernel_rfl : chkR _ _ _ _ = true), ?_⟩; conv => whnf) | (refine EvOr.go ?_; conv => whnf))
              intro c hc
              obtain rfl : c = true := by rw [hc]; exact decide_eq_true (by omega)
              conv => whnf
              repeat (first | (refine ⟨(by kernel_rfl : chkR _ _ _ _ = true), ?_⟩; conv => whnf) | (refine EvOr.go ?_; conv => whnf))
              refine ⟨⟨by omega, by omega⟩, ?_⟩
              conv => whnf
              repeat (first | (refine ⟨(by kernel_rfl : chkR _ _ _ _ = true), ?_⟩; conv => whnf) | (refine EvOr.go ?_; conv => whnf))
              refine ⟨_, ga, ?_⟩
              conv => whnf
              repeat (first | (refine ⟨(by kernel_rfl : chkR _ _ _ _ = true), ?_⟩; conv => whnf) | (refine EvOr.go ?_; conv => whnf))
              refine ⟨_, w4, ?_⟩
              conv => whnf
              repeat (first | (refine ⟨(by kernel_rfl : chkR _ _ _ _ = true), ?_⟩; conv => whnf) | (refine EvOr.go ?_; conv => whnf))
              intro c hc
              obtain rfl : c = false := by rw [hc]; simp; omega
              conv => whnf
              repeat (first | (refine ⟨(by kernel_rfl : chkR _ _ _ _ = true), ?_⟩; conv => whnf) | (refine EvOr.go ?_; conv => whnf))
              intro c hc
              obtain rfl : c = false := by rw [hc]; simp; omega
              conv => whnf
              repeat (first | (refine ⟨(by kernel_rfl : chkR _ _ _ _ = true), ?_⟩; conv => whnf) | (refine EvOr.go ?_; conv => whnf))
              intro c hc
              obtain rfl : c = true := by rw [hc, w2]; rfl
              conv => whnf
              repeat (first | (refine ⟨(by kernel_rfl : chkR _ _ _ _ = true), ?_⟩; conv => whnf) | (refine EvOr.go ?_; conv => whnf))
              refine CallG.use p1 c55 [1, 2, 3] [] ?_ ?_ ?_ ?_ ?_ ?_; rfl; rfl; kernel_rfl; rfl; rfl
              conv => whnf
              repeat (first | (refine ⟨(by kernel_rfl : chkR _ _ _ _ = true), ?_⟩; conv => whnf) | (refine EvOr.go ?_; conv => whnf))
              refine CallG.use p2 c64 [4, 5, 6] [] ?_ ?_ ?_ ?_ ?_ ?_; rfl; rfl; kernel_rfl; rfl; rfl
              conv => whnf
              repeat (first | (refine ⟨(by kernel_rfl : chkR _ _ _ _ = true), ?_⟩; conv => whnf) | (refine EvOr.go ?_; conv => whnf))
              refine CallG.use ints_nil c65 [] [] ?_ ?_ ?_ ?_ ?_ ?_; rfl; rfl; kernel_rfl; rfl; rfl
              conv => whnf
              repeat (first | (refine ⟨(by kernel_rfl : chkR _ _ _ _ = true), ?_⟩; conv => whnf) | (refine EvOr.go ?_; conv => whnf))
              intro c hc
              obtain rfl : c = false := by rw [hc]; rfl
              conv => whnf
              repeat (first | (refine ⟨(by kernel_rfl : chkR _ _ _ _ = true), ?_⟩; conv => whnf) | (refine EvOr.go ?_; conv => whnf))
              refine CallG.use g1 c57 [1, 2, 3] [] ?_ ?_ ?_ ?_ ?_ ?_; rfl; rfl; kernel_rfl; rfl; rfl
              conv => whnf
              repeat (first | (refine ⟨(by kernel_rfl : chkR _ _ _ _ = true), ?_⟩; conv => whnf) | (refine EvOr.go ?_; conv => whnf))
              refine CallG.use g2 c67 [4, 5, 6] [] ?_ ?_ ?_ ?_ ?_ ?_; rfl; rfl; kernel_rfl; rfl; rfl
              conv => whnf
              repeat (first | (refine ⟨(by kernel_rfl : chkR _ _ _ _ = true), ?_⟩; conv => whnf) | (refine EvOr.go ?_; conv => whnf))
              refine ⟨rfl, ?_⟩
              refine ⟨eq34, ?_⟩
              conv => whnf
              repeat (first | (refine ⟨(by kernel_rfl : chkR _ _ _ _ = true), ?_⟩; conv => whnf) | (refine EvOr.go ?_; conv => whnf))
              intro c hc
              obtain rfl : c = false := by
                cases c
                · rfl
                · exact absurd rfl (hc.1 rfl)
              conv => whnf
              repeat (first | (refine ⟨(by kernel_rfl : chkR _ _ _ _ = true), ?_⟩; conv => whnf) | (refine EvOr.go ?_; conv => whnf))
              conv => whnf
              repeat (first | (refine ⟨(by kernel_rfl : chkR _ _ _ _ = true), ?_⟩; conv => whnf) | (refine EvOr.go ?_; conv => whnf))
              intro c hc
              obtain rfl : c = false := by rw [hc]; simp
              conv => whnf
              repeat (first | (refine ⟨(by kernel_rfl : chkR _ _ _ _ = true), ?_⟩; conv => whnf) | (refine EvOr.go ?_; conv => whnf))
              refine CallG.use t1 c59 [1, 2, 3] [] ?_ ?_ ?_ ?_ ?_ ?_; rfl; rfl; kernel_rfl; rfl; rfl
              conv => whnf
              repeat (first | (refine ⟨(by kernel_rfl : chkR _ _ _ _ = true), ?_⟩; conv => whnf) | (refine EvOr.go ?_; conv => whnf))
              refine CallG.use t2 c68 [4, 5, 6] [] ?_ ?_ ?_ ?_ ?_ ?_; rfl; rfl; kernel_rfl; rfl; rfl
              conv => whnf
              repeat (first | (refine ⟨(by kernel_rfl : chkR _ _ _ _ = true), ?_⟩; conv => whnf) | (refine EvOr.go ?_; conv => whnf))
              refine CallG.use (ints_ok O ho) c65 [10, 11] [] ?_ ?_ ?_ ?_ ?_ ?_; rfl; rfl; kernel_rfl; rfl; rfl
              conv => whnf
              repeat (first | (refine ⟨(by kernel_rfl : chkR _ _ _ _ = true), ?_⟩; conv => whnf) | (refine EvOr.go ?_; conv => whnf))
              refine CallG.use t3 c56 [1, 2, 3] [] ?_ ?_ ?_ ?_ ?_ ?_; rfl; rfl; kernel_rfl; rfl; rfl
              conv => whnf
              repeat (first | (refine ⟨(by kernel_rfl : chkR _ _ _ _ = true), ?_⟩; conv => whnf) | (refine EvOr.go ?_; conv => whnf))
              refine CallG.use t4 c69 [4, 5, 6] [] ?_ ?_ ?_ ?_ ?_ ?_; rfl; rfl; kernel_rfl; rfl; rfl
              conv => whnf
              repeat (first | (refine ⟨(by kernel_rfl : chkR _ _ _ _ = true), ?_⟩; conv => whnf) | (refine EvOr.go ?_; conv => whnf))
              refine CallG.use c1' c70 [1, 2, 3] [] ?_ ?_ ?_ ?_ ?_ ?_; rfl; rfl; kernel_rfl; rfl; rfl
              conv => whnf
              repeat (first | (refine ⟨(by kernel_rfl : chkR _ _ _ _ = true), ?_⟩; conv => whnf) | (refine EvOr.go ?_; conv => whnf))
              intro c hc
              obtain rfl : c = false := by rw [hc]; simp
              conv => whnf
              repeat (first | (refine ⟨(by kernel_rfl : chkR _ _ _ _ = true), ?_⟩; conv => whnf) | (refine EvOr.go ?_; conv => whnf))
              refine ⟨_, inc_nat (by omega), ?_⟩
              conv => whnf
              repeat (first | (refine ⟨(by kernel_rfl : chkR _ _ _ _ = true), ?_⟩; conv => whnf) | (refine EvOr.go ?_; conv => whnf))
              refine ⟨by omega, _, StW.ofP [0, 1, 2, 3, 4, 5, 6] ?_ ?_ ?_⟩
              · show stP _ _ (plI c1 n l (k + 1)).2 = true
                simp only [plI, hs]; kernel_rfl
              · rfl
              · simp only [plI, hs]; rfl
        · rw [if_neg w2] at hs
          by_cases hw : (0 ≤ a.c ∧ a.c < (n - 2 : Nat)) ∧ lostN n σ.K = []
          · rw [if_pos hw] at hs
            obtain ⟨D, hD, p1, p2⟩ := writeB inv h4 h64 a.c a.s ha.s hw
            have inv' := plStep_inv inv (by omega) h4 h64 ha
            unfold plStep at inv'
            rw [if_neg w0, if_neg w1, if_neg w2, if_pos hw] at inv'
            have hO := hw.2
            clear hw
            generalize wri (n - 2) σ.L a.c.toNat a.s = L' at *
            obtain ⟨x, L, K'⟩ := σ
            dsimp only at p1 p2 hO inv' ⊢
            obtain ⟨y, e2, g1, g2⟩ := get_any inv' (by omega) a.c
            have c1' := gc ⟨x, L', K'⟩
            obtain ⟨d, t1, t2, t3, t4⟩ := tail_nil inv' h4 h64 hO
            dsimp only at g1 g2 c1' t1 t2 t3 t4
            by_cases hD0 : D = []
            · subst hD0
              cases x <;> cases d <;>
              · conv => whnf
                repeat (first | (refine ⟨(by kernel_rfl : chkR _ _ _ _ = true), ?_⟩; conv => whnf) | (refine EvOr.go ?_; conv => whnf))
                intro c hc
                obtain rfl : c = true := by rw [hc]; exact decide_eq_true (by omega)
                conv => whnf
                repeat (first | (refine ⟨(by kernel_rfl : chkR _ _ _ _ = true), ?_⟩; conv => whnf) | (refine EvOr.go ?_; conv => whnf))
                intro c hc
                obtain rfl : c = true := by rw [hc]; exact decide_eq_true (by omega)
                conv => whnf
                repeat (first | (refine ⟨(by kernel_rfl : chkR _ _ _ _ = true), ?_⟩; conv => whnf) | (refine EvOr.go ?_; conv => whnf))
                refine ⟨⟨by omega, by omega⟩, ?_⟩
                conv => whnf
                repeat (first | (refine ⟨(by kernel_rfl : chkR _ _ _ _ = true), ?_⟩; conv => whnf) | (refine EvOr.go ?_; conv => whnf))
                refine ⟨_, ga, ?_⟩
                conv => whnf
                repeat (first | (refine ⟨(by kernel_rfl : chkR _ _ _ _ = true), ?_⟩; conv => whnf) | (refine EvOr.go ?_; conv => whnf))
                refine ⟨_, w4, ?_⟩
                conv => whnf
                repeat (first | (refine ⟨(by kernel_rfl : chkR _ _ _ _ = true), ?_⟩; conv => whnf) | (refine EvOr.go ?_; conv => whnf))
                intro c hc
                obtain rfl : c = false := by rw [hc]; simp; omega
                conv => whnf
                repeat (first | (refine ⟨(by kernel_rfl : chkR _ _ _ _ = true), ?_⟩; conv => whnf) | (refine EvOr.go ?_; conv => whnf))
                intro c hc
                obtain rfl : c = false := by rw [hc]; simp; omega
                conv => whnf
                repeat (first | (refine ⟨(by kernel_rfl : chkR _ _ _ _ = true), ?_⟩; conv => whnf) | (refine EvOr.go ?_; conv => whnf))
                intro c hc
                obtain rfl : c = false := by rw [hc]; simp; omega
                conv => whnf
                repeat (first | (refine ⟨(by kernel_rfl : chkR _ _ _ _ = true), ?_⟩; conv => whnf) | (refine EvOr.go ?_; conv => whnf))
                refine CallG.use p1 c60 [1, 2, 3] [1] ?_ ?_ ?_ ?_ ?_ ?_; rfl; rfl; kernel_rfl; rfl; rfl
                conv => whnf
                repeat (first | (refine ⟨(by kernel_rfl : chkR _ _ _ _ = true), ?_⟩; conv => whnf) | (refine EvOr.go ?_; conv => whnf))
                refine CallG.use p2 c66 [4, 5, 6] [0] ?_ ?_ ?_ ?_ ?_ ?_; rfl; rfl; kernel_rfl; rfl; rfl
                conv => whnf
                repeat (first | (refine ⟨(by kernel_rfl : chkR _ _ _ _ = true), ?_⟩; conv => whnf) | (refine EvOr.go ?_; conv => whnf))
                refine CallG.use ints_nil c65 [] [] ?_ ?_ ?_ ?_ ?_ ?_; rfl; rfl; kernel_rfl; rfl; rfl
                conv => whnf
                repeat (first | (refine ⟨(by kernel_rfl : chkR _ _ _ _ = true), ?_⟩; conv => whnf) | (refine EvOr.go ?_; conv => whnf))
                intro c hc
                obtain rfl : c = false := by rw [hc]; rfl
                conv => whnf
                repeat (first | (refine ⟨(by kernel_rfl : chkR _ _ _ _ = true), ?_⟩; conv => whnf) | (refine EvOr.go ?_; conv => whnf))
                refine CallG.use g1 c57 [1, 2, 3] [] ?_ ?_ ?_ ?_ ?_ ?_; rfl; rfl; kernel_rfl; rfl; rfl
                conv => whnf
                repeat (first | (refine ⟨(by kernel_rfl : chkR _ _ _ _ = true), ?_⟩; conv => whnf) | (refine EvOr.go ?_; conv => whnf))
                refine CallG.use g2 c67 [4, 9, 6] [] ?_ ?_ ?_ ?_ ?_ ?_; rfl; rfl; kernel_rfl; rfl; rfl
                conv => whnf
                repeat (first | (refine ⟨(by kernel_rfl : chkR _ _ _ _ = true), ?_⟩; conv => whnf) | (refine EvOr.go ?_; conv => whnf))
                refine ⟨rfl, ?_⟩
                refine ⟨eq34, ?_⟩
                conv => whnf
                repeat (first | (refine ⟨(by kernel_rfl : chkR _ _ _ _ = true), ?_⟩; conv => whnf) | (refine EvOr.go ?_; conv => whnf))
                intro c hc
                obtain rfl : c = false := by
                  cases c
                  · rfl
                  · exact absurd rfl (hc.1 rfl)
                conv => whnf
                repeat (first | (refine ⟨(by kernel_rfl : chkR _ _ _ _ = true), ?_⟩; conv => whnf) | (refine EvOr.go ?_; conv => whnf))
                conv => whnf
                repeat (first | (refine ⟨(by kernel_rfl : chkR _ _ _ _ = true), ?_⟩; conv => whnf) | (refine EvOr.go ?_; conv => whnf))
                intro c hc
                obtain rfl : c = false := by rw [hc]; simp
                conv => whnf
                repeat (first | (refine ⟨(by kernel_rfl : chkR _ _ _ _ = true), ?_⟩; conv => whnf) | (refine EvOr.go ?_; conv => whnf))
                refine CallG.use t1 c59 [1, 2, 3] [] ?_ ?_ ?_ ?_ ?_ ?_; rfl; rfl; kernel_rfl; rfl; rfl
                conv => whnf
                repeat (first | (refine ⟨(by kernel_rfl : chkR _ _ _ _ = true), ?_⟩; conv => whnf) | (refine EvOr.go ?_; conv => whnf))
                refine CallG.use t2 c68 [4, 9, 6] [] ?_ ?_ ?_ ?_ ?_ ?_; rfl; rfl; kernel_rfl; rfl; rfl
                conv => whnf
                repeat (first | (refine ⟨(by kernel_rfl : chkR _ _ _ _ = true), ?_⟩; conv => whnf) | (refine EvOr.go ?_; conv => whnf))
                refine CallG.use ints_nil c65 [] [] ?_ ?_ ?_ ?_ ?_ ?_; rfl; rfl; kernel_rfl; rfl; rfl
                conv => whnf
                repeat (first | (refine ⟨(by kernel_rfl : chkR _ _ _ _ = true), ?_⟩; conv => whnf) | (refine EvOr.go ?_; conv => whnf))
                refine CallG.use t3 c56 [1, 2, 3] [] ?_ ?_ ?_ ?_ ?_ ?_; rfl; rfl; kernel_rfl; rfl; rfl
                conv => whnf
                repeat (first | (refine ⟨(by kernel_rfl : chkR _ _ _ _ = true), ?_⟩; conv => whnf) | (refine EvOr.go ?_; conv => whnf))
                refine CallG.use t4 c69 [4, 9, 6] [] ?_ ?_ ?_ ?_ ?_ ?_; rfl; rfl; kernel_rfl; rfl; rfl
                conv => whnf
                repeat (first | (refine ⟨(by kernel_rfl : chkR _ _ _ _ = true), ?_⟩; conv => whnf) | (refine EvOr.go ?_; conv => whnf))
                refine CallG.use c1' c70 [1, 2, 3] [] ?_ ?_ ?_ ?_ ?_ ?_; rfl; rfl; kernel_rfl; rfl; rfl
                conv => whnf
                repeat (first | (refine ⟨(by kernel_rfl : chkR _ _ _ _ = true), ?_⟩; conv => whnf) | (refine EvOr.go ?_; conv => whnf))
                intro c hc
                obtain rfl : c = false := by rw [hc]; simp
                conv => whnf
                repeat (first | (refine ⟨(by kernel_rfl : chkR _ _ _ _ = true), ?_⟩; conv => whnf) | (refine EvOr.go ?_; conv => whnf))
                refine ⟨_, inc_nat (by omega), ?_⟩
                conv => whnf
                repeat (first | (refine ⟨(by kernel_rfl : chkR _ _ _ _ = true), ?_⟩; conv => whnf) | (refine EvOr.go ?_; conv => whnf))
                refine ⟨by omega, _, StW.ofP [0, 1, 2, 3, 4, 9, 6] ?_ ?_ ?_⟩
                · show stP _ _ (plI c1 n l (k + 1)).2 = true
                  simp only [plI, hs]; kernel_rfl
                · rfl
                · simp only [plI, hs]; rfl
            · obtain ⟨q1, q2⟩ := nr_row 3 (List.length_pos_iff.2 hD0)
              obtain ⟨q3, _⟩ := nr_row 4 (List.length_pos_iff.2 hD0)
              rw [q1, q2] at p1
              rw [q3, q2] at p2
              cases x <;> cases d <;>
              · conv => whnf
                repeat (first | (refine ⟨(by kernel_rfl : chkR _ _ _ _ = true), ?_⟩; conv => whnf) | (refine EvOr.go ?_; conv => whnf))
                intro c hc
                obtain rfl : c = true := by rw [hc]; exact decide_eq_true (by omega)
                conv => whnf
                repeat (first | (refine ⟨(by kernel_rfl : chkR _ _ _ _ = true), ?_⟩; conv => whnf) | (refine EvOr.go ?_; conv => whnf))
                intro c hc
                obtain rfl : c = true := by rw [hc]; exact decide_eq_true (by omega)
                conv => whnf
                repeat (first | (refine ⟨(by kernel_rfl : chkR _ _ _ _ = true), ?_⟩; conv => whnf) | (refine EvOr.go ?_; conv => whnf))
                refine ⟨⟨by omega, by omega⟩, ?_⟩
                conv => whnf
                repeat (first | (refine ⟨(by kernel_rfl : chkR _ _ _ _ = true), ?_⟩; conv => whnf) | (refine EvOr.go ?_; conv => whnf))
                refine ⟨_, ga, ?_⟩
                conv => whnf
                repeat (first | (refine ⟨(by kernel_rfl : chkR _ _ _ _ = true), ?_⟩; conv => whnf) | (refine EvOr.go ?_; conv => whnf))
                refine ⟨_, w4, ?_⟩
                conv => whnf
                repeat (first | (refine ⟨(by kernel_rfl : chkR _ _ _ _ = true), ?_⟩; conv => whnf) | (refine EvOr.go ?_; conv => whnf))
                intro c hc
                obtain rfl : c = false := by rw [hc]; simp; omega
                conv => whnf
                repeat (first | (refine ⟨(by kernel_rfl : chkR _ _ _ _ = true), ?_⟩; conv => whnf) | (refine EvOr.go ?_; conv => whnf))
                intro c hc
                obtain rfl : c = false := by rw [hc]; simp; omega
                conv => whnf
                repeat (first | (refine ⟨(by kernel_rfl : chkR _ _ _ _ = true), ?_⟩; conv => whnf) | (refine EvOr.go ?_; conv => whnf))
                intro c hc
                obtain rfl : c = false := by rw [hc]; simp; omega
                conv => whnf
                repeat (first | (refine ⟨(by kernel_rfl : chkR _ _ _ _ = true), ?_⟩; conv => whnf) | (refine EvOr.go ?_; conv => whnf))
                refine CallG.use p1 c60 [1, 2, 3] [1] ?_ ?_ ?_ ?_ ?_ ?_; rfl; rfl; kernel_rfl; rfl; rfl
                conv => whnf
                repeat (first | (refine ⟨(by kernel_rfl : chkR _ _ _ _ = true), ?_⟩; conv => whnf) | (refine EvOr.go ?_; conv => whnf))
                refine CallG.use p2 c66 [4, 5, 6] [0] ?_ ?_ ?_ ?_ ?_ ?_; rfl; rfl; kernel_rfl; rfl; rfl
                conv => whnf
                repeat (first | (refine ⟨(by kernel_rfl : chkR _ _ _ _ = true), ?_⟩; conv => whnf) | (refine EvOr.go ?_; conv => whnf))
                refine CallG.use (ints_ok D hD) c65 [8, 10] [] ?_ ?_ ?_ ?_ ?_ ?_; rfl; rfl; kernel_rfl; rfl; rfl
                conv => whnf
                repeat (first | (refine ⟨(by kernel_rfl : chkR _ _ _ _ = true), ?_⟩; conv => whnf) | (refine EvOr.go ?_; conv => whnf))
                intro c hc
                obtain rfl : c = false := by rw [hc]; rfl
                conv => whnf
                repeat (first | (refine ⟨(by kernel_rfl : chkR _ _ _ _ = true), ?_⟩; conv => whnf) | (refine EvOr.go ?_; conv => whnf))
                refine CallG.use g1 c57 [1, 2, 3] [] ?_ ?_ ?_ ?_ ?_ ?_; rfl; rfl; kernel_rfl; rfl; rfl
                conv => whnf
                repeat (first | (refine ⟨(by kernel_rfl : chkR _ _ _ _ = true), ?_⟩; conv => whnf) | (refine EvOr.go ?_; conv => whnf))
                refine CallG.use g2 c67 [4, 9, 6] [] ?_ ?_ ?_ ?_ ?_ ?_; rfl; rfl; kernel_rfl; rfl; rfl
                conv => whnf
                repeat (first | (refine ⟨(by kernel_rfl : chkR _ _ _ _ = true), ?_⟩; conv => whnf) | (refine EvOr.go ?_; conv => whnf))
                refine ⟨rfl, ?_⟩
                refine ⟨eq34, ?_⟩
                conv => whnf
                repeat (first | (refine ⟨(by kernel_rfl : chkR _ _ _ _ = true), ?_⟩; conv => whnf) | (refine EvOr.go ?_; conv => whnf))
                intro c hc
                obtain rfl : c = false := by
                  cases c
                  · rfl
                  · exact absurd rfl (hc.1 rfl)
                conv => whnf
                repeat (first | (refine ⟨(by kernel_rfl : chkR _ _ _ _ = true), ?_⟩; conv => whnf) | (refine EvOr.go ?_; conv => whnf))
                conv => whnf
                repeat (first | (refine ⟨(by kernel_rfl : chkR _ _ _ _ = true), ?_⟩; conv => whnf) | (refine EvOr.go ?_; conv => whnf))
                intro c hc
                obtain rfl : c = false := by rw [hc]; simp
                conv => whnf
                repeat (first | (refine ⟨(by kernel_rfl : chkR _ _ _ _ = true), ?_⟩; conv => whnf) | (refine EvOr.go ?_; conv => whnf))
                refine CallG.use t1 c59 [1, 2, 3] [] ?_ ?_ ?_ ?_ ?_ ?_; rfl; rfl; kernel_rfl; rfl; rfl
                conv => whnf
                repeat (first | (refine ⟨(by kernel_rfl : chkR _ _ _ _ = true), ?_⟩; conv => whnf) | (refine EvOr.go ?_; conv => whnf))
                refine CallG.use t2 c68 [4, 9, 6] [] ?_ ?_ ?_ ?_ ?_ ?_; rfl; rfl; kernel_rfl; rfl; rfl
                conv => whnf
                repeat (first | (refine ⟨(by kernel_rfl : chkR _ _ _ _ = true), ?_⟩; conv => whnf) | (refine EvOr.go ?_; conv => whnf))
                refine CallG.use ints_nil c65 [] [] ?_ ?_ ?_ ?_ ?_ ?_; rfl; rfl; kernel_rfl; rfl; rfl
                conv => whnf
                repeat (first | (refine ⟨(by kernel_rfl : chkR _ _ _ _ = true), ?_⟩; conv => whnf) | (refine EvOr.go ?_; conv => whnf))
                refine CallG.use t3 c56 [1, 2, 3] [] ?_ ?_ ?_ ?_ ?_ ?_; rfl; rfl; kernel_rfl; rfl; rfl
                conv => whnf
                repeat (first | (refine ⟨(by kernel_rfl : chkR _ _ _ _ = true), ?_⟩; conv => whnf) | (refine EvOr.go ?_; conv => whnf))
                refine CallG.use t4 c69 [4, 9, 6] [] ?_ ?_ ?_ ?_ ?_ ?_; rfl; rfl; kernel_rfl; rfl; rfl
                conv => whnf
                repeat (first | (refine ⟨(by kernel_rfl : chkR _ _ _ _ = true), ?_⟩; conv => whnf) | (refine EvOr.go ?_; conv => whnf))
                refine CallG.use c1' c70 [1, 2, 3] [] ?_ ?_ ?_ ?_ ?_ ?_; rfl; rfl; kernel_rfl; rfl; rfl
                conv => whnf
                repeat (first | (refine ⟨(by kernel_rfl : chkR _ _ _ _ = true), ?_⟩; conv => whnf) | (refine EvOr.go ?_; conv => whnf))
                intro c hc
                obtain rfl : c = false := by rw [hc]; simp
                conv => whnf
                repeat (first | (refine ⟨(by kernel_rfl : chkR _ _ _ _ = true), ?_⟩; conv => whnf) | (refine EvOr.go ?_; conv => whnf))
                refine ⟨_, inc_nat (by omega), ?_⟩
                conv => whnf
                repeat (first | (refine ⟨(by kernel_rfl : chkR _ _ _ _ = true), ?_⟩; conv => whnf) | (refine EvOr.go ?_; conv => whnf))
                refine ⟨by omega, _, StW.ofP [0, 1, 2, 3, 4, 9, 6] ?_ ?_ ?_⟩
                · show stP _ _ (plI c1 n l (k + 1)).2 = true
                  simp only [plI, hs]; kernel_rfl
                · rfl
                · simp only [plI, hs]; rfl
          · rw [if_neg hw] at hs
            obtain ⟨x, L', K'⟩ := σ
            have inv' := inv
            obtain ⟨e, p1, p2⟩ := writeA inv h4 h64 a.c a.s hw
            dsimp only at p1 p2 ⊢
            clear hw
            obtain ⟨y, e2, g1, g2⟩ := get_any inv' (by omega) a.c
            have c1' := gc ⟨x, L', K'⟩
            by_cases hO : lostN n K' = []
            · obtain ⟨d, t1, t2, t3, t4⟩ := tail_nil inv' h4 h64 hO
              dsimp only at g1 g2 c1' t1 t2 t3 t4
              cases x <;> cases d <;>
              · conv => whnf
                repeat (first | (refine ⟨(by kernel_rfl : chkR _ _ _ _ = true), ?_⟩; conv => whnf) | (refine EvOr.go ?_; conv => whnf))
                intro c hc
                obtain rfl : c = true := by rw [hc]; exact decide_eq_true (by omega)
                conv => whnf
                repeat (first | (refine ⟨(by kernel_rfl : chkR _ _ _ _ = true), ?_⟩; conv => whnf) | (refine EvOr.go ?_; conv => whnf))
                intro c hc
                obtain rfl : c = true := by rw [hc]; exact decide_eq_true (by omega)
                conv => whnf
                repeat (first | (refine ⟨(by kernel_rfl : chkR _ _ _ _ = true), ?_⟩; conv => whnf) | (refine EvOr.go ?_; conv => whnf))
                refine ⟨⟨by omega, by omega⟩, ?_⟩
                conv => whnf
                repeat (first | (refine ⟨(by kernel_rfl : chkR _ _ _ _ = true), ?_⟩; conv => whnf) | (refine EvOr.go ?_; conv => whnf))
                refine ⟨_, ga, ?_⟩
                conv => whnf
                repeat (first | (refine ⟨(by kernel_rfl : chkR _ _ _ _ = true), ?_⟩; conv => whnf) | (refine EvOr.go ?_; conv => whnf))
                refine ⟨_, w4, ?_⟩
                conv => whnf
                repeat (first | (refine ⟨(by kernel_rfl : chkR _ _ _ _ = true), ?_⟩; conv => whnf) | (refine EvOr.go ?_; conv => whnf))
                intro c hc
                obtain rfl : c = false := by rw [hc]; simp; omega
                conv => whnf
                repeat (first | (refine ⟨(by kernel_rfl : chkR _ _ _ _ = true), ?_⟩; conv => whnf) | (refine EvOr.go ?_; conv => whnf))
                intro c hc
                obtain rfl : c = false := by rw [hc]; simp; omega
                conv => whnf
                repeat (first | (refine ⟨(by kernel_rfl : chkR _ _ _ _ = true), ?_⟩; conv => whnf) | (refine EvOr.go ?_; conv => whnf))
                intro c hc
                obtain rfl : c = false := by rw [hc]; simp; omega
                conv => whnf
                repeat (first | (refine ⟨(by kernel_rfl : chkR _ _ _ _ = true), ?_⟩; conv => whnf) | (refine EvOr.go ?_; conv => whnf))
                refine CallG.use p1 c60 [1, 2, 3] [] ?_ ?_ ?_ ?_ ?_ ?_; rfl; rfl; kernel_rfl; rfl; rfl
                conv => whnf
                repeat (first | (refine ⟨(by kernel_rfl : chkR _ _ _ _ = true), ?_⟩; conv => whnf) | (refine EvOr.go ?_; conv => whnf))
                refine CallG.use p2 c66 [4, 5, 6] [] ?_ ?_ ?_ ?_ ?_ ?_; rfl; rfl; kernel_rfl; rfl; rfl
                conv => whnf
                repeat (first | (refine ⟨(by kernel_rfl : chkR _ _ _ _ = true), ?_⟩; conv => whnf) | (refine EvOr.go ?_; conv => whnf))
                refine CallG.use ints_nil c65 [] [] ?_ ?_ ?_ ?_ ?_ ?_; rfl; rfl; kernel_rfl; rfl; rfl
                conv => whnf
                repeat (first | (refine ⟨(by kernel_rfl : chkR _ _ _ _ = true), ?_⟩; conv => whnf) | (refine EvOr.go ?_; conv => whnf))
                intro c hc
                obtain rfl : c = false := by rw [hc]; simp
                conv => whnf
                repeat (first | (refine ⟨(by kernel_rfl : chkR _ _ _ _ = true), ?_⟩; conv => whnf) | (refine EvOr.go ?_; conv => whnf))
                refine CallG.use g1 c57 [1, 2, 3] [] ?_ ?_ ?_ ?_ ?_ ?_; rfl; rfl; kernel_rfl; rfl; rfl
                conv => whnf
                repeat (first | (refine ⟨(by kernel_rfl : chkR _ _ _ _ = true), ?_⟩; conv => whnf) | (refine EvOr.go ?_; conv => whnf))
                refine CallG.use g2 c67 [4, 5, 6] [] ?_ ?_ ?_ ?_ ?_ ?_; rfl; rfl; kernel_rfl; rfl; rfl
                conv => whnf
                repeat (first | (refine ⟨(by kernel_rfl : chkR _ _ _ _ = true), ?_⟩; conv => whnf) | (refine EvOr.go ?_; conv => whnf))
                refine ⟨rfl, ?_⟩
                refine ⟨eq34, ?_⟩
                conv => whnf
                repeat (first | (refine ⟨(by kernel_rfl : chkR _ _ _ _ = true), ?_⟩; conv => whnf) | (refine EvOr.go ?_; conv => whnf))
                intro c hc
                obtain rfl : c = false := by
                  cases c
                  · rfl
                  · exact absurd rfl (hc.1 rfl)
                conv => whnf
                repeat (first | (refine ⟨(by kernel_rfl : chkR _ _ _ _ = true), ?_⟩; conv => whnf) | (refine EvOr.go ?_; conv => whnf))
                conv => whnf
                repeat (first | (refine ⟨(by kernel_rfl : chkR _ _ _ _ = true), ?_⟩; conv => whnf) | (refine EvOr.go ?_; conv => whnf))
                intro c hc
                obtain rfl : c = false := by rw [hc]; simp
                conv => whnf
                repeat (first | (refine ⟨(by kernel_rfl : chkR _ _ _ _ = true), ?_⟩; conv => whnf) | (refine EvOr.go ?_; conv => whnf))
                refine CallG.use t1 c59 [1, 2, 3] [] ?_ ?_ ?_ ?_ ?_ ?_; rfl; rfl; kernel_rfl; rfl; rfl
                conv => whnf
                repeat (first | (refine ⟨(by kernel_rfl : chkR _ _ _ _ = true), ?_⟩; conv => whnf) | (refine EvOr.go ?_; conv => whnf))
                refine CallG.use t2 c68 [4, 5, 6] [] ?_ ?_ ?_ ?_ ?_ ?_; rfl; rfl; kernel_rfl; rfl; rfl
                conv => whnf
                repeat (first | (refine ⟨(by kernel_rfl : chkR _ _ _ _ = true), ?_⟩; conv => whnf) | (refine EvOr.go ?_; conv => whnf))
                refine CallG.use ints_nil c65 [] [] ?_ ?_ ?_ ?_ ?_ ?_; rfl; rfl; kernel_rfl; rfl; rfl
                conv => whnf
                repeat (first | (refine ⟨(by kernel_rfl : chkR _ _ _ _ = true), ?_⟩; conv => whnf) | (refine EvOr.go ?_; conv => whnf))
                refine CallG.use t3 c56 [1, 2, 3] [] ?_ ?_ ?_ ?_ ?_ ?_; rfl; rfl; kernel_rfl; rfl; rfl
                conv => whnf
                repeat (first | (refine ⟨(by kernel_rfl : chkR _ _ _ _ = true), ?_⟩; conv => whnf) | (refine EvOr.go ?_; conv => whnf))
                refine CallG.use t4 c69 [4, 5, 6] [] ?_ ?_ ?_ ?_ ?_ ?_; rfl; rfl; kernel_rfl; rfl; rfl
                conv => whnf
                repeat (first | (refine ⟨(by kernel_rfl : chkR _ _ _ _ = true), ?_⟩; conv => whnf) | (refine EvOr.go ?_; conv => whnf))
                refine CallG.use c1' c70 [1, 2, 3] [] ?_ ?_ ?_ ?_ ?_ ?_; rfl; rfl; kernel_rfl; rfl; rfl
                conv => whnf
                repeat (first | (refine ⟨(by kernel_rfl : chkR _ _ _ _ = true), ?_⟩; conv => whnf) | (refine EvOr.go ?_; conv => whnf))
                intro c hc
                obtain rfl : c = false := by rw [hc]; simp
                conv => whnf
                repeat (first | (refine ⟨(by kernel_rfl : chkR _ _ _ _ = true), ?_⟩; conv => whnf) | (refine EvOr.go ?_; conv => whnf))
                refine ⟨_, inc_nat (by omega), ?_⟩
                conv => whnf
                repeat (first | (refine ⟨(by kernel_rfl : chkR _ _ _ _ = true), ?_⟩; conv => whnf) | (refine EvOr.go ?_; conv => whnf))
                refine ⟨by omega, _, StW.ofP [0, 1, 2, 3, 4, 5, 6] ?_ ?_ ?_⟩
                · show stP _ _ (plI c1 n l (k + 1)).2 = true
                  simp only [plI, hs]; kernel_rfl
                · rfl
                · simp only [plI, hs]; rfl
            · obtain ⟨O, ho, t1, t2, t3, t4⟩ := tail_row inv' h4 h64 hO
              dsimp only at g1 g2 c1' t1 t2 t3 t4
              cases x <;>
              · conv => whnf
                repeat (first | (refine ⟨(by kernel_rfl : chkR _ _ _ _ = true), ?_⟩; conv => whnf) | (refine EvOr.go ?_; conv => whnf))
                intro c hc
                obtain rfl : c = true := by rw [hc]; exact decide_eq_true (by omega)
                conv => whnf
                repeat (first | (refine ⟨(by kernel_rfl : chkR _ _ _ _ = true), ?_⟩; conv => whnf) | (refine EvOr.go ?_; conv => whnf))
                intro c hc
                obtain rfl : c = true := by rw [hc]; exact decide_eq_true (by omega)
                conv => whnf
                repeat (first | (refine ⟨(by kernel_rfl : chkR _ _ _ _ = true), ?_⟩; conv => whnf) | (refine EvOr.go ?_; conv => whnf))
                refine ⟨⟨by omega, by omega⟩, ?_⟩
                conv => whnf
                repeat (first | (refine ⟨(by kernel_rfl : chkR _ _ _ _ = true), ?_⟩; conv => whnf) | (refine EvOr.go ?_; conv => whnf))
                refine ⟨_, ga, ?_⟩
                conv => whnf
                repeat (first | (refine ⟨(by kernel_rfl : chkR _ _ _ _ = true), ?_⟩; conv => whnf) | (refine EvOr.go ?_; conv => whnf))
                refine ⟨_, w4, ?_⟩
                conv => whnf
                repeat (first | (refine ⟨(by kernel_rfl : chkR _ _ _ _ = true), ?_⟩; conv => whnf) | (refine EvOr.go ?_; conv => whnf))
                intro c hc
                obtain rfl : c = false := by rw [hc]; simp; omega
                conv => whnf
                repeat (first | (refine ⟨(by kernel_rfl : chkR _ _ _ _ = true), ?_⟩; conv => whnf) | (refine EvOr.go ?_; conv => whnf))
                intro c hc
                obtain rfl : c = false := by rw [hc]; simp; omega
                conv => whnf
                repeat (first | (refine ⟨(by kernel_rfl : chkR _ _ _ _ = true), ?_⟩; conv => whnf) | (refine EvOr.go ?_; conv => whnf))
                intro c hc
                obtain rfl : c = false := by rw [hc]; simp; omega
                conv => whnf
                repeat (first | (refine ⟨(by kernel_rfl : chkR _ _ _ _ = true), ?_⟩; conv => whnf) | (refine EvOr.go ?_; conv => whnf))
                refine CallG.use p1 c60 [1, 2, 3] [] ?_ ?_ ?_ ?_ ?_ ?_; rfl; rfl; kernel_rfl; rfl; rfl
                conv => whnf
                repeat (first | (refine ⟨(by kernel_rfl : chkR _ _ _ _ = true), ?_⟩; conv => whnf) | (refine EvOr.go ?_; conv => whnf))
                refine CallG.use p2 c66 [4, 5, 6] [] ?_ ?_ ?_ ?_ ?_ ?_; rfl; rfl; kernel_rfl; rfl; rfl
                conv => whnf
                repeat (first | (refine ⟨(by kernel_rfl : chkR _ _ _ _ = true), ?_⟩; conv => whnf) | (refine EvOr.go ?_; conv => whnf))
                refine CallG.use ints_nil c65 [] [] ?_ ?_ ?_ ?_ ?_ ?_; rfl; rfl; kernel_rfl; rfl; rfl
                conv => whnf
                repeat (first | (refine ⟨(by kernel_rfl : chkR _ _ _ _ = true), ?_⟩; conv => whnf) | (refine EvOr.go ?_; conv => whnf))
                intro c hc
                obtain rfl : c = false := by rw [hc]; simp
                conv => whnf
                repeat (first | (refine ⟨(by kernel_rfl : chkR _ _ _ _ = true), ?_⟩; conv => whnf) | (refine EvOr.go ?_; conv => whnf))
                refine CallG.use g1 c57 [1, 2, 3] [] ?_ ?_ ?_ ?_ ?_ ?_; rfl; rfl; kernel_rfl; rfl; rfl
                conv => whnf
                repeat (first | (refine ⟨(by kernel_rfl : chkR _ _ _ _ = true), ?_⟩; conv => whnf) | (refine EvOr.go ?_; conv => whnf))
                refine CallG.use g2 c67 [4, 5, 6] [] ?_ ?_ ?_ ?_ ?_ ?_; rfl; rfl; kernel_rfl; rfl; rfl
                conv => whnf
                repeat (first | (refine ⟨(by kernel_rfl : chkR _ _ _ _ = true), ?_⟩; conv => whnf) | (refine EvOr.go ?_; conv => whnf))
                refine ⟨rfl, ?_⟩
                refine ⟨eq34, ?_⟩
                conv => whnf
                repeat (first | (refine ⟨(by kernel_rfl : chkR _ _ _ _ = true), ?_⟩; conv => whnf) | (refine EvOr.go ?_; conv => whnf))
                intro c hc
                obtain rfl : c = false := by
                  cases c
                  · rfl
                  · exact absurd rfl (hc.1 rfl)
                conv => whnf
                repeat (first | (refine ⟨(by kernel_rfl : chkR _ _ _ _ = true), ?_⟩; conv => whnf) | (refine EvOr.go ?_; conv => whnf))
                conv => whnf
                repeat (first | (refine ⟨(by kernel_rfl : chkR _ _ _ _ = true), ?_⟩; conv => whnf) | (refine EvOr.go ?_; conv => whnf))
                intro c hc
                obtain rfl : c = false := by rw [hc]; simp
                conv => whnf
                repeat (first | (refine ⟨(by kernel_rfl : chkR _ _ _ _ = true), ?_⟩; conv => whnf) | (refine EvOr.go ?_; conv => whnf))
                refine CallG.use t1 c59 [1, 2, 3] [] ?_ ?_ ?_ ?_ ?_ ?_; rfl; rfl; kernel_rfl; rfl; rfl
                conv => whnf
                repeat (first | (refine ⟨(by kernel_rfl : chkR _ _ _ _ = true), ?_⟩; conv => whnf) | (refine EvOr.go ?_; conv => whnf))
                refine CallG.use t2 c68 [4, 5, 6] [] ?_ ?_ ?_ ?_ ?_ ?_; rfl; rfl; kernel_rfl; rfl; rfl
                conv => whnf
                repeat (first | (refine ⟨(by kernel_rfl : chkR _ _ _ _ = true), ?_⟩; conv => whnf) | (refine EvOr.go ?_; conv => whnf))
                refine CallG.use (ints_ok O ho) c65 [10, 11] [] ?_ ?_ ?_ ?_ ?_ ?_; rfl; rfl; kernel_rfl; rfl; rfl
                conv => whnf
                repeat (first | (refine ⟨(by kernel_rfl : chkR _ _ _ _ = true), ?_⟩; conv => whnf) | (refine EvOr.go ?_; conv => whnf))
                refine CallG.use t3 c56 [1, 2, 3] [] ?_ ?_ ?_ ?_ ?_ ?_; rfl; rfl; kernel_rfl; rfl; rfl
                conv => whnf
                repeat (first | (refine ⟨(by kernel_rfl : chkR _ _ _ _ = true), ?_⟩; conv => whnf) | (refine EvOr.go ?_; conv => whnf))
                refine CallG.use t4 c69 [4, 5, 6] [] ?_ ?_ ?_ ?_ ?_ ?_; rfl; rfl; kernel_rfl; rfl; rfl
                conv => whnf
                repeat (first | (refine ⟨(by kernel_rfl : chkR _ _ _ _ = true), ?_⟩; conv => whnf) | (refine EvOr.go ?_; conv => whnf))
                refine CallG.use c1' c70 [1, 2, 3] [] ?_ ?_ ?_ ?_ ?_ ?_; rfl; rfl; kernel_rfl; rfl; rfl
                conv => whnf
                repeat (first | (refine ⟨(by kernel_rfl : chkR _ _ _ _ = true), ?_⟩; conv => whnf) | (refine EvOr.go ?_; conv => whnf))
                intro c hc
                obtain rfl : c = false := by rw [hc]; simp
                conv => whnf
                repeat (first | (refine ⟨(by kernel_rfl : chkR _ _ _ _ = true), ?_⟩; conv => whnf) | (refine EvOr.go ?_; conv => whnf))
                refine ⟨_, inc_nat (by omega), ?_⟩
                conv => whnf
                repeat (first | (refine ⟨(by kernel_rfl : chkR _ _ _ _ = true), ?_⟩; conv => whnf) | (refine EvOr.go ?_; conv => whnf))
                refine ⟨by omega, _, StW.ofP [0, 1, 2, 3, 4, 5, 6] ?_ ?_ ?_⟩
                · show stP _ _ (plI c1 n l (k + 1)).2 = true
                  simp only [plI, hs]; kernel_rfl
                · rfl
                · simp only [plI, hs]; rfl
  · obtain rfl : k = min l.length 60 := by omega
    have gE := gE (min l.length 60) (by omega) (by omega)
    unfold plI
    generalize plF n l (min l.length 60) = σ at *
    obtain ⟨x, L, K⟩ := σ
    by_cases h60 : l.length ≤ 60
    · cases x <;>
      · conv => whnf
        repeat (refine ⟨(by kernel_rfl : chkR _ _ _ _ = true), ?_⟩; conv => whnf)
        intro c hc
        obtain rfl : c = false := by rw [hc]; exact decide_eq_false (by omega)
        conv => whnf
        repeat (refine ⟨(by kernel_rfl : chkR _ _ _ _ = true), ?_⟩; conv => whnf)
        refine EvOr.go ?_
        conv => whnf
        refine EvOr.cut (CodeT.weaken _ (StW.ofP [0, 1, 2, 3, 4, 5, 6] ?_ ?_ ?_) gE)
        · kernel_rfl
        · rfl
        · rfl
    · cases x <;>
      · conv => whnf
        repeat (refine ⟨(by kernel_rfl : chkR _ _ _ _ = true), ?_⟩; conv => whnf)
        intro c hc
        obtain rfl : c = true := by rw [hc]; exact decide_eq_true (by omega)
        conv => whnf
        repeat (refine ⟨(by kernel_rfl : chkR _ _ _ _ = true), ?_⟩; conv => whnf)
        intro c hc
        obtain rfl : c = false := by rw [hc]; exact decide_eq_false (by omega)
        conv => whnf
        repeat (refine ⟨(by kernel_rfl : chkR _ _ _ _ = true), ?_⟩; conv => whnf)
        refine EvOr.go ?_
        conv => whnf
        refine EvOr.cut (CodeT.weaken _ (StW.ofP [0, 1, 2, 3, 4, 5, 6] ?_ ?_ ?_) gE)
        · kernel_rfl
        · rfl
        · rfl
end Go.Proofs.Ytdmcbfmpnakdfaa.Eng.St
/- StripePlays: whole. -/
namespace Go.Proofs.Ytdmcbfmpnakdfaa.Eng.St
open Go Go.RowKit Go.Shelf Go.Proofs Go.Proofs.Ytdmcbfmpnakdfaa.Gf Go.Proofs.Ytdmcbfmpnakdfaa.Rf Go.Proofs.Ytdmcbfmpnakdfaa.Oa
set_option maxRecDepth 20000
set_option maxHeartbeats 16000000
theorem plays_nil (n : Nat) (h4 : 4 ≤ n) (h64 : n ≤ 64) : FunT Try.prog 14 [iv (n : Nat), .sc nilS] [none] (bv true) [none] := by
  have n0 := new_ok n h4 h64
  have n1 := rnew_ok n h4 h64
  have gE := plE n none (.inl rfl) ⟨false, zrS n, zrK n⟩ 0 (plF_inv (l := []) h4 h64 (fun _ h => by cases h) 0 (by decide) (Nat.le_refl _)) (by omega) h64
  refine FunT.ev tabOk mixed Try.func14 rfl ?_
  conv => whnf
  repeat (first | (refine ⟨(by kernel_rfl : chkR _ _ _ _ = true), ?_⟩; conv => whnf) | (refine EvOr.go ?_; conv => whnf))
  refine CallG.use n0 c50 [] [] ?_ ?_ ?_ ?_ ?_ ?_; rfl; rfl; kernel_rfl; rfl; rfl
  conv => whnf
  repeat (first | (refine ⟨(by kernel_rfl : chkR _ _ _ _ = true), ?_⟩; conv => whnf) | (refine EvOr.go ?_; conv => whnf))
  refine CallG.use n1 c61 [] [] ?_ ?_ ?_ ?_ ?_ ?_; rfl; rfl; kernel_rfl; rfl; rfl
  conv => whnf
  repeat (first | (refine ⟨(by kernel_rfl : chkR _ _ _ _ = true), ?_⟩; conv => whnf) | (refine EvOr.go ?_; conv => whnf))
  intro c hc
  obtain rfl : c = false := by rw [hc]; rfl
  conv => whnf
  repeat (first | (refine ⟨(by kernel_rfl : chkR _ _ _ _ = true), ?_⟩; conv => whnf) | (refine EvOr.go ?_; conv => whnf))
  intro c hc
  obtain rfl : c = false := by rw [hc]; rfl
  conv => whnf
  repeat (first | (refine ⟨(by kernel_rfl : chkR _ _ _ _ = true), ?_⟩; conv => whnf) | (refine EvOr.go ?_; conv => whnf))
  refine CodeS.loop0 tabOk mixed (Nat.le_of_ble_eq_true rfl) ?_
  conv => whnf
  repeat (refine ⟨(by kernel_rfl : chkR _ _ _ _ = true), ?_⟩; conv => whnf)
  intro c hc
  obtain rfl : c = false := by rw [hc]; rfl
  conv => whnf
  repeat (refine ⟨(by kernel_rfl : chkR _ _ _ _ = true), ?_⟩; conv => whnf)
  refine EvOr.go ?_
  conv => whnf
  refine EvOr.cut (CodeT.weaken _ (StW.ofP [0, 1, 2, 3, 4, 5, 6] ?_ ?_ ?_) gE)
  · kernel_rfl
  · rfl
  · rfl
theorem plays_ok (z : Int) (c1 : Option Nat) (l : List ActS) (ok1 : slOk c1 l ∧ ∀ a ∈ l, a.Ok) :
    FunT Try.prog 14 [iv z, .sc (slA c1 66 l.length 0)] [actB c1 l] (bv true) [actB c1 l] := by
  by_cases hz : 4 ≤ z ∧ z ≤ 64
  · obtain ⟨n, rfl⟩ : ∃ n : Nat, z = n := ⟨z.toNat, by omega⟩
    cases c1 with
    | none =>
      obtain rfl : l = [] := ok1.1
      exact plays_nil n (by omega) (by omega)
    | some k => exact plays_row k n l ok1.2 (by omega) (by omega)
  · have n0 := new_bad z hz
    have n1 := rnew_bad z hz
    cases c1 <;>
    · refine FunT.ev tabOk mixed Try.func14 rfl ?_
      conv => whnf
      repeat (first | (refine ⟨(by kernel_rfl : chkR _ _ _ _ = true), ?_⟩; conv => whnf) | (refine EvOr.go ?_; conv => whnf))
      refine CallG.use n0 c50 [] [] ?_ ?_ ?_ ?_ ?_ ?_; rfl; rfl; kernel_rfl; rfl; rfl
      conv => whnf
      repeat (first | (refine ⟨(by kernel_rfl : chkR _ _ _ _ = true), ?_⟩; conv => whnf) | (refine EvOr.go ?_; conv => whnf))
      refine CallG.use n1 c61 [] [] ?_ ?_ ?_ ?_ ?_ ?_; rfl; rfl; kernel_rfl; rfl; rfl
      conv => whnf
      repeat (first | (refine ⟨(by kernel_rfl : chkR _ _ _ _ = true), ?_⟩; conv => whnf) | (refine EvOr.go ?_; conv => whnf))
      intro c hc
      obtain rfl : c = false := by rw [hc]; rfl
      conv => whnf
      repeat (first | (refine ⟨(by kernel_rfl : chkR _ _ _ _ = true), ?_⟩; conv => whnf) | (refine EvOr.go ?_; conv => whnf))
      intro c hc
      obtain rfl : c = true := by rw [hc]; rfl
      conv => whnf
      repeat (first | (refine ⟨(by kernel_rfl : chkR _ _ _ _ = true), ?_⟩; conv => whnf) | (refine EvOr.go ?_; conv => whnf))
      refine CallG.use works51 c51 [] [] ?_ ?_ ?_ ?_ ?_ ?_; rfl; rfl; kernel_rfl; rfl; rfl
      conv => whnf
      repeat (first | (refine ⟨(by kernel_rfl : chkR _ _ _ _ = true), ?_⟩; conv => whnf) | (refine EvOr.go ?_; conv => whnf))
      exact retQ.one rfl (.inr rfl) rfl (Nat.le_of_ble_eq_true rfl) rfl
end Go.Proofs.Ytdmcbfmpnakdfaa.Eng.St
