/- Fix, walked: two data columns; the start. -/
import Derived.Test.YtdmcbfmpnakdfaaQg
namespace Go.Proofs.Ytdmcbfmpnakdfaa.Eng
open Go Go.Proofs Go.Proofs.Ytdmcbfmpnakdfaa.Gf
set_option maxRecDepth 20000
set_option maxHeartbeats 4000000
theorem fixM2 (L Z : List (List Nat)) (X : Option ABlk) (m : Nat) (J : List Segs) (i j : Nat) (hX : X = none ∨ ∃ zs, X = rowRI zs) (hij : i < j) (hjm : j < m) (hZ : Z.length = m + 2) (hS : Secs Z) (hm : m ≤ 62) :
    CodeT Try.prog 2 (suf 8 (bodyC Try.f17)) (fiT m (.row J) 2) (fiH L Z X m (.row J) [i, j] (psum Z m) (qsum Z m))
      (retQ Try.prog Try.f17 2 (.tup [.sc (.sl 2 0 64 (m + 2) none), iv 0]) [rowS L, X, rowX (fixEnd (fixMid Z m [i, j]) m [i, j])]) := by
  have hks : ∀ k ∈ [i, j], k < m + 2 := by simp; omega
  have hmi : arithI .add .i64 (m : Nat) 1 = some ((m + 1 : Nat) : Int) := inc_nat (by omega)
  have g := idxL_ok (kz [i, j]) J (m : Nat) (by simp)
  have e : idxL (kz [i, j]) (m : Nat) = 0 := by
    show idxL [(i : Int), (j : Int)] _ = _
    rw [idx_two _ _ _ (by omega), if_pos (by omega)]
  rw [e] at g
  have sp := psum_sec hS m (by omega)
  have sq := qsum_sec hS m (by omega)
  have sm := hS.at (i := m) (by omega)
  have sm1 := hS.at (i := m + 1) (by omega)
  have g1 := sum_ok (Z.getD m []) (psum Z m) sm sp
  have g2 := sum_ok (Z.getD (m + 1) []) (qsum Z m) sm1 sq
  have x1 := xorL_sec sm sp
  have x2 := xorL_sec sm1 sq
  have g3 := two_ok _ _ (i : Int) (j : Int) x1 x2 (by omega) (by omega) (by omega)
  have hrm := row_at (S := Z) (k := m) (by omega)
  have hrm1 := row_at (S := Z) (k := m + 1) (by omega)
  have hri := row_at (S := Z) (k := i) (by omega)
  have hrj := row_at (S := Z.set i (twoA (xorL (Z.getD m []) (psum Z m)) (xorL (Z.getD (m + 1) []) (qsum Z m)) (pwZ (i : Int)) (pwZ (j : Int)))) (k := j) (by rw [List.length_set]; omega)
  rw [row_setS] at hrj
  have tA := twoA_sec (u := pwZ (i : Int)) (v := pwZ (j : Int)) x1 x2
  have tB := twoB_sec (u := pwZ (i : Int)) (v := pwZ (j : Int)) x1 x2
  have gS := fixT L ((Z.set i (twoA (xorL (Z.getD m []) (psum Z m)) (xorL (Z.getD (m + 1) []) (qsum Z m)) (pwZ (i : Int)) (pwZ (j : Int)))).set j (twoB (xorL (Z.getD m []) (psum Z m)) (xorL (Z.getD (m + 1) []) (qsum Z m)) (pwZ (i : Int)) (pwZ (j : Int)))) X m (.row J) [i, j] (psum Z m) (qsum Z m) hX trivial hks (by simp [hZ]) (set_secs (set_secs hS tA) tB) (Nat.le_refl _) hm
  rw [show fixMid Z m [i, j] = (Z.set i (twoA (xorL (Z.getD m []) (psum Z m)) (xorL (Z.getD (m + 1) []) (qsum Z m)) (pwZ (i : Int)) (pwZ (j : Int)))).set j (twoB (xorL (Z.getD m []) (psum Z m)) (xorL (Z.getD (m + 1) []) (qsum Z m)) (pwZ (i : Int)) (pwZ (j : Int))) by simp only [fixMid, if_pos hjm]]
  generalize psum Z m = P at *
  generalize qsum Z m = Q at *
  generalize twoA (xorL (Z.getD m []) P) (xorL (Z.getD (m + 1) []) Q) (pwZ (i : Int)) (pwZ (j : Int)) = A at *
  generalize twoB (xorL (Z.getD m []) P) (xorL (Z.getD (m + 1) []) Q) (pwZ (i : Int)) (pwZ (j : Int)) = B at *
  rcases hX with rfl | ⟨zs, rfl⟩ <;>
  · refine evC_sound tabOk mixed _ _ _ _ ?_
    conv => whnf
    repeat (first | (refine ⟨(by kernel_rfl : chkR _ _ _ _ = true), ?_⟩; conv => whnf) | (refine EvOr.go ?_; conv => whnf))
    refine CallG.use g c74 [3, 2] [] ?_ ?_ ?_ ?_ ?_ ?_; rfl; rfl; kernel_rfl; rfl; rfl
    conv => whnf
    repeat (first | (refine ⟨(by kernel_rfl : chkR _ _ _ _ = true), ?_⟩; conv => whnf) | (refine EvOr.go ?_; conv => whnf))
    intro c hc
    obtain rfl : c = false := by rw [hc]; rfl
    conv => whnf
    repeat (first | (refine ⟨(by kernel_rfl : chkR _ _ _ _ = true), ?_⟩; conv => whnf) | (refine EvOr.go ?_; conv => whnf))
    intro c hc
    obtain rfl : c = true := by rw [hc]; rfl
    conv => whnf
    repeat (first | (refine ⟨(by kernel_rfl : chkR _ _ _ _ = true), ?_⟩; conv => whnf) | (refine EvOr.go ?_; conv => whnf))
    refine ⟨⟨by decide, by show (1 : Int) < 2; decide⟩, ?_⟩
    conv => whnf
    repeat (first | (refine ⟨(by kernel_rfl : chkR _ _ _ _ = true), ?_⟩; conv => whnf) | (refine EvOr.go ?_; conv => whnf))
    refine ⟨_, rfl, ?_⟩
    conv => whnf
    repeat (first | (refine ⟨(by kernel_rfl : chkR _ _ _ _ = true), ?_⟩; conv => whnf) | (refine EvOr.go ?_; conv => whnf))
    intro c hc
    obtain rfl : c = true := by rw [hc]; simp; omega
    conv => whnf
    repeat (first | (refine ⟨(by kernel_rfl : chkR _ _ _ _ = true), ?_⟩; conv => whnf) | (refine EvOr.go ?_; conv => whnf))
    refine ⟨⟨by decide, by show (0 : Int) < 2; decide⟩, ?_⟩
    conv => whnf
    repeat (first | (refine ⟨(by kernel_rfl : chkR _ _ _ _ = true), ?_⟩; conv => whnf) | (refine EvOr.go ?_; conv => whnf))
    refine ⟨_, rfl, ?_⟩
    conv => whnf
    repeat (first | (refine ⟨(by kernel_rfl : chkR _ _ _ _ = true), ?_⟩; conv => whnf) | (refine EvOr.go ?_; conv => whnf))
    refine ⟨⟨by decide, by show (1 : Int) < 2; decide⟩, ?_⟩
    conv => whnf
    repeat (first | (refine ⟨(by kernel_rfl : chkR _ _ _ _ = true), ?_⟩; conv => whnf) | (refine EvOr.go ?_; conv => whnf))
    refine ⟨_, rfl, ?_⟩
    conv => whnf
    repeat (first | (refine ⟨(by kernel_rfl : chkR _ _ _ _ = true), ?_⟩; conv => whnf) | (refine EvOr.go ?_; conv => whnf))
    refine ⟨⟨by omega, by show (m : Int) < ((m + 2 : Nat) : Int); omega⟩, ?_⟩
    conv => whnf
    repeat (first | (refine ⟨(by kernel_rfl : chkR _ _ _ _ = true), ?_⟩; conv => whnf) | (refine EvOr.go ?_; conv => whnf))
    refine ⟨_, hrm, ?_⟩
    conv => whnf
    repeat (first | (refine ⟨(by kernel_rfl : chkR _ _ _ _ = true), ?_⟩; conv => whnf) | (refine EvOr.go ?_; conv => whnf))
    refine CallG.use g1 c77 [] [] ?_ ?_ ?_ ?_ ?_ ?_; rfl; rfl; kernel_rfl; rfl; rfl
    conv => whnf
    repeat (first | (refine ⟨(by kernel_rfl : chkR _ _ _ _ = true), ?_⟩; conv => whnf) | (refine EvOr.go ?_; conv => whnf))
    refine ⟨_, hmi, ?_⟩
    conv => whnf
    repeat (first | (refine ⟨(by kernel_rfl : chkR _ _ _ _ = true), ?_⟩; conv => whnf) | (refine EvOr.go ?_; conv => whnf))
    refine ⟨⟨by omega, by show ((m + 1 : Nat) : Int) < ((m + 2 : Nat) : Int); omega⟩, ?_⟩
    conv => whnf
    repeat (first | (refine ⟨(by kernel_rfl : chkR _ _ _ _ = true), ?_⟩; conv => whnf) | (refine EvOr.go ?_; conv => whnf))
    refine ⟨_, hrm1, ?_⟩
    conv => whnf
    repeat (first | (refine ⟨(by kernel_rfl : chkR _ _ _ _ = true), ?_⟩; conv => whnf) | (refine EvOr.go ?_; conv => whnf))
    refine CallG.use g2 c77 [] [] ?_ ?_ ?_ ?_ ?_ ?_; rfl; rfl; kernel_rfl; rfl; rfl
    conv => whnf
    repeat (first | (refine ⟨(by kernel_rfl : chkR _ _ _ _ = true), ?_⟩; conv => whnf) | (refine EvOr.go ?_; conv => whnf))
    refine ⟨⟨by decide, by show (0 : Int) < 2; decide⟩, ?_⟩
    conv => whnf
    repeat (first | (refine ⟨(by kernel_rfl : chkR _ _ _ _ = true), ?_⟩; conv => whnf) | (refine EvOr.go ?_; conv => whnf))
    refine ⟨_, rfl, ?_⟩
    conv => whnf
    repeat (first | (refine ⟨(by kernel_rfl : chkR _ _ _ _ = true), ?_⟩; conv => whnf) | (refine EvOr.go ?_; conv => whnf))
    refine ⟨⟨by decide, by show (1 : Int) < 2; decide⟩, ?_⟩
    conv => whnf
    repeat (first | (refine ⟨(by kernel_rfl : chkR _ _ _ _ = true), ?_⟩; conv => whnf) | (refine EvOr.go ?_; conv => whnf))
    refine ⟨_, rfl, ?_⟩
    conv => whnf
    repeat (first | (refine ⟨(by kernel_rfl : chkR _ _ _ _ = true), ?_⟩; conv => whnf) | (refine EvOr.go ?_; conv => whnf))
    refine CallG.use g3 c76 [] [] ?_ ?_ ?_ ?_ ?_ ?_; rfl; rfl; kernel_rfl; rfl; rfl
    conv => whnf
    repeat (first | (refine ⟨(by kernel_rfl : chkR _ _ _ _ = true), ?_⟩; conv => whnf) | (refine EvOr.go ?_; conv => whnf))
    refine ⟨⟨by show (0 : Int) ≤ (i : Int); omega, by show (i : Int) < ((m + 2 : Nat) : Int); omega⟩, ?_⟩
    conv => whnf
    repeat (first | (refine ⟨(by kernel_rfl : chkR _ _ _ _ = true), ?_⟩; conv => whnf) | (refine EvOr.go ?_; conv => whnf))
    refine ⟨_, hri, ?_⟩
    conv => whnf
    repeat (first | (refine ⟨(by kernel_rfl : chkR _ _ _ _ = true), ?_⟩; conv => whnf) | (refine EvOr.go ?_; conv => whnf))
    refine ⟨⟨by show (0 : Int) ≤ (j : Int); omega, by show (j : Int) < ((m + 2 : Nat) : Int); omega⟩, ?_⟩
    conv => whnf
    repeat (first | (refine ⟨(by kernel_rfl : chkR _ _ _ _ = true), ?_⟩; conv => whnf) | (refine EvOr.go ?_; conv => whnf))
    refine ⟨_, hrj, ?_⟩
    conv => whnf
    repeat (refine ⟨(by kernel_rfl : chkR _ _ _ _ = true), ?_⟩; conv => whnf)
    refine EvOr.cut (CodeT.weaken _ (StW.ofP [0, 1, 2, 3, 4, 5, 6] ?_ ?_ ?_) gS)
    · kernel_rfl
    · rfl
    · simp only [fiH, rowX, row_setS]; rfl
/-- Up to two columns, rising. -/
def Two (ks : List Nat) (n : Nat) : Prop := ks = [] ∨ (∃ i, ks = [i] ∧ i < n) ∨ ∃ i j, ks = [i, j] ∧ i < j ∧ j < n
theorem Two.len {ks : List Nat} {n : Nat} (h : Two ks n) : ks.length ≤ 2 := by rcases h with rfl | ⟨i, rfl, _⟩ | ⟨i, j, rfl, _⟩ <;> simp
theorem Two.lt {ks : List Nat} {n : Nat} (h : Two ks n) : ∀ k ∈ ks, k < n := by
  rcases h with rfl | ⟨i, rfl, h⟩ | ⟨i, j, rfl, h1, h2⟩
  · simp
  · simp; exact h
  · simp; omega
theorem fixM (L Z : List (List Nat)) (X : Option ABlk) (m : Nat) (f : LF) (ks : List Nat) (hX : X = none ∨ ∃ zs, X = rowRI zs) (hf : f.ok ks.length) (hk : Two ks (m + 2)) (hZ : Z.length = m + 2) (hS : Secs Z) (hm : m ≤ 62) :
    CodeT Try.prog 2 (suf 8 (bodyC Try.f17)) (fiT m f ks.length) (fiH L Z X m f ks (psum Z m) (qsum Z m))
      (retQ Try.prog Try.f17 2 (.tup [.sc (.sl 2 0 64 (m + 2) none), iv 0]) [rowS L, X, rowX (fixEnd (fixMid Z m ks) m ks)]) := by
  have hJ : ks ≠ [] → ∃ J, f = .row J := fun h => by
    cases f with
    | row J => exact ⟨J, rfl⟩
    | nil => exact absurd (List.eq_nil_of_length_eq_zero hf) h
    | ex => exact absurd (List.eq_nil_of_length_eq_zero hf) h
  have hlt := hk.lt
  rcases hk with rfl | ⟨i, rfl, h⟩ | ⟨i, j, rfl, h1, h2⟩
  · exact fixM0 L Z X m f [] hX hf hlt (.inl rfl) hZ hS hm
  · by_cases him : i < m
    · obtain ⟨J, rfl⟩ := hJ (by simp)
      exact fixM1 L Z X m J [i] i hX him (.inl rfl) hZ hS hm
    · have e : fixMid Z m [i] = Z := by simp only [fixMid, if_neg him]
      rw [e]
      exact fixM0 L Z X m f [i] hX hf hlt (.inr (.inl ⟨i, rfl, by omega⟩)) hZ hS hm
  · by_cases hjm : j < m
    · obtain ⟨J, rfl⟩ := hJ (by simp)
      exact fixM2 L Z X m J i j hX h1 hjm hZ hS hm
    · by_cases him : i < m
      · obtain ⟨J, rfl⟩ := hJ (by simp)
        have : j = m ∨ j = m + 1 := by omega
        rcases this with rfl | rfl
        · exact fixM1 L Z X _ J [i, _] i hX him (.inr (.inl rfl)) hZ hS hm
        · exact fixM1 L Z X _ J [i, _] i hX him (.inr (.inr rfl)) hZ hS hm
      · have e : fixMid Z m [i, j] = Z := by simp only [fixMid, if_neg him, if_neg hjm]
        rw [e]
        exact fixM0 L Z X m f [i, j] hX hf hlt (.inr (.inr ⟨i, j, rfl, h1, by omega⟩)) hZ hS hm
abbrev fzH (L S : List (List Nat)) (X : Option ABlk) (m : Nat) (f : LF) (ks : List Nat) : LHp := [rowS L, X, boxN (m : Nat), f.blk (kz ks), rowX S]
def fzI (L : List (List Nat)) (X : Option ABlk) (m : Nat) (J : List Segs) (ks : List Nat) (k : Nat) : LTm × LHp :=
  ([.junk, .junk, .junk, .junk, .junk, .junk, .sc (.ptr 2 0 1 0), .sc ((LF.row J).sv ks.length 3), .sc (.sl 4 0 64 (m + 2) none), .junk, .junk, .junk, .junk, .junk, .junk, .junk, .junk, .junk, .junk, .junk, .junk, .junk, .junk, .junk, .junk, .junk, .junk, .junk, .junk, .junk, .junk, .junk, .junk, .junk, .junk, .junk, .junk, .junk, .junk, .junk, .junk, .junk, .junk, .junk, .junk, .junk, .junk, .junk, .junk, .junk, .junk, .junk, .junk, .junk, .junk, .junk, .junk, .sc ((LF.row J).sv ks.length 3), iv (ks.length : Nat), iv (k : Nat), .junk, .junk, .junk, .junk, .junk, .junk, .junk, .junk, .junk, .junk, .junk, .junk, .junk, .junk, .junk, .junk, .junk, .junk, .junk, .junk, .junk, .junk, .junk, .junk, .junk, .junk, .junk, .junk, .junk, .junk, .junk, .junk, .junk, .junk, .junk, .junk, .junk, .junk, .junk, .junk, .junk, .junk, .junk, .junk, .junk, .junk, .junk, .junk, .junk, .junk, .junk, .junk, .junk, .junk, .junk, .junk, .junk, .junk, .junk, .junk, .junk, .junk, .junk, .junk, .junk, .junk, .junk, .junk, .junk, .junk, .junk, .junk, .junk, .junk, .junk, .junk, .junk, .junk, .junk, .junk, .junk, .junk, .junk, .junk, .junk, .junk, .junk, .junk, .junk, .junk, .junk, .junk, .junk, .junk, .junk, .junk, .junk, .junk, .junk, .junk, .junk, .junk, .junk, .junk, .junk, .junk, .junk, .junk, .junk, .junk, .junk, .junk, .junk, .junk, .junk, .junk, .junk, .junk, .junk, .junk, .junk, .junk, .junk, .junk, .junk, .junk, .junk, .junk, .junk], fzH L (zeroed L (ks.take k)) X m (.row J) ks)
theorem fixZ6 (L : List (List Nat)) (X : Option ABlk) (m : Nat) (f : LF) (ks : List Nat) (hX : X = none ∨ ∃ zs, X = rowRI zs) (hf : f.ok ks.length) (hk : Two ks (m + 2)) (hL : L.length = m + 2) (hS : Secs L) (hm : m ≤ 62) :
    CodeT Try.prog 2 (suf 6 (bodyC Try.f17)) ([.junk, .junk, .junk, .junk, .junk, .junk, .sc (.ptr 2 0 1 0), .sc (f.sv ks.length 3), .sc (.sl 4 0 64 (m + 2) none), .junk, .junk, .junk, .junk, .junk, .junk, .junk, .junk, .junk, .junk, .junk, .junk, .junk, .junk, .junk, .junk, .junk, .junk, .junk, .junk, .junk, .junk, .junk, .junk, .junk, .junk, .junk, .junk, .junk, .junk, .junk, .junk, .junk, .junk, .junk, .junk, .junk, .junk, .junk, .junk, .junk, .junk, .junk, .junk, .junk, .junk, .junk, .junk, .junk, .junk, .junk, .junk, .junk, .junk, .junk, .junk, .junk, .junk, .junk, .junk, .junk, .junk, .junk, .junk, .junk, .junk, .junk, .junk, .junk, .junk, .junk, .junk, .junk, .junk, .junk, .junk, .junk, .junk, .junk, .junk, .junk, .junk, .junk, .junk, .junk, .junk, .junk, .junk, .junk, .junk, .junk, .junk, .junk, .junk, .junk, .junk, .junk, .junk, .junk, .junk, .junk, .junk, .junk, .junk, .junk, .junk, .junk, .junk, .junk, .junk, .junk, .junk, .junk, .junk, .junk, .junk, .junk, .junk, .junk, .junk, .junk, .junk, .junk, .junk, .junk, .junk, .junk, .junk, .junk, .junk, .junk, .junk, .junk, .junk, .junk, .junk, .junk, .junk, .junk, .junk, .junk, .junk, .junk, .junk, .junk, .junk, .junk, .junk, .junk, .junk, .junk, .junk, .junk, .junk, .junk, .junk, .junk, .junk, .junk, .junk, .junk, .junk, .junk, .junk, .junk, .junk, .junk, .junk, .junk, .junk, .junk, .junk, .junk, .junk, .junk, .junk, .junk, .junk, .junk, .junk]) (fzH L (zeroed L ks) X m f ks)
      (retQ Try.prog Try.f17 2 (.tup [.sc (.sl 2 0 64 (m + 2) none), iv 0]) [rowS L, X, rowX (fixR L m ks)]) := by
  have hZ : (zeroed L ks).length = m + 2 := by rw [zeroed_length, hL]
  have hZs := zeroed_secs (ks := ks) hS
  have gP := plain_ok (zeroed L ks) m none hZs (by omega) (by omega)
  have gS := fixM L (zeroed L ks) X m f ks hX hf hk hZ hZs hm
  unfold fixR
  generalize zeroed L ks = Z at *
  have hz2 : (Z.map secS).length = m + 2 := by rw [List.length_map, hZ]
  rcases hX with rfl | ⟨zs, rfl⟩ <;> cases f <;>
  · refine evC_sound tabOk mixed _ _ _ _ ?_
    conv => whnf
    repeat (first | (refine ⟨(by kernel_rfl : chkR _ _ _ _ = true), ?_⟩; conv => whnf) | (refine EvOr.go ?_; conv => whnf))
    refine ⟨⟨by decide, by omega, by show (m : Int) ≤ ((m + 2 : Nat) : Int); omega, fun _ => ⟨_, _, _, _, _, rfl, by rw [hz2]; omega⟩⟩, fun _ => ?_, fun _ h => absurd h (by decide)⟩
    conv => whnf
    repeat (first | (refine ⟨(by kernel_rfl : chkR _ _ _ _ = true), ?_⟩; conv => whnf) | (refine EvOr.go ?_; conv => whnf))
    refine CallG.use gP c73 [4] [] ?_ ?_ ?_ ?_ ?_ ?_; rfl; rfl; kernel_rfl; rfl; rfl
    conv => whnf
    repeat (refine ⟨(by kernel_rfl : chkR _ _ _ _ = true), ?_⟩; conv => whnf)
    refine EvOr.cut (CodeT.weaken _ (StW.ofP [0, 1, 2, 3, 4, 5, 6] ?_ ?_ ?_) gS)
    · kernel_rfl
    · rfl
    · rfl
theorem fixZ (L : List (List Nat)) (co : Option Nat) (X : Option ABlk) (m : Nat) (f : LF) (ks : List Nat) (hX : X = none ∨ ∃ zs, X = rowRI zs) (hf : f.ok ks.length) (hk : Two ks (m + 2)) (hL : L.length = m + 2) (hS : Secs L) (hm : m ≤ 62) :
    CodeT Try.prog 2 (suf 4 (bodyC Try.f17)) ([.sc (.sl 0 0 64 (m + 2) co), .junk, .junk, .junk, .junk, .junk, .sc (.ptr 2 0 1 0), .sc (f.sv ks.length 3), .junk, .junk, .junk, .junk, .junk, .junk, .junk, .junk, .junk, .junk, .junk, .junk, .junk, .junk, .junk, .junk, .junk, .junk, .junk, .junk, .junk, .junk, .junk, .junk, .junk, .junk, .junk, .junk, .junk, .junk, .junk, .junk, .junk, .junk, .junk, .junk, .junk, .junk, .junk, .junk, .junk, .junk, .junk, .junk, .junk, .junk, .junk, .junk, .junk, .junk, .junk, .junk, .junk, .junk, .junk, .junk, .junk, .junk, .junk, .junk, .junk, .junk, .junk, .junk, .junk, .junk, .junk, .junk, .junk, .junk, .junk, .junk, .junk, .junk, .junk, .junk, .junk, .junk, .junk, .junk, .junk, .junk, .junk, .junk, .junk, .junk, .junk, .junk, .junk, .junk, .junk, .junk, .junk, .junk, .junk, .junk, .junk, .junk, .junk, .junk, .junk, .junk, .junk, .junk, .junk, .junk, .junk, .junk, .junk, .junk, .junk, .junk, .junk, .junk, .junk, .junk, .junk, .junk, .junk, .junk, .junk, .junk, .junk, .junk, .junk, .junk, .junk, .junk, .junk, .junk, .junk, .junk, .junk, .junk, .junk, .junk, .junk, .junk, .junk, .junk, .junk, .junk, .junk, .junk, .junk, .junk, .junk, .junk, .junk, .junk, .junk, .junk, .junk, .junk, .junk, .junk, .junk, .junk, .junk, .junk, .junk, .junk, .junk, .junk, .junk, .junk, .junk, .junk, .junk, .junk, .junk, .junk, .junk, .junk, .junk, .junk, .junk, .junk, .junk, .junk, .junk]) [rowS L, X, boxN (m : Nat), f.blk (kz ks)]
      (retQ Try.prog Try.f17 2 (.tup [.sc (.sl 2 0 64 (m + 2) none), iv 0]) [rowS L, X, rowX (fixR L m ks)]) := by
  have gC := cloneS_ok L co (by omega) (by omega)
  rw [hL] at gC
  have gS := fixZ6 L X m f ks hX hf hk hL hS hm
  have hlt := hk.lt
  have hl2 := hk.len
  have none' : ks = [] → (∀ J, f ≠ .row J) → CodeT Try.prog 2 (suf 4 (bodyC Try.f17)) ([.sc (.sl 0 0 64 (m + 2) co), .junk, .junk, .junk, .junk, .junk, .sc (.ptr 2 0 1 0), .sc (f.sv ks.length 3), .junk, .junk, .junk, .junk, .junk, .junk, .junk, .junk, .junk, .junk, .junk, .junk, .junk, .junk, .junk, .junk, .junk, .junk, .junk, .junk, .junk, .junk, .junk, .junk, .junk, .junk, .junk, .junk, .junk, .junk, .junk, .junk, .junk, .junk, .junk, .junk, .junk, .junk, .junk, .junk, .junk, .junk, .junk, .junk, .junk, .junk, .junk, .junk, .junk, .junk, .junk, .junk, .junk, .junk, .junk, .junk, .junk, .junk, .junk, .junk, .junk, .junk, .junk, .junk, .junk, .junk, .junk, .junk, .junk, .junk, .junk, .junk, .junk, .junk, .junk, .junk, .junk, .junk, .junk, .junk, .junk, .junk, .junk, .junk, .junk, .junk, .junk, .junk, .junk, .junk, .junk, .junk, .junk, .junk, .junk, .junk, .junk, .junk, .junk, .junk, .junk, .junk, .junk, .junk, .junk, .junk, .junk, .junk, .junk, .junk, .junk, .junk, .junk, .junk, .junk, .junk, .junk, .junk, .junk, .junk, .junk, .junk, .junk, .junk, .junk, .junk, .junk, .junk, .junk, .junk, .junk, .junk, .junk, .junk, .junk, .junk, .junk, .junk, .junk, .junk, .junk, .junk, .junk, .junk, .junk, .junk, .junk, .junk, .junk, .junk, .junk, .junk, .junk, .junk, .junk, .junk, .junk, .junk, .junk, .junk, .junk, .junk, .junk, .junk, .junk, .junk, .junk, .junk, .junk, .junk, .junk, .junk, .junk, .junk, .junk, .junk, .junk, .junk, .junk, .junk, .junk]) [rowS L, X, boxN (m : Nat), f.blk (kz ks)]
      (retQ Try.prog Try.f17 2 (.tup [.sc (.sl 2 0 64 (m + 2) none), iv 0]) [rowS L, X, rowX (fixR L m ks)]) := by
    intro h0 hJ
    subst h0
    rcases hX with rfl | ⟨zs, rfl⟩ <;> cases f <;> cases co <;> first | exact absurd rfl (hJ _) | skip
    all_goals
      refine evC_sound tabOk mixed _ _ _ _ ?_
      conv => whnf
      repeat (first | (refine ⟨(by kernel_rfl : chkR _ _ _ _ = true), ?_⟩; conv => whnf) | (refine EvOr.go ?_; conv => whnf))
      refine CallG.use gC c72 [0] [] ?_ ?_ ?_ ?_ ?_ ?_; rfl; rfl; kernel_rfl; rfl; rfl
      conv => whnf
      repeat (first | (refine ⟨(by kernel_rfl : chkR _ _ _ _ = true), ?_⟩; conv => whnf) | (refine EvOr.go ?_; conv => whnf))
      refine CodeS.loop0 tabOk mixed (Nat.le_of_ble_eq_true rfl) ?_
      conv => whnf
      repeat (first | (refine ⟨(by kernel_rfl : chkR _ _ _ _ = true), ?_⟩; conv => whnf) | (refine EvOr.go ?_; conv => whnf))
      intro c hc
      obtain rfl : c = false := by rw [hc]; rfl
      conv => whnf
      refine ⟨(by kernel_rfl : chkR _ _ _ _ = true), ?_⟩
      conv => whnf
      refine EvOr.go ?_
      conv => whnf
      refine EvOr.cut (CodeT.weaken _ (StW.ofP [0, 1, 2, 3, 4] ?_ ?_ ?_) (gS))
      · kernel_rfl
      · rfl
      · rfl
  cases f with
  | nil => exact none' (List.eq_nil_of_length_eq_zero hf) (fun J h => by cases h)
  | ex => exact none' (List.eq_nil_of_length_eq_zero hf) (fun J h => by cases h)
  | row J =>
    clear none'
    obtain ⟨I, hI⟩ : ∃ I, I = fzI L X m J ks := ⟨_, rfl⟩
    rcases hX with rfl | ⟨zs, rfl⟩ <;> cases co <;>
    · refine evC_sound tabOk mixed _ _ _ _ ?_
      conv => whnf
      repeat (first | (refine ⟨(by kernel_rfl : chkR _ _ _ _ = true), ?_⟩; conv => whnf) | (refine EvOr.go ?_; conv => whnf))
      refine CallG.use gC c72 [0] [] ?_ ?_ ?_ ?_ ?_ ?_; rfl; rfl; kernel_rfl; rfl; rfl
      conv => whnf
      repeat (first | (refine ⟨(by kernel_rfl : chkR _ _ _ _ = true), ?_⟩; conv => whnf) | (refine EvOr.go ?_; conv => whnf))
      refine CodeT.loopN tabOk mixed I ks.length _ (StW.ofP [0, 1, 2, 3, 4] ?_ ?_ ?_) (fun k => by subst hI; rfl) ?_
      · subst hI; kernel_rfl
      · subst hI; rfl
      · subst hI; rfl
      intro k hkl
      subst hI
      have hSk : (zeroed L (ks.take k)).length = m + 2 := by rw [zeroed_length, hL]
      show evC Try.prog tab _ _ (fzI L _ m J ks k).1 (fzH L (zeroed L (ks.take k)) _ m (.row J) ks) _
      by_cases hk : k < ks.length
      · have hs : zeroed L (ks.take (k + 1)) = (zeroed L (ks.take k)).set ks[k] zeros := take_succ_foldl (f := fun R i => R.set i zeros) hk
        have hkm := hlt ks[k] (List.getElem_mem _)
        have hg := kz_get (J := J) hk
        generalize zeroed L (ks.take k) = T at *
        generalize ks[k] = i at *
        have hrow := row_at (S := T) (k := i) (by omega)
        conv => whnf
        repeat (first | (refine ⟨(by kernel_rfl : chkR _ _ _ _ = true), ?_⟩; conv => whnf) | (refine EvOr.go ?_; conv => whnf))
        intro c hc
        obtain rfl : c = true := by rw [hc]; exact decide_eq_true (by omega)
        conv => whnf
        repeat (first | (refine ⟨(by kernel_rfl : chkR _ _ _ _ = true), ?_⟩; conv => whnf) | (refine EvOr.go ?_; conv => whnf))
        refine ⟨⟨by omega, by show (k : Int) < (ks.length : Nat); omega⟩, ?_⟩
        conv => whnf
        repeat (first | (refine ⟨(by kernel_rfl : chkR _ _ _ _ = true), ?_⟩; conv => whnf) | (refine EvOr.go ?_; conv => whnf))
        refine ⟨_, hg, ?_⟩
        conv => whnf
        repeat (first | (refine ⟨(by kernel_rfl : chkR _ _ _ _ = true), ?_⟩; conv => whnf) | (refine EvOr.go ?_; conv => whnf))
        refine ⟨⟨by omega, by show (i : Int) < ((m + 2 : Nat) : Int); omega⟩, ?_⟩
        conv => whnf
        repeat (first | (refine ⟨(by kernel_rfl : chkR _ _ _ _ = true), ?_⟩; conv => whnf) | (refine EvOr.go ?_; conv => whnf))
        refine ⟨_, hrow, ?_⟩
        conv => whnf
        repeat (first | (refine ⟨(by kernel_rfl : chkR _ _ _ _ = true), ?_⟩; conv => whnf) | (refine EvOr.go ?_; conv => whnf))
        refine ⟨_, inc_nat (by omega), ?_⟩
        conv => whnf
        repeat (first | (refine ⟨(by kernel_rfl : chkR _ _ _ _ = true), ?_⟩; conv => whnf) | (refine EvOr.go ?_; conv => whnf))
        refine ⟨by omega, _, StW.ofP [0, 1, 2, 3, 4] ?_ ?_ ?_⟩
        · kernel_rfl
        · rfl
        · simp only [fzI, fzH, hs, rowX, row_setS]; rfl
      · obtain rfl : k = ks.length := by omega
        rw [List.take_length]
        conv => whnf
        repeat (first | (refine ⟨(by kernel_rfl : chkR _ _ _ _ = true), ?_⟩; conv => whnf) | (refine EvOr.go ?_; conv => whnf))
        intro c hc
        obtain rfl : c = false := by rw [hc]; exact decide_eq_false (by omega)
        conv => whnf
        refine ⟨(by kernel_rfl : chkR _ _ _ _ = true), ?_⟩
        conv => whnf
        refine EvOr.go ?_
        conv => whnf
        refine EvOr.cut (CodeT.weaken _ (StW.ofP [0, 1, 2, 3, 4] ?_ ?_ ?_) (gS))
        · kernel_rfl
        · rfl
        · rfl
end Go.Proofs.Ytdmcbfmpnakdfaa.Eng
