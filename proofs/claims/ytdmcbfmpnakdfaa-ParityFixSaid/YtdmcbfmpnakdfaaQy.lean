/- ParityFix: lists copied, compared; the law. -/
import Derived.Test.YtdmcbfmpnakdfaaQx
namespace Go.Proofs.Ytdmcbfmpnakdfaa.Eng
open Go Go.Proofs Go.Proofs.Ytdmcbfmpnakdfaa.Gf
set_option maxRecDepth 20000
set_option maxHeartbeats 4000000
theorem c16 : Callable Try.prog 16 := ⟨⟨_, Try.func16, by kernel_rfl, by kernel_rfl⟩⟩
theorem c19 : Callable Try.prog 19 := ⟨⟨_, Try.func19, by kernel_rfl, by kernel_rfl⟩⟩
abbrev rowE : Option ABlk := some (.row .ex 34 64 [] [])
theorem copied_nil : FunT Try.prog 16 [.sc nilS] [] (.sc (.sl 0 0 64 0 (some 0))) [rowE] := by
  refine FunT.ev tabOk mixed Try.func16 rfl ?_
  conv => whnf
  repeat (first | (refine ⟨(by kernel_rfl : chkR _ _ _ _ = true), ?_⟩; conv => whnf) | (refine EvOr.go ?_; conv => whnf))
  intro r hr
  obtain rfl : r = 0 := by rw [hr]; rfl
  conv => whnf
  repeat (first | (refine ⟨(by kernel_rfl : chkR _ _ _ _ = true), ?_⟩; conv => whnf) | (refine EvOr.go ?_; conv => whnf))
  refine ⟨⟨rfl, rfl⟩, ?_⟩
  conv => whnf
  repeat (first | (refine ⟨(by kernel_rfl : chkR _ _ _ _ = true), ?_⟩; conv => whnf) | (refine EvOr.go ?_; conv => whnf))
  refine ⟨Nat.le_refl _, fun _ => ⟨Nat.le_refl _, ?_⟩, fun h => absurd h (by decide)⟩
  conv => whnf
  repeat (first | (refine ⟨(by kernel_rfl : chkR _ _ _ _ = true), ?_⟩; conv => whnf) | (refine EvOr.go ?_; conv => whnf))
  exact retQ.one rfl (.inr rfl) rfl (Nat.le_of_ble_eq_true rfl) rfl
theorem copied_0 (c : Nat) : FunT Try.prog 16 [.sc (.sl 0 0 64 0 (some c))] [rowS []] (.sc (.sl 1 0 64 0 (some 0))) [rowS [], rowE] := by
  refine FunT.ev tabOk mixed Try.func16 rfl ?_
  conv => whnf
  repeat (first | (refine ⟨(by kernel_rfl : chkR _ _ _ _ = true), ?_⟩; conv => whnf) | (refine EvOr.go ?_; conv => whnf))
  intro r hr
  obtain rfl : r = 0 := by rw [hr]; rfl
  conv => whnf
  repeat (first | (refine ⟨(by kernel_rfl : chkR _ _ _ _ = true), ?_⟩; conv => whnf) | (refine EvOr.go ?_; conv => whnf))
  refine ⟨⟨by decide, by decide, by show (0 : Int) ≤ (c : Int); omega, fun h => by cases h⟩, fun _ => ?_, fun _ h => absurd h (by decide)⟩
  conv => whnf
  repeat (first | (refine ⟨(by kernel_rfl : chkR _ _ _ _ = true), ?_⟩; conv => whnf) | (refine EvOr.go ?_; conv => whnf))
  refine ⟨Nat.zero_le _, ?_⟩
  conv => whnf
  repeat (first | (refine ⟨(by kernel_rfl : chkR _ _ _ _ = true), ?_⟩; conv => whnf) | (refine EvOr.go ?_; conv => whnf))
  refine ⟨Nat.le_refl _, fun _ => ⟨Nat.le_refl _, ?_⟩, fun h => absurd h (by decide)⟩
  conv => whnf
  repeat (first | (refine ⟨(by kernel_rfl : chkR _ _ _ _ = true), ?_⟩; conv => whnf) | (refine EvOr.go ?_; conv => whnf))
  exact retQ.one rfl (.inr rfl) rfl (Nat.le_of_ble_eq_true rfl) rfl
theorem copied_row (L : List (List Nat)) (c : Nat) (h0 : 0 < L.length) (hb : L.length ≤ c) : FunT Try.prog 16 [.sc (.sl 0 0 64 L.length (some c))] [rowS L] (.sc (.sl 1 0 64 (min L.length 70) none)) [rowS L, rowX (L.take 70)] := by
  have e : rowX (L.take 70) = some (.row .inx 34 64 (List.take (min L.length 70) (List.drop 0 (L.map secS))) []) := by
    rw [List.drop_zero, ← List.map_take]
    by_cases h : L.length ≤ 70
    · rw [Nat.min_eq_left h, List.take_length, List.take_of_length_le h]
    · rw [Nat.min_eq_right (by omega)]
  rw [e]
  obtain ⟨n, hn⟩ : ∃ n, n = min L.length 70 := ⟨_, rfl⟩
  rw [← hn]
  have hn1 : n ≤ L.length := by omega
  have hn2 : n ≤ 70 := by omega
  have hn3 : 0 < n := by omega
  suffices key : FunT Try.prog 16 [.sc (.sl 0 0 64 L.length (some c))] [rowS L] (.sc (.sl 1 0 64 (0 + n) none)) [rowS L, some (.row .inx 34 64 (List.take n (List.drop 0 (L.map secS))) [])] by rwa [Nat.zero_add] at key
  refine FunT.ev tabOk mixed Try.func16 rfl ?_
  conv => whnf
  repeat (first | (refine ⟨(by kernel_rfl : chkR _ _ _ _ = true), ?_⟩; conv => whnf) | (refine EvOr.go ?_; conv => whnf))
  intro r hr
  obtain rfl : r = (n : Int) := by rw [hr]; split <;> omega
  conv => whnf
  repeat (first | (refine ⟨(by kernel_rfl : chkR _ _ _ _ = true), ?_⟩; conv => whnf) | (refine EvOr.go ?_; conv => whnf))
  refine ⟨⟨by decide, by omega, by show (n : Int) ≤ (c : Int); omega, fun h => by cases h⟩, fun _ => ?_, fun _ h => absurd h (by decide)⟩
  conv => whnf
  repeat (first | (refine ⟨(by kernel_rfl : chkR _ _ _ _ = true), ?_⟩; conv => whnf) | (refine EvOr.go ?_; conv => whnf))
  refine ⟨by show 0 + 0 + ((n : Int) - 0).toNat ≤ (List.map secS L).length; rw [List.length_map]; omega, ?_⟩
  conv => whnf
  repeat (first | (refine ⟨(by kernel_rfl : chkR _ _ _ _ = true), ?_⟩; conv => whnf) | (refine EvOr.go ?_; conv => whnf))
  refine ⟨Nat.le_refl _, fun h => absurd h (by show ¬ n = 0; omega), fun _ => ⟨⟨by show 0 < 0 + n; omega, by show (2 * (0 + n) + 192) * 64 ≤ _; omega⟩, ?_⟩⟩
  conv => whnf
  repeat (first | (refine ⟨(by kernel_rfl : chkR _ _ _ _ = true), ?_⟩; conv => whnf) | (refine EvOr.go ?_; conv => whnf))
  exact retQ.oneS [0, 2] rfl (by first | exact .inr rfl | exact .inl rfl) rfl (by kernel_rfl) (by first | rfl | kernel_rfl)
/-- The document's comparison. -/
theorem sameR_nil : FunT Try.prog 19 [.sc nilS, .sc nilS] [] (bv true) [] := by
  refine FunT.ev tabOk mixed Try.func19 rfl ?_
  conv => whnf
  repeat (first | (refine ⟨(by kernel_rfl : chkR _ _ _ _ = true), ?_⟩; conv => whnf) | (refine EvOr.go ?_; conv => whnf))
  intro c hc
  obtain rfl : c = false := by rw [hc]; rfl
  conv => whnf
  repeat (first | (refine ⟨(by kernel_rfl : chkR _ _ _ _ = true), ?_⟩; conv => whnf) | (refine EvOr.go ?_; conv => whnf))
  refine CodeS.loop0 tabOk mixed (Nat.le_of_ble_eq_true rfl) ?_
  conv => whnf
  repeat (first | (refine ⟨(by kernel_rfl : chkR _ _ _ _ = true), ?_⟩; conv => whnf) | (refine EvOr.go ?_; conv => whnf))
  intro c hc
  obtain rfl : c = false := by rw [hc]; rfl
  conv => whnf
  repeat (first | (refine ⟨(by kernel_rfl : chkR _ _ _ _ = true), ?_⟩; conv => whnf) | (refine EvOr.go ?_; conv => whnf))
  exact retQ.one rfl (.inr rfl) rfl (Nat.le_of_ble_eq_true rfl) rfl
theorem sameR_ok (L : List (List Nat)) (co c2 : Option Nat) (hb : L.length < 2 ^ 32) :
    FunT Try.prog 19 [.sc (.sl 0 0 64 L.length co), .sc (.sl 1 0 64 L.length c2)] [rowS L, rowS L] (bv true) [rowS L, rowS L] := by
  obtain ⟨I, hI⟩ : ∃ I, I = samI L co c2 := ⟨_, rfl⟩
  cases co <;> cases c2 <;>
  · refine FunT.ev tabOk mixed Try.func19 rfl ?_
    conv => whnf
    repeat (first | (refine ⟨(by kernel_rfl : chkR _ _ _ _ = true), ?_⟩; conv => whnf) | (refine EvOr.go ?_; conv => whnf))
    intro c hc
    obtain rfl : c = false := by rw [hc]; simp
    conv => whnf
    repeat (first | (refine ⟨(by kernel_rfl : chkR _ _ _ _ = true), ?_⟩; conv => whnf) | (refine EvOr.go ?_; conv => whnf))
    refine CodeT.loopN tabOk mixed I L.length _ (StW.ofP [0, 1] ?_ ?_ ?_) (fun k => by subst hI; rfl) ?_
    · subst hI; kernel_rfl
    · subst hI; rfl
    · subst hI; rfl
    intro k hkl
    subst hI
    by_cases hk : k < L.length
    · have hg := sec_get hk
      conv => whnf
      repeat (first | (refine ⟨(by kernel_rfl : chkR _ _ _ _ = true), ?_⟩; conv => whnf) | (refine EvOr.go ?_; conv => whnf))
      intro c hc
      obtain rfl : c = true := by rw [hc]; exact decide_eq_true (by omega)
      conv => whnf
      repeat (first | (refine ⟨(by kernel_rfl : chkR _ _ _ _ = true), ?_⟩; conv => whnf) | (refine EvOr.go ?_; conv => whnf))
      refine ⟨⟨by omega, by omega⟩, ?_⟩
      conv => whnf
      repeat (first | (refine ⟨(by kernel_rfl : chkR _ _ _ _ = true), ?_⟩; conv => whnf) | (refine EvOr.go ?_; conv => whnf))
      refine ⟨_, hg, ?_⟩
      conv => whnf
      repeat (first | (refine ⟨(by kernel_rfl : chkR _ _ _ _ = true), ?_⟩; conv => whnf) | (refine EvOr.go ?_; conv => whnf))
      refine ⟨⟨by omega, by omega⟩, ?_⟩
      conv => whnf
      repeat (first | (refine ⟨(by kernel_rfl : chkR _ _ _ _ = true), ?_⟩; conv => whnf) | (refine EvOr.go ?_; conv => whnf))
      refine ⟨_, hg, ?_⟩
      conv => whnf
      repeat (first | (refine ⟨(by kernel_rfl : chkR _ _ _ _ = true), ?_⟩; conv => whnf) | (refine EvOr.go ?_; conv => whnf))
      refine ⟨rfl, ?_⟩
      refine ⟨eq34, ?_⟩
      conv => whnf
      repeat (first | (refine ⟨(by kernel_rfl : chkR _ _ _ _ = true), ?_⟩; conv => whnf) | (refine EvOr.go ?_; conv => whnf))
      intro c hc
      obtain rfl : c = false := by
        cases c
        · rfl
        · exact absurd rfl (hc.1 rfl)
      conv => whnf
      repeat (first | (refine ⟨(by kernel_rfl : chkR _ _ _ _ = true), ?_⟩; conv => whnf) | (refine EvOr.go ?_; conv => whnf))
      refine ⟨_, inc_nat (by omega), ?_⟩
      conv => whnf
      repeat (first | (refine ⟨(by kernel_rfl : chkR _ _ _ _ = true), ?_⟩; conv => whnf) | (refine EvOr.go ?_; conv => whnf))
      refine ⟨by first | exact hk | omega, _, StW.ofP [0, 1] ?_ ?_ ?_⟩
      · kernel_rfl
      · rfl
      · rfl
    · obtain rfl : k = L.length := by omega
      conv => whnf
      repeat (first | (refine ⟨(by kernel_rfl : chkR _ _ _ _ = true), ?_⟩; conv => whnf) | (refine EvOr.go ?_; conv => whnf))
      intro c hc
      obtain rfl : c = false := by rw [hc]; exact decide_eq_false (by omega)
      conv => whnf
      repeat (first | (refine ⟨(by kernel_rfl : chkR _ _ _ _ = true), ?_⟩; conv => whnf) | (refine EvOr.go ?_; conv => whnf))
      exact retQ.one rfl (.inr rfl) rfl (Nat.le_of_ble_eq_true rfl) rfl
theorem fixMid_length {Z : List (List Nat)} {m : Nat} {ks : List Nat} : (fixMid Z m ks).length = Z.length := by
  unfold fixMid
  split
  · split <;> simp
  · split
    · simp
    · split
      · split <;> simp
      · rfl
  · rfl
theorem fixR_length {L : List (List Nat)} {m : Nat} {ks : List Nat} : (fixR L m ks).length = L.length := by
  unfold fixR fixEnd
  rw [foldl_len (fun _ _ => endOne_length), fixMid_length, zeroed_length]
/-- How the columns come, and their copy. -/
def ColsAt (v : SV) (B : Option ABlk) (K : List (List Nat)) (co : Option Nat) (A : Option ABlk) : Prop :=
  (v = nilS ∧ B = none ∧ K = [] ∧ co = some 0 ∧ A = rowE) ∨ (∃ c, v = .sl 0 0 64 0 (some c) ∧ B = rowS [] ∧ K = [] ∧ co = some 0 ∧ A = rowE) ∨
  ∃ L c, v = .sl 0 0 64 L.length (some c) ∧ B = rowS L ∧ 0 < L.length ∧ L.length ≤ c ∧ K = L.take 70 ∧ co = none ∧ A = rowX K
theorem copied_at {v : SV} {B : Option ABlk} {K : List (List Nat)} {co : Option Nat} {A : Option ABlk} (h : ColsAt v B K co A) :
    FunT Try.prog 16 [.sc v] [B] (.sc (.sl 1 0 64 K.length co)) [B, A] := by
  rcases h with ⟨rfl, rfl, rfl, rfl, rfl⟩ | ⟨c, rfl, rfl, rfl, rfl, rfl⟩ | ⟨L, c, rfl, rfl, h0, h1, rfl, rfl, rfl⟩
  · refine FunT.ev tabOk mixed Try.func16 rfl ?_
    conv => whnf
    repeat (first | (refine ⟨(by kernel_rfl : chkR _ _ _ _ = true), ?_⟩; conv => whnf) | (refine EvOr.go ?_; conv => whnf))
    intro r hr
    obtain rfl : r = 0 := by rw [hr]; rfl
    conv => whnf
    repeat (first | (refine ⟨(by kernel_rfl : chkR _ _ _ _ = true), ?_⟩; conv => whnf) | (refine EvOr.go ?_; conv => whnf))
    refine ⟨⟨rfl, rfl⟩, ?_⟩
    conv => whnf
    repeat (first | (refine ⟨(by kernel_rfl : chkR _ _ _ _ = true), ?_⟩; conv => whnf) | (refine EvOr.go ?_; conv => whnf))
    refine ⟨Nat.le_refl _, fun _ => ⟨Nat.le_refl _, ?_⟩, fun h => absurd h (by decide)⟩
    conv => whnf
    repeat (first | (refine ⟨(by kernel_rfl : chkR _ _ _ _ = true), ?_⟩; conv => whnf) | (refine EvOr.go ?_; conv => whnf))
    exact retQ.one rfl (.inr rfl) rfl (Nat.le_of_ble_eq_true rfl) rfl
  · exact copied_0 c
  · have := copied_row L c h0 h1
    rwa [show min L.length 70 = (L.take 70).length by rw [List.length_take]; omega] at this
/-- How the numbers of the lost come: n of them, the first five. -/
def LostAt (w : SV) (W : Option ABlk) (l : List Int) : Prop :=
  (w = nilS ∧ W = none ∧ l = []) ∨ ∃ n c zs, w = .sl 1 0 1 n (some c) ∧ W = rowRI zs ∧ zs.length = min n 5 ∧ n ≤ c ∧ l = unl zs
theorem unl_nil : unl [] = [] := by
  have := unl_le []
  exact List.eq_nil_of_length_eq_zero (by simpa using this)
theorem fix_any (L : List (List Nat)) (N : Nat) (co c2 : Option Nat) (zs : List Int) (hL : L.length = N) (hS : Secs L) (hN : N < 2 ^ 32) (hb : zs.length < 2 ^ 30) :
    FunT Try.prog 17 [.sc (.sl 0 0 64 N co), .sc (.sl 1 0 1 zs.length c2)] [rowS L, rowRI zs] (fixV L N (unl zs) 2) [rowS L, rowRI zs, fixB L N (unl zs)] := by
  by_cases h : 0 < zs.length
  · exact fix_row L N co c2 zs hL hS hN h (by omega)
  · obtain rfl : zs = [] := List.eq_nil_of_length_eq_zero (by omega)
    rw [unl_nil]
    exact fix_0 L N co c2 hL hS hN
theorem parityFix_ok (v w : SV) (B W : Option ABlk) (K : List (List Nat)) (co : Option Nat) (A : Option ABlk) (l : List Int) (hv : ColsAt v B K co A) (hw : LostAt w W l) (hS : Secs K) (hK : K.length ≤ 70) :
    FunT Try.prog 3 [.sc v, .sc w] [B, W] (bv true) [B, W] := by
  have gC := copied_at hv
  have gW := works_ok
  have gA := sameR_ok K co co (by omega)
  have hR := fixR_length (L := K) (m := K.length - 2) (ks := l.map Int.toNat)
  have gX := sameR_ok (fixR K (K.length - 2) (l.map Int.toNat)) none none (by rw [hR]; omega)
  rw [hR] at gX
  have gN := sameR_nil
  clear hR
  rcases hw with ⟨rfl, rfl, rfl⟩ | ⟨n, c2, zs, rfl, rfl, hz, hn, rfl⟩
  · have gF := fix_nil K K.length co rfl hS (by omega)
    have gR := refFix_nil K K.length co rfl hS (by omega)
    unfold fixV fixB at gF gR
    by_cases hE : fixE K.length [] = 0
    · simp only [if_pos hE] at gF gR
      generalize fixR K (K.length - 2) (List.map Int.toNat []) = R at *
      rcases hv with ⟨rfl, rfl, rfl, rfl, rfl⟩ | ⟨c, rfl, rfl, rfl, rfl, rfl⟩ | ⟨L, c, rfl, rfl, h0, h1, rfl, rfl, rfl⟩
      · exact absurd hE (by show ¬ (2 : Int) = 0; decide)
      · exact absurd hE (by show ¬ (2 : Int) = 0; decide)
      · generalize L.take 70 = K at *
        refine FunT.ev tabOk mixed Try.func3 rfl ?_
        conv => whnf
        repeat (first | (refine ⟨(by kernel_rfl : chkR _ _ _ _ = true), ?_⟩; conv => whnf) | (refine EvOr.go ?_; conv => whnf))
        intro r hr
        obtain rfl : r = 0 := by rw [hr]; rfl
        conv => whnf
        repeat (first | (refine ⟨(by kernel_rfl : chkR _ _ _ _ = true), ?_⟩; conv => whnf) | (refine EvOr.go ?_; conv => whnf))
        refine ⟨⟨rfl, rfl⟩, ?_⟩
        conv => whnf
        repeat (first | (refine ⟨(by kernel_rfl : chkR _ _ _ _ = true), ?_⟩; conv => whnf) | (refine EvOr.go ?_; conv => whnf))
        refine CallG.use gC c16 [0] [] ?_ ?_ ?_ ?_ ?_ ?_; rfl; rfl; kernel_rfl; rfl; rfl
        conv => whnf
        repeat (first | (refine ⟨(by kernel_rfl : chkR _ _ _ _ = true), ?_⟩; conv => whnf) | (refine EvOr.go ?_; conv => whnf))
        refine CallG.use gF c17 [2, 1] [] ?_ ?_ ?_ ?_ ?_ ?_; rfl; rfl; kernel_rfl; rfl; rfl
        conv => whnf
        repeat (first | (refine ⟨(by kernel_rfl : chkR _ _ _ _ = true), ?_⟩; conv => whnf) | (refine EvOr.go ?_; conv => whnf))
        refine CallG.use gC c16 [0] [] ?_ ?_ ?_ ?_ ?_ ?_; rfl; rfl; kernel_rfl; rfl; rfl
        conv => whnf
        repeat (first | (refine ⟨(by kernel_rfl : chkR _ _ _ _ = true), ?_⟩; conv => whnf) | (refine EvOr.go ?_; conv => whnf))
        refine CallG.use gR c18 [4, 1] [] ?_ ?_ ?_ ?_ ?_ ?_; rfl; rfl; kernel_rfl; rfl; rfl
        conv => whnf
        repeat (first | (refine ⟨(by kernel_rfl : chkR _ _ _ _ = true), ?_⟩; conv => whnf) | (refine EvOr.go ?_; conv => whnf))
        intro c hc
        obtain rfl : c = true := by rw [hc]; simp
        conv => whnf
        repeat (first | (refine ⟨(by kernel_rfl : chkR _ _ _ _ = true), ?_⟩; conv => whnf) | (refine EvOr.go ?_; conv => whnf))
        refine CallG.use gX c19 [3, 5] [] ?_ ?_ ?_ ?_ ?_ ?_; rfl; rfl; kernel_rfl; rfl; rfl
        conv => whnf
        repeat (first | (refine ⟨(by kernel_rfl : chkR _ _ _ _ = true), ?_⟩; conv => whnf) | (refine EvOr.go ?_; conv => whnf))
        refine CallG.use gC c16 [0] [] ?_ ?_ ?_ ?_ ?_ ?_; rfl; rfl; kernel_rfl; rfl; rfl
        conv => whnf
        repeat (first | (refine ⟨(by kernel_rfl : chkR _ _ _ _ = true), ?_⟩; conv => whnf) | (refine EvOr.go ?_; conv => whnf))
        refine CallG.use gA c19 [2, 6] [] ?_ ?_ ?_ ?_ ?_ ?_; rfl; rfl; kernel_rfl; rfl; rfl
        conv => whnf
        repeat (first | (refine ⟨(by kernel_rfl : chkR _ _ _ _ = true), ?_⟩; conv => whnf) | (refine EvOr.go ?_; conv => whnf))
        refine CallG.use gW c20 [] [] ?_ ?_ ?_ ?_ ?_ ?_; rfl; rfl; kernel_rfl; rfl; rfl
        conv => whnf
        repeat (first | (refine ⟨(by kernel_rfl : chkR _ _ _ _ = true), ?_⟩; conv => whnf) | (refine EvOr.go ?_; conv => whnf))
        exact retQ.oneS [0, 1] rfl (by first | exact .inr rfl | exact .inl rfl) rfl (by kernel_rfl) (by first | rfl | kernel_rfl)
    · simp only [if_neg hE] at gF gR
      generalize fixE K.length [] = e at *
      clear gX hE
      rcases hv with ⟨rfl, rfl, rfl, rfl, rfl⟩ | ⟨c, rfl, rfl, rfl, rfl, rfl⟩ | ⟨L, c, rfl, rfl, h0, h1, rfl, rfl, rfl⟩
      · refine FunT.ev tabOk mixed Try.func3 rfl ?_
        conv => whnf
        repeat (first | (refine ⟨(by kernel_rfl : chkR _ _ _ _ = true), ?_⟩; conv => whnf) | (refine EvOr.go ?_; conv => whnf))
        intro r hr
        obtain rfl : r = 0 := by rw [hr]; rfl
        conv => whnf
        repeat (first | (refine ⟨(by kernel_rfl : chkR _ _ _ _ = true), ?_⟩; conv => whnf) | (refine EvOr.go ?_; conv => whnf))
        refine ⟨⟨rfl, rfl⟩, ?_⟩
        conv => whnf
        repeat (first | (refine ⟨(by kernel_rfl : chkR _ _ _ _ = true), ?_⟩; conv => whnf) | (refine EvOr.go ?_; conv => whnf))
        refine CallG.use gC c16 [0] [] ?_ ?_ ?_ ?_ ?_ ?_; rfl; rfl; kernel_rfl; rfl; rfl
        conv => whnf
        repeat (first | (refine ⟨(by kernel_rfl : chkR _ _ _ _ = true), ?_⟩; conv => whnf) | (refine EvOr.go ?_; conv => whnf))
        refine CallG.use gF c17 [2, 1] [] ?_ ?_ ?_ ?_ ?_ ?_; rfl; rfl; kernel_rfl; rfl; rfl
        conv => whnf
        repeat (first | (refine ⟨(by kernel_rfl : chkR _ _ _ _ = true), ?_⟩; conv => whnf) | (refine EvOr.go ?_; conv => whnf))
        refine CallG.use gC c16 [0] [] ?_ ?_ ?_ ?_ ?_ ?_; rfl; rfl; kernel_rfl; rfl; rfl
        conv => whnf
        repeat (first | (refine ⟨(by kernel_rfl : chkR _ _ _ _ = true), ?_⟩; conv => whnf) | (refine EvOr.go ?_; conv => whnf))
        refine CallG.use gR c18 [4, 1] [] ?_ ?_ ?_ ?_ ?_ ?_; rfl; rfl; kernel_rfl; rfl; rfl
        conv => whnf
        repeat (first | (refine ⟨(by kernel_rfl : chkR _ _ _ _ = true), ?_⟩; conv => whnf) | (refine EvOr.go ?_; conv => whnf))
        intro c hc
        obtain rfl : c = true := by rw [hc]; simp
        conv => whnf
        repeat (first | (refine ⟨(by kernel_rfl : chkR _ _ _ _ = true), ?_⟩; conv => whnf) | (refine EvOr.go ?_; conv => whnf))
        refine CallG.use gN c19 [] [] ?_ ?_ ?_ ?_ ?_ ?_; rfl; rfl; kernel_rfl; rfl; rfl
        conv => whnf
        repeat (first | (refine ⟨(by kernel_rfl : chkR _ _ _ _ = true), ?_⟩; conv => whnf) | (refine EvOr.go ?_; conv => whnf))
        refine CallG.use gC c16 [0] [] ?_ ?_ ?_ ?_ ?_ ?_; rfl; rfl; kernel_rfl; rfl; rfl
        conv => whnf
        repeat (first | (refine ⟨(by kernel_rfl : chkR _ _ _ _ = true), ?_⟩; conv => whnf) | (refine EvOr.go ?_; conv => whnf))
        refine CallG.use gA c19 [2, 6] [] ?_ ?_ ?_ ?_ ?_ ?_; rfl; rfl; kernel_rfl; rfl; rfl
        conv => whnf
        repeat (first | (refine ⟨(by kernel_rfl : chkR _ _ _ _ = true), ?_⟩; conv => whnf) | (refine EvOr.go ?_; conv => whnf))
        refine CallG.use gW c20 [] [] ?_ ?_ ?_ ?_ ?_ ?_; rfl; rfl; kernel_rfl; rfl; rfl
        conv => whnf
        repeat (first | (refine ⟨(by kernel_rfl : chkR _ _ _ _ = true), ?_⟩; conv => whnf) | (refine EvOr.go ?_; conv => whnf))
        exact retQ.oneS [0, 1] rfl (by first | exact .inr rfl | exact .inl rfl) rfl (by kernel_rfl) (by first | rfl | kernel_rfl)
      · refine FunT.ev tabOk mixed Try.func3 rfl ?_
        conv => whnf
        repeat (first | (refine ⟨(by kernel_rfl : chkR _ _ _ _ = true), ?_⟩; conv => whnf) | (refine EvOr.go ?_; conv => whnf))
        intro r hr
        obtain rfl : r = 0 := by rw [hr]; rfl
        conv => whnf
        repeat (first | (refine ⟨(by kernel_rfl : chkR _ _ _ _ = true), ?_⟩; conv => whnf) | (refine EvOr.go ?_; conv => whnf))
        refine ⟨⟨rfl, rfl⟩, ?_⟩
        conv => whnf
        repeat (first | (refine ⟨(by kernel_rfl : chkR _ _ _ _ = true), ?_⟩; conv => whnf) | (refine EvOr.go ?_; conv => whnf))
        refine CallG.use gC c16 [0] [] ?_ ?_ ?_ ?_ ?_ ?_; rfl; rfl; kernel_rfl; rfl; rfl
        conv => whnf
        repeat (first | (refine ⟨(by kernel_rfl : chkR _ _ _ _ = true), ?_⟩; conv => whnf) | (refine EvOr.go ?_; conv => whnf))
        refine CallG.use gF c17 [2, 1] [] ?_ ?_ ?_ ?_ ?_ ?_; rfl; rfl; kernel_rfl; rfl; rfl
        conv => whnf
        repeat (first | (refine ⟨(by kernel_rfl : chkR _ _ _ _ = true), ?_⟩; conv => whnf) | (refine EvOr.go ?_; conv => whnf))
        refine CallG.use gC c16 [0] [] ?_ ?_ ?_ ?_ ?_ ?_; rfl; rfl; kernel_rfl; rfl; rfl
        conv => whnf
        repeat (first | (refine ⟨(by kernel_rfl : chkR _ _ _ _ = true), ?_⟩; conv => whnf) | (refine EvOr.go ?_; conv => whnf))
        refine CallG.use gR c18 [4, 1] [] ?_ ?_ ?_ ?_ ?_ ?_; rfl; rfl; kernel_rfl; rfl; rfl
        conv => whnf
        repeat (first | (refine ⟨(by kernel_rfl : chkR _ _ _ _ = true), ?_⟩; conv => whnf) | (refine EvOr.go ?_; conv => whnf))
        intro c hc
        obtain rfl : c = true := by rw [hc]; simp
        conv => whnf
        repeat (first | (refine ⟨(by kernel_rfl : chkR _ _ _ _ = true), ?_⟩; conv => whnf) | (refine EvOr.go ?_; conv => whnf))
        refine CallG.use gN c19 [] [] ?_ ?_ ?_ ?_ ?_ ?_; rfl; rfl; kernel_rfl; rfl; rfl
        conv => whnf
        repeat (first | (refine ⟨(by kernel_rfl : chkR _ _ _ _ = true), ?_⟩; conv => whnf) | (refine EvOr.go ?_; conv => whnf))
        refine CallG.use gC c16 [0] [] ?_ ?_ ?_ ?_ ?_ ?_; rfl; rfl; kernel_rfl; rfl; rfl
        conv => whnf
        repeat (first | (refine ⟨(by kernel_rfl : chkR _ _ _ _ = true), ?_⟩; conv => whnf) | (refine EvOr.go ?_; conv => whnf))
        refine CallG.use gA c19 [2, 6] [] ?_ ?_ ?_ ?_ ?_ ?_; rfl; rfl; kernel_rfl; rfl; rfl
        conv => whnf
        repeat (first | (refine ⟨(by kernel_rfl : chkR _ _ _ _ = true), ?_⟩; conv => whnf) | (refine EvOr.go ?_; conv => whnf))
        refine CallG.use gW c20 [] [] ?_ ?_ ?_ ?_ ?_ ?_; rfl; rfl; kernel_rfl; rfl; rfl
        conv => whnf
        repeat (first | (refine ⟨(by kernel_rfl : chkR _ _ _ _ = true), ?_⟩; conv => whnf) | (refine EvOr.go ?_; conv => whnf))
        exact retQ.oneS [0, 1] rfl (by first | exact .inr rfl | exact .inl rfl) rfl (by kernel_rfl) (by first | rfl | kernel_rfl)
      · generalize L.take 70 = K at *
        refine FunT.ev tabOk mixed Try.func3 rfl ?_
        conv => whnf
        repeat (first | (refine ⟨(by kernel_rfl : chkR _ _ _ _ = true), ?_⟩; conv => whnf) | (refine EvOr.go ?_; conv => whnf))
        intro r hr
        obtain rfl : r = 0 := by rw [hr]; rfl
        conv => whnf
        repeat (first | (refine ⟨(by kernel_rfl : chkR _ _ _ _ = true), ?_⟩; conv => whnf) | (refine EvOr.go ?_; conv => whnf))
        refine ⟨⟨rfl, rfl⟩, ?_⟩
        conv => whnf
        repeat (first | (refine ⟨(by kernel_rfl : chkR _ _ _ _ = true), ?_⟩; conv => whnf) | (refine EvOr.go ?_; conv => whnf))
        refine CallG.use gC c16 [0] [] ?_ ?_ ?_ ?_ ?_ ?_; rfl; rfl; kernel_rfl; rfl; rfl
        conv => whnf
        repeat (first | (refine ⟨(by kernel_rfl : chkR _ _ _ _ = true), ?_⟩; conv => whnf) | (refine EvOr.go ?_; conv => whnf))
        refine CallG.use gF c17 [2, 1] [] ?_ ?_ ?_ ?_ ?_ ?_; rfl; rfl; kernel_rfl; rfl; rfl
        conv => whnf
        repeat (first | (refine ⟨(by kernel_rfl : chkR _ _ _ _ = true), ?_⟩; conv => whnf) | (refine EvOr.go ?_; conv => whnf))
        refine CallG.use gC c16 [0] [] ?_ ?_ ?_ ?_ ?_ ?_; rfl; rfl; kernel_rfl; rfl; rfl
        conv => whnf
        repeat (first | (refine ⟨(by kernel_rfl : chkR _ _ _ _ = true), ?_⟩; conv => whnf) | (refine EvOr.go ?_; conv => whnf))
        refine CallG.use gR c18 [4, 1] [] ?_ ?_ ?_ ?_ ?_ ?_; rfl; rfl; kernel_rfl; rfl; rfl
        conv => whnf
        repeat (first | (refine ⟨(by kernel_rfl : chkR _ _ _ _ = true), ?_⟩; conv => whnf) | (refine EvOr.go ?_; conv => whnf))
        intro c hc
        obtain rfl : c = true := by rw [hc]; simp
        conv => whnf
        repeat (first | (refine ⟨(by kernel_rfl : chkR _ _ _ _ = true), ?_⟩; conv => whnf) | (refine EvOr.go ?_; conv => whnf))
        refine CallG.use gN c19 [] [] ?_ ?_ ?_ ?_ ?_ ?_; rfl; rfl; kernel_rfl; rfl; rfl
        conv => whnf
        repeat (first | (refine ⟨(by kernel_rfl : chkR _ _ _ _ = true), ?_⟩; conv => whnf) | (refine EvOr.go ?_; conv => whnf))
        refine CallG.use gC c16 [0] [] ?_ ?_ ?_ ?_ ?_ ?_; rfl; rfl; kernel_rfl; rfl; rfl
        conv => whnf
        repeat (first | (refine ⟨(by kernel_rfl : chkR _ _ _ _ = true), ?_⟩; conv => whnf) | (refine EvOr.go ?_; conv => whnf))
        refine CallG.use gA c19 [2, 6] [] ?_ ?_ ?_ ?_ ?_ ?_; rfl; rfl; kernel_rfl; rfl; rfl
        conv => whnf
        repeat (first | (refine ⟨(by kernel_rfl : chkR _ _ _ _ = true), ?_⟩; conv => whnf) | (refine EvOr.go ?_; conv => whnf))
        refine CallG.use gW c20 [] [] ?_ ?_ ?_ ?_ ?_ ?_; rfl; rfl; kernel_rfl; rfl; rfl
        conv => whnf
        repeat (first | (refine ⟨(by kernel_rfl : chkR _ _ _ _ = true), ?_⟩; conv => whnf) | (refine EvOr.go ?_; conv => whnf))
        exact retQ.oneS [0, 1] rfl (by first | exact .inr rfl | exact .inl rfl) rfl (by kernel_rfl) (by first | rfl | kernel_rfl)
  · have gF := fix_any K K.length co (some (c2 - 0)) zs rfl hS (by omega) (by omega)
    have gR := refFix_row K K.length co (some (c2 - 0)) zs rfl hS (by omega) (by omega)
    unfold fixV fixB at gF gR
    by_cases hE : fixE K.length (unl zs) = 0
    · simp only [if_pos hE] at gF gR
      generalize fixR K (K.length - 2) (List.map Int.toNat (unl zs)) = R at *
      rcases hv with ⟨rfl, rfl, rfl, rfl, rfl⟩ | ⟨c, rfl, rfl, rfl, rfl, rfl⟩ | ⟨L, c, rfl, rfl, h0, h1, rfl, rfl, rfl⟩
      · exact absurd hE (by show ¬ (2 : Int) = 0; decide)
      · exact absurd hE (by show ¬ (2 : Int) = 0; decide)
      · generalize L.take 70 = K at *
        refine FunT.ev tabOk mixed Try.func3 rfl ?_
        conv => whnf
        repeat (first | (refine ⟨(by kernel_rfl : chkR _ _ _ _ = true), ?_⟩; conv => whnf) | (refine EvOr.go ?_; conv => whnf))
        intro r hr
        obtain rfl : r = ((zs.length : Nat) : Int) := by rw [hr, hz]; split <;> omega
        conv => whnf
        repeat (first | (refine ⟨(by kernel_rfl : chkR _ _ _ _ = true), ?_⟩; conv => whnf) | (refine EvOr.go ?_; conv => whnf))
        refine ⟨⟨by decide, by omega, by show ((zs.length : Nat) : Int) ≤ (c2 : Int); omega, fun h => by cases h⟩, fun _ => ?_, fun _ h => absurd h (by decide)⟩
        conv => whnf
        repeat (first | (refine ⟨(by kernel_rfl : chkR _ _ _ _ = true), ?_⟩; conv => whnf) | (refine EvOr.go ?_; conv => whnf))
        refine CallG.use gC c16 [0] [] ?_ ?_ ?_ ?_ ?_ ?_; rfl; rfl; kernel_rfl; rfl; rfl
        conv => whnf
        repeat (first | (refine ⟨(by kernel_rfl : chkR _ _ _ _ = true), ?_⟩; conv => whnf) | (refine EvOr.go ?_; conv => whnf))
        refine CallG.use gF c17 [2, 1] [] ?_ ?_ ?_ ?_ ?_ ?_; rfl; rfl; kernel_rfl; rfl; rfl
        conv => whnf
        repeat (first | (refine ⟨(by kernel_rfl : chkR _ _ _ _ = true), ?_⟩; conv => whnf) | (refine EvOr.go ?_; conv => whnf))
        refine CallG.use gC c16 [0] [] ?_ ?_ ?_ ?_ ?_ ?_; rfl; rfl; kernel_rfl; rfl; rfl
        conv => whnf
        repeat (first | (refine ⟨(by kernel_rfl : chkR _ _ _ _ = true), ?_⟩; conv => whnf) | (refine EvOr.go ?_; conv => whnf))
        refine CallG.use gR c18 [4, 1] [] ?_ ?_ ?_ ?_ ?_ ?_; rfl; rfl; kernel_rfl; rfl; rfl
        conv => whnf
        repeat (first | (refine ⟨(by kernel_rfl : chkR _ _ _ _ = true), ?_⟩; conv => whnf) | (refine EvOr.go ?_; conv => whnf))
        intro c hc
        obtain rfl : c = true := by rw [hc]; simp
        conv => whnf
        repeat (first | (refine ⟨(by kernel_rfl : chkR _ _ _ _ = true), ?_⟩; conv => whnf) | (refine EvOr.go ?_; conv => whnf))
        refine CallG.use gX c19 [3, 5] [] ?_ ?_ ?_ ?_ ?_ ?_; rfl; rfl; kernel_rfl; rfl; rfl
        conv => whnf
        repeat (first | (refine ⟨(by kernel_rfl : chkR _ _ _ _ = true), ?_⟩; conv => whnf) | (refine EvOr.go ?_; conv => whnf))
        refine CallG.use gC c16 [0] [] ?_ ?_ ?_ ?_ ?_ ?_; rfl; rfl; kernel_rfl; rfl; rfl
        conv => whnf
        repeat (first | (refine ⟨(by kernel_rfl : chkR _ _ _ _ = true), ?_⟩; conv => whnf) | (refine EvOr.go ?_; conv => whnf))
        refine CallG.use gA c19 [2, 6] [] ?_ ?_ ?_ ?_ ?_ ?_; rfl; rfl; kernel_rfl; rfl; rfl
        conv => whnf
        repeat (first | (refine ⟨(by kernel_rfl : chkR _ _ _ _ = true), ?_⟩; conv => whnf) | (refine EvOr.go ?_; conv => whnf))
        refine CallG.use gW c20 [] [] ?_ ?_ ?_ ?_ ?_ ?_; rfl; rfl; kernel_rfl; rfl; rfl
        conv => whnf
        repeat (first | (refine ⟨(by kernel_rfl : chkR _ _ _ _ = true), ?_⟩; conv => whnf) | (refine EvOr.go ?_; conv => whnf))
        exact retQ.oneS [0, 1] rfl (by first | exact .inr rfl | exact .inl rfl) rfl (by kernel_rfl) (by first | rfl | kernel_rfl)
    · simp only [if_neg hE] at gF gR
      generalize fixE K.length (unl zs) = e at *
      clear gX hE
      rcases hv with ⟨rfl, rfl, rfl, rfl, rfl⟩ | ⟨c, rfl, rfl, rfl, rfl, rfl⟩ | ⟨L, c, rfl, rfl, h0, h1, rfl, rfl, rfl⟩
      · refine FunT.ev tabOk mixed Try.func3 rfl ?_
        conv => whnf
        repeat (first | (refine ⟨(by kernel_rfl : chkR _ _ _ _ = true), ?_⟩; conv => whnf) | (refine EvOr.go ?_; conv => whnf))
        intro r hr
        obtain rfl : r = ((zs.length : Nat) : Int) := by rw [hr, hz]; split <;> omega
        conv => whnf
        repeat (first | (refine ⟨(by kernel_rfl : chkR _ _ _ _ = true), ?_⟩; conv => whnf) | (refine EvOr.go ?_; conv => whnf))
        refine ⟨⟨by decide, by omega, by show ((zs.length : Nat) : Int) ≤ (c2 : Int); omega, fun h => by cases h⟩, fun _ => ?_, fun _ h => absurd h (by decide)⟩
        conv => whnf
        repeat (first | (refine ⟨(by kernel_rfl : chkR _ _ _ _ = true), ?_⟩; conv => whnf) | (refine EvOr.go ?_; conv => whnf))
        refine CallG.use gC c16 [0] [] ?_ ?_ ?_ ?_ ?_ ?_; rfl; rfl; kernel_rfl; rfl; rfl
        conv => whnf
        repeat (first | (refine ⟨(by kernel_rfl : chkR _ _ _ _ = true), ?_⟩; conv => whnf) | (refine EvOr.go ?_; conv => whnf))
        refine CallG.use gF c17 [2, 1] [] ?_ ?_ ?_ ?_ ?_ ?_; rfl; rfl; kernel_rfl; rfl; rfl
        conv => whnf
        repeat (first | (refine ⟨(by kernel_rfl : chkR _ _ _ _ = true), ?_⟩; conv => whnf) | (refine EvOr.go ?_; conv => whnf))
        refine CallG.use gC c16 [0] [] ?_ ?_ ?_ ?_ ?_ ?_; rfl; rfl; kernel_rfl; rfl; rfl
        conv => whnf
        repeat (first | (refine ⟨(by kernel_rfl : chkR _ _ _ _ = true), ?_⟩; conv => whnf) | (refine EvOr.go ?_; conv => whnf))
        refine CallG.use gR c18 [4, 1] [] ?_ ?_ ?_ ?_ ?_ ?_; rfl; rfl; kernel_rfl; rfl; rfl
        conv => whnf
        repeat (first | (refine ⟨(by kernel_rfl : chkR _ _ _ _ = true), ?_⟩; conv => whnf) | (refine EvOr.go ?_; conv => whnf))
        intro c hc
        obtain rfl : c = true := by rw [hc]; simp
        conv => whnf
        repeat (first | (refine ⟨(by kernel_rfl : chkR _ _ _ _ = true), ?_⟩; conv => whnf) | (refine EvOr.go ?_; conv => whnf))
        refine CallG.use gN c19 [] [] ?_ ?_ ?_ ?_ ?_ ?_; rfl; rfl; kernel_rfl; rfl; rfl
        conv => whnf
        repeat (first | (refine ⟨(by kernel_rfl : chkR _ _ _ _ = true), ?_⟩; conv => whnf) | (refine EvOr.go ?_; conv => whnf))
        refine CallG.use gC c16 [0] [] ?_ ?_ ?_ ?_ ?_ ?_; rfl; rfl; kernel_rfl; rfl; rfl
        conv => whnf
        repeat (first | (refine ⟨(by kernel_rfl : chkR _ _ _ _ = true), ?_⟩; conv => whnf) | (refine EvOr.go ?_; conv => whnf))
        refine CallG.use gA c19 [2, 6] [] ?_ ?_ ?_ ?_ ?_ ?_; rfl; rfl; kernel_rfl; rfl; rfl
        conv => whnf
        repeat (first | (refine ⟨(by kernel_rfl : chkR _ _ _ _ = true), ?_⟩; conv => whnf) | (refine EvOr.go ?_; conv => whnf))
        refine CallG.use gW c20 [] [] ?_ ?_ ?_ ?_ ?_ ?_; rfl; rfl; kernel_rfl; rfl; rfl
        conv => whnf
        repeat (first | (refine ⟨(by kernel_rfl : chkR _ _ _ _ = true), ?_⟩; conv => whnf) | (refine EvOr.go ?_; conv => whnf))
        exact retQ.oneS [0, 1] rfl (by first | exact .inr rfl | exact .inl rfl) rfl (by kernel_rfl) (by first | rfl | kernel_rfl)
      · refine FunT.ev tabOk mixed Try.func3 rfl ?_
        conv => whnf
        repeat (first | (refine ⟨(by kernel_rfl : chkR _ _ _ _ = true), ?_⟩; conv => whnf) | (refine EvOr.go ?_; conv => whnf))
        intro r hr
        obtain rfl : r = ((zs.length : Nat) : Int) := by rw [hr, hz]; split <;> omega
        conv => whnf
        repeat (first | (refine ⟨(by kernel_rfl : chkR _ _ _ _ = true), ?_⟩; conv => whnf) | (refine EvOr.go ?_; conv => whnf))
        refine ⟨⟨by decide, by omega, by show ((zs.length : Nat) : Int) ≤ (c2 : Int); omega, fun h => by cases h⟩, fun _ => ?_, fun _ h => absurd h (by decide)⟩
        conv => whnf
        repeat (first | (refine ⟨(by kernel_rfl : chkR _ _ _ _ = true), ?_⟩; conv => whnf) | (refine EvOr.go ?_; conv => whnf))
        refine CallG.use gC c16 [0] [] ?_ ?_ ?_ ?_ ?_ ?_; rfl; rfl; kernel_rfl; rfl; rfl
        conv => whnf
        repeat (first | (refine ⟨(by kernel_rfl : chkR _ _ _ _ = true), ?_⟩; conv => whnf) | (refine EvOr.go ?_; conv => whnf))
        refine CallG.use gF c17 [2, 1] [] ?_ ?_ ?_ ?_ ?_ ?_; rfl; rfl; kernel_rfl; rfl; rfl
        conv => whnf
        repeat (first | (refine ⟨(by kernel_rfl : chkR _ _ _ _ = true), ?_⟩; conv => whnf) | (refine EvOr.go ?_; conv => whnf))
        refine CallG.use gC c16 [0] [] ?_ ?_ ?_ ?_ ?_ ?_; rfl; rfl; kernel_rfl; rfl; rfl
        conv => whnf
        repeat (first | (refine ⟨(by kernel_rfl : chkR _ _ _ _ = true), ?_⟩; conv => whnf) | (refine EvOr.go ?_; conv => whnf))
        refine CallG.use gR c18 [4, 1] [] ?_ ?_ ?_ ?_ ?_ ?_; rfl; rfl; kernel_rfl; rfl; rfl
        conv => whnf
        repeat (first | (refine ⟨(by kernel_rfl : chkR _ _ _ _ = true), ?_⟩; conv => whnf) | (refine EvOr.go ?_; conv => whnf))
        intro c hc
        obtain rfl : c = true := by rw [hc]; simp
        conv => whnf
        repeat (first | (refine ⟨(by kernel_rfl : chkR _ _ _ _ = true), ?_⟩; conv => whnf) | (refine EvOr.go ?_; conv => whnf))
        refine CallG.use gN c19 [] [] ?_ ?_ ?_ ?_ ?_ ?_; rfl; rfl; kernel_rfl; rfl; rfl
        conv => whnf
        repeat (first | (refine ⟨(by kernel_rfl : chkR _ _ _ _ = true), ?_⟩; conv => whnf) | (refine EvOr.go ?_; conv => whnf))
        refine CallG.use gC c16 [0] [] ?_ ?_ ?_ ?_ ?_ ?_; rfl; rfl; kernel_rfl; rfl; rfl
        conv => whnf
        repeat (first | (refine ⟨(by kernel_rfl : chkR _ _ _ _ = true), ?_⟩; conv => whnf) | (refine EvOr.go ?_; conv => whnf))
        refine CallG.use gA c19 [2, 6] [] ?_ ?_ ?_ ?_ ?_ ?_; rfl; rfl; kernel_rfl; rfl; rfl
        conv => whnf
        repeat (first | (refine ⟨(by kernel_rfl : chkR _ _ _ _ = true), ?_⟩; conv => whnf) | (refine EvOr.go ?_; conv => whnf))
        refine CallG.use gW c20 [] [] ?_ ?_ ?_ ?_ ?_ ?_; rfl; rfl; kernel_rfl; rfl; rfl
        conv => whnf
        repeat (first | (refine ⟨(by kernel_rfl : chkR _ _ _ _ = true), ?_⟩; conv => whnf) | (refine EvOr.go ?_; conv => whnf))
        exact retQ.oneS [0, 1] rfl (by first | exact .inr rfl | exact .inl rfl) rfl (by kernel_rfl) (by first | rfl | kernel_rfl)
      · generalize L.take 70 = K at *
        refine FunT.ev tabOk mixed Try.func3 rfl ?_
        conv => whnf
        repeat (first | (refine ⟨(by kernel_rfl : chkR _ _ _ _ = true), ?_⟩; conv => whnf) | (refine EvOr.go ?_; conv => whnf))
        intro r hr
        obtain rfl : r = ((zs.length : Nat) : Int) := by rw [hr, hz]; split <;> omega
        conv => whnf
        repeat (first | (refine ⟨(by kernel_rfl : chkR _ _ _ _ = true), ?_⟩; conv => whnf) | (refine EvOr.go ?_; conv => whnf))
        refine ⟨⟨by decide, by omega, by show ((zs.length : Nat) : Int) ≤ (c2 : Int); omega, fun h => by cases h⟩, fun _ => ?_, fun _ h => absurd h (by decide)⟩
        conv => whnf
        repeat (first | (refine ⟨(by kernel_rfl : chkR _ _ _ _ = true), ?_⟩; conv => whnf) | (refine EvOr.go ?_; conv => whnf))
        refine CallG.use gC c16 [0] [] ?_ ?_ ?_ ?_ ?_ ?_; rfl; rfl; kernel_rfl; rfl; rfl
        conv => whnf
        repeat (first | (refine ⟨(by kernel_rfl : chkR _ _ _ _ = true), ?_⟩; conv => whnf) | (refine EvOr.go ?_; conv => whnf))
        refine CallG.use gF c17 [2, 1] [] ?_ ?_ ?_ ?_ ?_ ?_; rfl; rfl; kernel_rfl; rfl; rfl
        conv => whnf
        repeat (first | (refine ⟨(by kernel_rfl : chkR _ _ _ _ = true), ?_⟩; conv => whnf) | (refine EvOr.go ?_; conv => whnf))
        refine CallG.use gC c16 [0] [] ?_ ?_ ?_ ?_ ?_ ?_; rfl; rfl; kernel_rfl; rfl; rfl
        conv => whnf
        repeat (first | (refine ⟨(by kernel_rfl : chkR _ _ _ _ = true), ?_⟩; conv => whnf) | (refine EvOr.go ?_; conv => whnf))
        refine CallG.use gR c18 [4, 1] [] ?_ ?_ ?_ ?_ ?_ ?_; rfl; rfl; kernel_rfl; rfl; rfl
        conv => whnf
        repeat (first | (refine ⟨(by kernel_rfl : chkR _ _ _ _ = true), ?_⟩; conv => whnf) | (refine EvOr.go ?_; conv => whnf))
        intro c hc
        obtain rfl : c = true := by rw [hc]; simp
        conv => whnf
        repeat (first | (refine ⟨(by kernel_rfl : chkR _ _ _ _ = true), ?_⟩; conv => whnf) | (refine EvOr.go ?_; conv => whnf))
        refine CallG.use gN c19 [] [] ?_ ?_ ?_ ?_ ?_ ?_; rfl; rfl; kernel_rfl; rfl; rfl
        conv => whnf
        repeat (first | (refine ⟨(by kernel_rfl : chkR _ _ _ _ = true), ?_⟩; conv => whnf) | (refine EvOr.go ?_; conv => whnf))
        refine CallG.use gC c16 [0] [] ?_ ?_ ?_ ?_ ?_ ?_; rfl; rfl; kernel_rfl; rfl; rfl
        conv => whnf
        repeat (first | (refine ⟨(by kernel_rfl : chkR _ _ _ _ = true), ?_⟩; conv => whnf) | (refine EvOr.go ?_; conv => whnf))
        refine CallG.use gA c19 [2, 6] [] ?_ ?_ ?_ ?_ ?_ ?_; rfl; rfl; kernel_rfl; rfl; rfl
        conv => whnf
        repeat (first | (refine ⟨(by kernel_rfl : chkR _ _ _ _ = true), ?_⟩; conv => whnf) | (refine EvOr.go ?_; conv => whnf))
        refine CallG.use gW c20 [] [] ?_ ?_ ?_ ?_ ?_ ?_; rfl; rfl; kernel_rfl; rfl; rfl
        conv => whnf
        repeat (first | (refine ⟨(by kernel_rfl : chkR _ _ _ _ = true), ?_⟩; conv => whnf) | (refine EvOr.go ?_; conv => whnf))
        exact retQ.oneS [0, 1] rfl (by first | exact .inr rfl | exact .inl rfl) rfl (by kernel_rfl) (by first | rfl | kernel_rfl)
end Go.Proofs.Ytdmcbfmpnakdfaa.Eng
