/- The laws' helpers: filled, works, a right row. -/
import Derived.Test.YtdmcbfmpnakdfaaXA
import Derived.Test.YtdmcbfmpnakdfaaQk
import Derived.Test.YtdmcbfmpnakdfaaQf
import Derived.Test.YtdmcbfmpnakdfaaQc
namespace Go.Proofs.Ytdmcbfmpnakdfaa.Eng.St
open Go Go.RowKit Go.Shelf Go.Proofs Go.Proofs.Ytdmcbfmpnakdfaa.Gf Go.Proofs.Ytdmcbfmpnakdfaa.Rf
set_option maxRecDepth 20000
set_option maxHeartbeats 4000000
theorem c51 : Callable Try.prog 51 := ⟨⟨_, Try.func51, by kernel_rfl, by kernel_rfl⟩⟩
theorem fill_ok (c : Nat) (hc : c < 256) : FunT Try.prog 53 [ub c] [] (secV (rep c)) [] := by
  obtain ⟨I, hI⟩ : ∃ I, I = filI c := ⟨_, rfl⟩
  have sr := rep_sec hc
  refine FunT.ev tabOk mixed Try.func53 rfl ?_
  conv => whnf
  repeat (first | (refine ⟨(by kernel_rfl : chkR _ _ _ _ = true), ?_⟩; conv => whnf) | (refine EvOr.go ?_; conv => whnf))
  refine CodeT.loopN tabOk mixed I 64 _ (StW.ofP [0, 1] ?_ ?_ ?_) (fun k => by subst hI; rfl) ?_
  · subst hI; kernel_rfl
  · subst hI; rfl
  · subst hI; rfl
  intro k hkl
  subst hI
  have hl := mix_length (r := rep c) (a := zeros) (k := k) sr.len zeros_sec.len hkl
  show evC Try.prog tab _ _ (filI c k).1 [secB (zs 64), secB (mix (rep c) zeros k)] _
  by_cases hk : k < 64
  · have hs := mix_set (r := rep c) (a := zeros) sr.len zeros_sec.len hk
    have e : (rep c).getD k 0 = c := by
      unfold rep
      rw [List.getD_eq_getElem?_getD, List.getElem?_replicate, if_pos hk]; rfl
    rw [e] at hs
    generalize mix (rep c) zeros k = S at hs hl ⊢
    conv => whnf
    repeat (first | (refine ⟨(by kernel_rfl : chkR _ _ _ _ = true), ?_⟩; conv => whnf) | (refine EvOr.go ?_; conv => whnf))
    intro c hc
    obtain rfl : c = true := by rw [hc]; exact decide_eq_true (by omega)
    conv => whnf
    repeat (first | (refine ⟨(by kernel_rfl : chkR _ _ _ _ = true), ?_⟩; conv => whnf) | (refine EvOr.go ?_; conv => whnf))
    refine ⟨⟨by omega, by show (k : Int) < 64; omega⟩, ?_⟩
    conv => whnf
    repeat (first | (refine ⟨(by kernel_rfl : chkR _ _ _ _ = true), ?_⟩; conv => whnf) | (refine EvOr.go ?_; conv => whnf))
    refine ⟨⟨by show k < 64; omega, by omega, by omega, rfl⟩, ?_⟩
    conv => whnf
    repeat (first | (refine ⟨(by kernel_rfl : chkR _ _ _ _ = true), ?_⟩; conv => whnf) | (refine EvOr.go ?_; conv => whnf))
    refine ⟨_, inc_nat (by omega), ?_⟩
    conv => whnf
    repeat (first | (refine ⟨(by kernel_rfl : chkR _ _ _ _ = true), ?_⟩; conv => whnf) | (refine EvOr.go ?_; conv => whnf))
    refine ⟨by omega, _, StW.ofP [0, 1] ?_ ?_ ?_⟩
    · kernel_rfl
    · rfl
    · simp only [filI, ← hs]; rfl
  · obtain rfl : k = 64 := by omega
    have e := mix_full sr.len zeros_sec.len
    generalize mix (rep c) zeros 64 = S at e ⊢
    subst e
    conv => whnf
    repeat (first | (refine ⟨(by kernel_rfl : chkR _ _ _ _ = true), ?_⟩; conv => whnf) | (refine EvOr.go ?_; conv => whnf))
    intro c hc
    obtain rfl : c = false := by rw [hc]; rfl
    conv => whnf
    repeat (first | (refine ⟨(by kernel_rfl : chkR _ _ _ _ = true), ?_⟩; conv => whnf) | (refine EvOr.go ?_; conv => whnf))
    exact retQ.all tabOk _ [secV (rep c)] rfl (by first | exact .inr rfl | exact .inl rfl) (by repeat' (first | exact trivial | rfl | (intro h; cases h; done) | (refine ⟨?_, ?_⟩))) rfl (by rfl) (Nat.le_of_ble_eq_true rfl) (by rfl)
theorem works51 : FunT Try.prog 51 [] [] (bv true) [] := by
  have f1 := fill_ok 1 (by decide)
  have f2 := fill_ok 2 (by decide)
  have f3 := fill_ok 3 (by decide)
  have f5 := fill_ok 5 (by decide)
  have n0 := new_ok 4 (by decide) (by decide)
  have p1 := put_in false 4 (List.replicate 4 (zs 64)) (List.replicate 4 0) 1 (rep 2) (by decide) (by decide) rfl rfl (by decide)
  have p2 := put_in false 4 ((List.replicate 4 (zs 64)).set 1 (rep 2)) [0, 1, 0, 0] 2 (rep 3) (by decide) (by decide) rfl rfl (by decide)
  have p3 := put_in false 4 (((List.replicate 4 (zs 64)).set 1 (rep 2)).set 2 (rep 3)) [0, 1, 1, 0] 3 (rep 5) (by decide) (by decide) rfl rfl (by decide)
  have hS : Secs [zs 64, rep 2, rep 3, rep 5] := fun l hl => by
    simp only [List.mem_cons, List.not_mem_nil, or_false] at hl
    rcases hl with rfl | rfl | rfl | rfl
    · exact rep_sec (c := 0) (by decide)
    · exact rep_sec (by decide)
    · exact rep_sec (by decide)
    · exact rep_sec (by decide)
  have hl : lostN 4 [0, 1, 1, 1] = [0] := by decide
  have m := mend_ok false 4 [zs 64, rep 2, rep 3, rep 5] [0, 1, 1, 1] (by decide) (by decide) rfl rfl hS (by rw [hl]; decide)
  have hF : fixR [zs 64, rep 2, rep 3, rep 5] 2 [0] = [rep 1, rep 2, rep 3, rep 5] := by decide +kernel
  rw [hl, hF] at m
  have g := get_in true 4 [rep 1, rep 2, rep 3, rep 5] [1, 1, 1, 1] 0 (by decide) rfl rfl
  have hg : getS [rep 1, rep 2, rep 3, rep 5] [1, 1, 1, 1] 0 = rep 1 := rfl
  have hg2 : getE [1, 1, 1, 1] 0 = 0 := rfl
  rw [hg, hg2] at g
  have m' : FunT Try.prog 55 [rpV] (rw3 false 4 [zs 64, rep 2, rep 3, rep 5] [0, 1, 1, 1]) (.tup [.sc (.sl 4 0 1 1 none), iv 0]) [rowM 4, colB false [zs 64, rep 2, rep 3, rep 5], knB [1, 1, 1, 1], rowX [rep 1, rep 2, rep 3, rep 5], rowI [0]] := m
  have q1 : FunT Try.prog 52 [rpV, iv 1, secV (rep 2)] (rw3 false 4 (List.replicate 4 (zs 64)) (List.replicate 4 0)) (iv 0) (rw3 false 4 [zs 64, rep 2, zs 64, zs 64] [0, 1, 0, 0]) := p1
  have q2 : FunT Try.prog 52 [rpV, iv 2, secV (rep 3)] (rw3 false 4 [zs 64, rep 2, zs 64, zs 64] [0, 1, 0, 0]) (iv 0) (rw3 false 4 [zs 64, rep 2, rep 3, zs 64] [0, 1, 1, 0]) := p2
  have q3 : FunT Try.prog 52 [rpV, iv 3, secV (rep 5)] (rw3 false 4 [zs 64, rep 2, rep 3, zs 64] [0, 1, 1, 0]) (iv 0) (rw3 false 4 [zs 64, rep 2, rep 3, rep 5] [0, 1, 1, 1]) := p3
  clear p1 p2 p3 m
  generalize [rep 1, rep 2, rep 3, rep 5] = R at *
  generalize [zs 64, rep 2, rep 3, rep 5] = L3 at *
  generalize [zs 64, rep 2, rep 3, zs 64] = L2 at *
  generalize [zs 64, rep 2, zs 64, zs 64] = L1 at *
  generalize rep 1 = a1 at *
  generalize rep 2 = a2 at *
  generalize rep 3 = a3 at *
  generalize rep 5 = a5 at *
  refine FunT.ev tabOk mixed Try.func51 rfl ?_
  conv => whnf
  repeat (first | (refine ⟨(by kernel_rfl : chkR _ _ _ _ = true), ?_⟩; conv => whnf) | (refine EvOr.go ?_; conv => whnf))
  refine CallG.use n0 c50 [] [] ?_ ?_ ?_ ?_ ?_ ?_; rfl; rfl; kernel_rfl; rfl; rfl
  conv => whnf
  repeat (first | (refine ⟨(by kernel_rfl : chkR _ _ _ _ = true), ?_⟩; conv => whnf) | (refine EvOr.go ?_; conv => whnf))
  intro c hc
  obtain rfl : c = false := by rw [hc]; rfl
  conv => whnf
  repeat (first | (refine ⟨(by kernel_rfl : chkR _ _ _ _ = true), ?_⟩; conv => whnf) | (refine EvOr.go ?_; conv => whnf))
  refine CallG.use f2 c53 [] [] ?_ ?_ ?_ ?_ ?_ ?_; rfl; rfl; kernel_rfl; rfl; rfl
  conv => whnf
  repeat (first | (refine ⟨(by kernel_rfl : chkR _ _ _ _ = true), ?_⟩; conv => whnf) | (refine EvOr.go ?_; conv => whnf))
  refine CallG.use q1 c52 [0, 1, 2] [1, 2] ?_ ?_ ?_ ?_ ?_ ?_; rfl; rfl; kernel_rfl; rfl; rfl
  conv => whnf
  repeat (first | (refine ⟨(by kernel_rfl : chkR _ _ _ _ = true), ?_⟩; conv => whnf) | (refine EvOr.go ?_; conv => whnf))
  refine CallG.use f3 c53 [] [] ?_ ?_ ?_ ?_ ?_ ?_; rfl; rfl; kernel_rfl; rfl; rfl
  conv => whnf
  repeat (first | (refine ⟨(by kernel_rfl : chkR _ _ _ _ = true), ?_⟩; conv => whnf) | (refine EvOr.go ?_; conv => whnf))
  refine CallG.use q2 c52 [0, 1, 2] [1, 2] ?_ ?_ ?_ ?_ ?_ ?_; rfl; rfl; kernel_rfl; rfl; rfl
  conv => whnf
  repeat (first | (refine ⟨(by kernel_rfl : chkR _ _ _ _ = true), ?_⟩; conv => whnf) | (refine EvOr.go ?_; conv => whnf))
  refine CallG.use f5 c53 [] [] ?_ ?_ ?_ ?_ ?_ ?_; rfl; rfl; kernel_rfl; rfl; rfl
  conv => whnf
  repeat (first | (refine ⟨(by kernel_rfl : chkR _ _ _ _ = true), ?_⟩; conv => whnf) | (refine EvOr.go ?_; conv => whnf))
  refine CallG.use q3 c52 [0, 1, 2] [1, 2] ?_ ?_ ?_ ?_ ?_ ?_; rfl; rfl; kernel_rfl; rfl; rfl
  conv => whnf
  repeat (first | (refine ⟨(by kernel_rfl : chkR _ _ _ _ = true), ?_⟩; conv => whnf) | (refine EvOr.go ?_; conv => whnf))
  refine CallG.use m' c55 [0, 1, 2] [0, 2] ?_ ?_ ?_ ?_ ?_ ?_; rfl; rfl; kernel_rfl; rfl; rfl
  conv => whnf
  repeat (first | (refine ⟨(by kernel_rfl : chkR _ _ _ _ = true), ?_⟩; conv => whnf) | (refine EvOr.go ?_; conv => whnf))
  refine CallG.use g c57 [0, 3, 2] [] ?_ ?_ ?_ ?_ ?_ ?_; rfl; rfl; kernel_rfl; rfl; rfl
  conv => whnf
  repeat (first | (refine ⟨(by kernel_rfl : chkR _ _ _ _ = true), ?_⟩; conv => whnf) | (refine EvOr.go ?_; conv => whnf))
  intro c hc
  obtain rfl : c = true := by rw [hc]; rfl
  conv => whnf
  repeat (first | (refine ⟨(by kernel_rfl : chkR _ _ _ _ = true), ?_⟩; conv => whnf) | (refine EvOr.go ?_; conv => whnf))
  intro c hc
  obtain rfl : c = true := by rw [hc]; rfl
  conv => whnf
  repeat (first | (refine ⟨(by kernel_rfl : chkR _ _ _ _ = true), ?_⟩; conv => whnf) | (refine EvOr.go ?_; conv => whnf))
  refine CallG.use f1 c53 [] [] ?_ ?_ ?_ ?_ ?_ ?_; rfl; rfl; kernel_rfl; rfl; rfl
  conv => whnf
  repeat (first | (refine ⟨(by kernel_rfl : chkR _ _ _ _ = true), ?_⟩; conv => whnf) | (refine EvOr.go ?_; conv => whnf))
  refine ⟨rfl, ?_⟩
  refine ⟨eq34, ?_⟩
  conv => whnf
  repeat (first | (refine ⟨(by kernel_rfl : chkR _ _ _ _ = true), ?_⟩; conv => whnf) | (refine EvOr.go ?_; conv => whnf))
  intro c hc
  obtain rfl : c = true := hc.2 rfl
  conv => whnf
  repeat (first | (refine ⟨(by kernel_rfl : chkR _ _ _ _ = true), ?_⟩; conv => whnf) | (refine EvOr.go ?_; conv => whnf))
  intro c hc
  obtain rfl : c = true := by rw [hc]; rfl
  conv => whnf
  repeat (first | (refine ⟨(by kernel_rfl : chkR _ _ _ _ = true), ?_⟩; conv => whnf) | (refine EvOr.go ?_; conv => whnf))
  refine ⟨⟨by decide, by decide⟩, ?_⟩
  conv => whnf
  repeat (first | (refine ⟨(by kernel_rfl : chkR _ _ _ _ = true), ?_⟩; conv => whnf) | (refine EvOr.go ?_; conv => whnf))
  refine ⟨_, rfl, ?_⟩
  conv => whnf
  repeat (first | (refine ⟨(by kernel_rfl : chkR _ _ _ _ = true), ?_⟩; conv => whnf) | (refine EvOr.go ?_; conv => whnf))
  intro c hc
  obtain rfl : c = true := by rw [hc]; rfl
  conv => whnf
  repeat (first | (refine ⟨(by kernel_rfl : chkR _ _ _ _ = true), ?_⟩; conv => whnf) | (refine EvOr.go ?_; conv => whnf))
  exact retQ.one rfl (.inr rfl) rfl (Nat.le_of_ble_eq_true rfl) rfl
end Go.Proofs.Ytdmcbfmpnakdfaa.Eng.St
/- Plain law of right rows: sums over columns byte by byte; what comes back; what a change makes of a right row. -/
namespace Go.Proofs.Ytdmcbfmpnakdfaa.Eng
open Go Go.Proofs Go.Proofs.Ytdmcbfmpnakdfaa.Gf
/-- The sum of the first m. -/
def xS (f : Nat → Nat) : Nat → Nat
  | 0 => 0
  | k + 1 => xS f k ^^^ f k
theorem zero_get (q : Nat) : zeros.getD q 0 = 0 := by
  unfold zeros
  rw [List.getD_eq_getElem?_getD, List.getElem?_replicate]
  split <;> rfl
theorem if_iff {c d : Prop} [Decidable c] [Decidable d] {x : Nat} (h : c ↔ d) : (if c then x else 0) = if d then x else 0 := by
  by_cases hd : d
  · rw [if_pos hd, if_pos (h.2 hd)]
  · rw [if_neg hd, if_neg (fun hc => hd (h.1 hc))]
theorem x4 (a b c d : Nat) : (a ^^^ b) ^^^ (c ^^^ d) = (a ^^^ c) ^^^ (b ^^^ d) := by
  rw [Nat.xor_assoc, Nat.xor_assoc, ← Nat.xor_assoc b, Nat.xor_comm b c, Nat.xor_assoc c]
theorem xS_xor (f g : Nat → Nat) : ∀ m, xS (fun j => f j ^^^ g j) m = xS f m ^^^ xS g m
  | 0 => by simp [xS]
  | m + 1 => by rw [xS, xS, xS, xS_xor f g m, x4]
theorem xS_one (i x : Nat) : ∀ m, xS (fun j => if j = i then x else 0) m = if i < m then x else 0
  | 0 => rfl
  | m + 1 => by
    rw [xS, xS_one i x m]
    by_cases h : m = i
    · subst h; simp
    · by_cases h2 : i < m
      · rw [if_pos h2, if_neg h, if_pos (by omega), Nat.xor_zero]
      · rw [if_neg h2, if_neg h, if_neg (by omega)]; rfl
theorem xS_congr {f g : Nat → Nat} : ∀ m, (∀ j, j < m → f j = g j) → xS f m = xS g m
  | 0, _ => rfl
  | m + 1, h => by rw [xS, xS, xS_congr m (fun j hj => h j (by omega)), h m (by omega)]
theorem psum_get {L : List (List Nat)} (h : Secs L) {q : Nat} (hq : q < 64) : ∀ m, m ≤ L.length → (psum L m).getD q 0 = xS (fun j => (L.getD j []).getD q 0) m
  | 0, _ => by rw [psum, xS, zero_get]
  | m + 1, hm => by
    rw [psum, xS, xorL_get (by rw [(psum_sec h m (by omega)).len]; exact hq) (by rw [(h.at (by omega)).len]; exact hq), psum_get h hq m (by omega)]
theorem qsum_get {L : List (List Nat)} (h : Secs L) {q : Nat} (hq : q < 64) : ∀ m, m ≤ L.length → (qsum L m).getD q 0 = xS (fun j => gmul ((L.getD j []).getD q 0) (pw j)) m
  | 0, _ => by rw [qsum, xS, zero_get]
  | m + 1, hm => by
    have h1 := h.at (i := m) (by omega)
    rw [qsum, xS, xorL_get (by rw [(qsum_sec h m (by omega)).len]; exact hq) (by rw [mulL_length h1.len]; exact hq), qsum_get h hq m (by omega), mulL_get (by rw [h1.len]; exact hq), pwZ_nat]
theorem sec_ext {a b : List Nat} (ha : Sec a) (hb : Sec b) (h : ∀ q, q < 64 → a.getD q 0 = b.getD q 0) : a = b := by
  apply List.ext_getElem (ha.len.trans hb.len.symm)
  intro q h1 h2
  have := h q (by rw [← ha.len]; exact h1)
  rwa [List.getD_eq_getElem?_getD, List.getD_eq_getElem?_getD, List.getElem?_eq_getElem h1, List.getElem?_eq_getElem h2] at this

theorem cancel {a b c d : Nat} (h : a ^^^ b = c ^^^ d) (e : a = c) : b = d := by
  subst e
  have := congrArg (a ^^^ ·) h
  simpa [← Nat.xor_assoc] using this
theorem eq_of_xor {x y : Nat} (h : x ^^^ y = 0) : x = y := by
  have := congrArg (· ^^^ y) h
  simpa [Nat.xor_assoc] using this
theorem twoA_get {p q : List Nat} {u v k : Nat} (hp : Sec p) (hq : Sec q) (hv : v < 256) (hk : k < 64) : (twoA p q u v).getD k 0 = gmul (q.getD k 0 ^^^ gmul v (p.getD k 0)) (ginv (u ^^^ v)) := by
  unfold twoA
  have h1 := xorL_sec hq (mulL_sec (f := v) hp)
  rw [mulL_get (by rw [h1.len]; exact hk), xorL_get (by rw [hq.len]; exact hk) (by rw [mulL_length hp.len]; exact hk), mulL_get (by rw [hp.len]; exact hk), gmul_comm (hp.get k) hv]
theorem twoB_get {p q : List Nat} {u v k : Nat} (hp : Sec p) (hq : Sec q) (hk : k < 64) : (twoB p q u v).getD k 0 = p.getD k 0 ^^^ (twoA p q u v).getD k 0 := by
  unfold twoB
  rw [xorL_get (by rw [hp.len]; exact hk) (by rw [(twoA_sec hp hq).len]; exact hk)]
set_option maxHeartbeats 4000000 in
set_option maxRecDepth 100000 in
theorem list_eq {L M : List (List Nat)} (hl : L.length = M.length) (h : ∀ j, j < L.length → L.getD j [] = M.getD j []) : L = M := by
  apply List.ext_getElem hl
  intro j h1 h2
  have := h j h1
  rwa [List.getD_eq_getElem?_getD, List.getD_eq_getElem?_getD, List.getElem?_eq_getElem h1, List.getElem?_eq_getElem h2] at this
theorem psum_cg {L M : List (List Nat)} : ∀ n, (∀ j, j < n → L.getD j [] = M.getD j []) → psum L n = psum M n
  | 0, _ => rfl
  | n + 1, h => by rw [psum, psum, psum_cg n (fun j hj => h j (by omega)), h n (by omega)]
theorem qsum_cg {L M : List (List Nat)} : ∀ n, (∀ j, j < n → L.getD j [] = M.getD j []) → qsum L n = qsum M n
  | 0, _ => rfl
  | n + 1, h => by rw [qsum, qsum, qsum_cg n (fun j hj => h j (by omega)), h n (by omega)]
theorem getD_set {S : List (List Nat)} {i j : Nat} {d : List Nat} (hi : i < S.length) : (S.set i d).getD j [] = if j = i then d else S.getD j [] := by
  rw [List.getD_eq_getElem?_getD, List.getElem?_set]
  by_cases h : i = j
  · subst h
    rw [if_pos rfl, if_pos hi, if_pos rfl]
    rfl
  · rw [if_neg h, if_neg (fun e => h e.symm), ← List.getD_eq_getElem?_getD]
theorem zeroed_get : ∀ {ks : List Nat} {S : List (List Nat)} {j : Nat}, (∀ k ∈ ks, k < S.length) → (zeroed S ks).getD j [] = if j ∈ ks then zeros else S.getD j []
  | [], S, j, _ => by simp [zeroed]
  | k :: ks, S, j, h => by
    have ih := zeroed_get (ks := ks) (S := S.set k zeros) (j := j) (fun x hx => by rw [List.length_set]; exact h x (List.mem_cons_of_mem _ hx))
    rw [show zeroed S (k :: ks) = zeroed (S.set k zeros) ks from rfl, ih, getD_set (h k List.mem_cons_self)]
    by_cases h1 : j ∈ ks
    · rw [if_pos h1, if_pos (List.mem_cons_of_mem _ h1)]
    · rw [if_neg h1]
      by_cases h2 : j = k
      · rw [if_pos h2, if_pos (by rw [h2]; exact List.mem_cons_self)]
      · rw [if_neg h2, if_neg (by rw [List.mem_cons]; exact fun h => h.elim h2 h1)]
theorem ends_get {m : Nat} {P Q : List Nat} : ∀ {ks : List Nat} {S : List (List Nat)} {j : Nat}, (∀ k ∈ ks, k < S.length) → (ks.foldl (endOne m P Q) S).getD j [] = if j ∈ ks ∧ j = m then P else if j ∈ ks ∧ j = m + 1 then Q else S.getD j []
  | [], S, j, _ => by simp
  | k :: ks, S, j, h => by
    have hk := h k List.mem_cons_self
    have ih := ends_get (m := m) (P := P) (Q := Q) (ks := ks) (S := endOne m P Q S k) (j := j) (fun x hx => by rw [endOne_length]; exact h x (List.mem_cons_of_mem _ hx))
    rw [List.foldl_cons, ih]
    have e1 : (endOne m P Q S k).getD j [] = if j = k ∧ j = m then P else if j = k ∧ j = m + 1 then Q else S.getD j [] := by
      unfold endOne
      by_cases h1 : k = m
      · rw [if_pos h1, getD_set hk]
        by_cases h2 : j = k
        · rw [if_pos h2, if_pos ⟨h2, h2.trans h1⟩]
        · rw [if_neg h2, if_neg (fun h => h2 h.1), if_neg (fun h => h2 h.1)]
      · rw [if_neg h1]
        by_cases h3 : k = m + 1
        · rw [if_pos h3, getD_set hk]
          by_cases h2 : j = k
          · rw [if_pos h2, if_neg (fun h => h1 (h.1.symm.trans h.2)), if_pos ⟨h2, h2.trans h3⟩]
          · rw [if_neg h2, if_neg (fun h => h2 h.1), if_neg (fun h => h2 h.1)]
        · rw [if_neg h3, if_neg (fun h => h1 (h.1.symm.trans h.2)), if_neg (fun h => h3 (h.1.symm.trans h.2))]
    rw [e1]
    by_cases a : j ∈ ks <;> by_cases b : j = k <;> by_cases c : j = m <;> by_cases d : j = m + 1 <;> simp [a, b, c, d, List.mem_cons] <;> (try simp_all) <;> (try omega)
/-- The end of Fix: where all but the lost parities stand. -/
theorem ends_right {R R1 : List (List Nat)} {m : Nat} {ks : List Nat} (hl : R.length = m + 2) (hl1 : R1.length = m + 2) (hp : psum R m = R.getD m []) (hq : qsum R m = R.getD (m + 1) []) (hk : ∀ k ∈ ks, k < m + 2)
    (h : ∀ j, j < m + 2 → j < m ∨ j ∉ ks → R1.getD j [] = R.getD j []) : fixEnd R1 m ks = R := by
  have e1 : psum R1 m = R.getD m [] := by
    rw [← hp]
    exact psum_cg m (fun j hj => h j (by omega) (.inl hj))
  have e2 : qsum R1 m = R.getD (m + 1) [] := by
    rw [← hq]
    exact qsum_cg m (fun j hj => h j (by omega) (.inl hj))
  unfold fixEnd
  rw [e1, e2]
  refine list_eq (by rw [foldl_len (fun _ _ => endOne_length), hl1, hl]) (fun j hj => ?_)
  rw [foldl_len (fun _ _ => endOne_length), hl1] at hj
  rw [ends_get (fun k hk2 => by rw [hl1]; exact hk k hk2)]
  by_cases c1 : j ∈ ks ∧ j = m
  · rw [if_pos c1, c1.2]
  · rw [if_neg c1]
    by_cases c2 : j ∈ ks ∧ j = m + 1
    · rw [if_pos c2, c2.2]
    · rw [if_neg c2]
      refine h j hj ?_
      by_cases hm : j < m
      · exact .inl hm
      · refine .inr (fun hks => ?_)
        rcases Nat.lt_or_ge j (m + 1) with h3 | h3
        · exact c1 ⟨hks, by omega⟩
        · exact c2 ⟨hks, by omega⟩
variable {R Z : List (List Nat)} {m i k : Nat}
/-- Z is R without the columns i and k. -/
def Without (R Z : List (List Nat)) (m i k : Nat) : Prop := ∀ j q, j < m → q < 64 → (Z.getD j []).getD q 0 = ((R.getD j []).getD q 0 ^^^ (if j = i then (R.getD i []).getD q 0 else 0)) ^^^ (if j = k then (R.getD k []).getD q 0 else 0)
theorem without_sum (hR : Secs R) (hZ : Secs Z) (hm : m ≤ R.length) (hm2 : m ≤ Z.length) (h : Without R Z m i k) {q : Nat} (hq : q < 64) :
    (psum Z m).getD q 0 = ((psum R m).getD q 0 ^^^ (if i < m then (R.getD i []).getD q 0 else 0)) ^^^ (if k < m then (R.getD k []).getD q 0 else 0) := by
  rw [psum_get hZ hq m hm2, psum_get hR hq m hm, ← xS_one, ← xS_one, ← xS_xor, ← xS_xor]
  exact xS_congr m (fun j hj => h j q hj hq)
theorem byte_lt (hR : Secs R) (j q : Nat) : (R.getD j []).getD q 0 < 256 := by
  by_cases h : j < R.length
  · exact (hR.at h).get q
  · have : R.getD j [] = [] := by rw [List.getD_eq_getElem?_getD, List.getElem?_eq_none (by omega)]; rfl
    rw [this]
    simp
theorem without_qsum (hR : Secs R) (hZ : Secs Z) (hm : m ≤ R.length) (hm2 : m ≤ Z.length) (h : Without R Z m i k) {q : Nat} (hq : q < 64) :
    (qsum Z m).getD q 0 = ((qsum R m).getD q 0 ^^^ (if i < m then gmul ((R.getD i []).getD q 0) (pw i) else 0)) ^^^ (if k < m then gmul ((R.getD k []).getD q 0) (pw k) else 0) := by
  rw [qsum_get hZ hq m hm2, qsum_get hR hq m hm, ← xS_one, ← xS_one, ← xS_xor, ← xS_xor]
  refine xS_congr m (fun j hj => ?_)
  have hr := byte_lt hR j q
  have hx := byte_lt hR i q
  have hy := byte_lt hR k q
  have t : ∀ {c : Prop} [Decidable c] {v : Nat}, v < 256 → (if c then v else 0) < 256 := fun {c} _ {v} h => by
    split
    · exact h
    · decide
  have u : ∀ {l v : Nat}, gmul (if j = l then v else 0) (pw j) = if j = l then gmul v (pw l) else 0 := fun {l v} => by
    by_cases h : j = l
    · rw [if_pos h, if_pos h, h]
    · rw [if_neg h, if_neg h, gmul_zero_left _ (pw_lt j)]
  rw [h j q hj hq, gmul_xor_left _ (xor_lt hr (t hx)) (t hy), gmul_xor_left _ hr (t hx), u, u]
theorem undo {g r : Nat} (hg : g < 256) (h : g ≠ 0) (hr : r < 256) : gmul (gmul r g) (ginv g) = r := by
  rw [gmul_assoc hr hg (ginv_lt g), gmul_ginv hg h, gmul_one_right r hr]
theorem xmid (a b : Nat) : a ^^^ (a ^^^ b) = b := by rw [← Nat.xor_assoc, Nat.xor_self, Nat.zero_xor]
theorem x3 (p a : Nat) : p ^^^ ((p ^^^ a) ^^^ 0) = a := by rw [Nat.xor_zero, xmid]
theorem x5 (p a b : Nat) : p ^^^ ((p ^^^ a) ^^^ b) = a ^^^ b := by rw [Nat.xor_assoc, xmid]
/-- One data column, by P. -/
theorem back_P (hR : Secs R) (hZ : Secs Z) (hm : m + 2 = R.length) (hm2 : m + 2 = Z.length) (hp : psum R m = R.getD m []) (h : Without R Z m i k) (hi : i < m) (hk : ¬ k < m) (hz : Z.getD m [] = R.getD m []) :
    xorL (Z.getD m []) (psum Z m) = R.getD i [] := by
  have s1 := hZ.at (i := m) (by omega)
  have s2 := psum_sec hZ m (by omega)
  refine sec_ext (xorL_sec s1 s2) (hR.at (by omega)) (fun q hq => ?_)
  rw [xorL_get (by rw [s1.len]; exact hq) (by rw [s2.len]; exact hq), without_sum hR hZ (by omega) (by omega) h hq, if_pos hi, if_neg hk, hz, hp, x3]
/-- One data column, by Q. -/
theorem back_Q (hR : Secs R) (hZ : Secs Z) (hm : m + 2 = R.length) (hm2 : m + 2 = Z.length) (hq' : qsum R m = R.getD (m + 1) []) (h : Without R Z m i k) (hi : i < m) (hk : ¬ k < m) (hz : Z.getD (m + 1) [] = R.getD (m + 1) []) :
    mulL (xorL (Z.getD (m + 1) []) (qsum Z m)) (pwZ (-(i : Int))) = R.getD i [] := by
  have s1 := hZ.at (i := m + 1) (by omega)
  have s2 := qsum_sec hZ m (by omega)
  have s3 := xorL_sec s1 s2
  refine sec_ext (mulL_sec s3) (hR.at (by omega)) (fun q hq => ?_)
  rw [mulL_get (by rw [s3.len]; exact hq), xorL_get (by rw [s1.len]; exact hq) (by rw [s2.len]; exact hq), without_qsum hR hZ (by omega) (by omega) h hq, if_pos hi, if_neg hk, hz, hq', x3, ← pwZ_nat,
    gmul_assoc (byte_lt hR i q) (pwZ_lt _) (pwZ_lt _), pwZ_add, show (i : Int) + -(i : Int) = 0 by omega, pwZ_zero, gmul_one_right _ (byte_lt hR i q)]
/-- Two data columns. -/
theorem back_two (hR : Secs R) (hZ : Secs Z) (hm : m + 2 = R.length) (hm2 : m + 2 = Z.length) (hm3 : m ≤ 62) (hp : psum R m = R.getD m []) (hq' : qsum R m = R.getD (m + 1) []) (h : Without R Z m i k) (hi : i < m) (hk : k < m) (hik : i ≠ k)
    (hz : Z.getD m [] = R.getD m []) (hz2 : Z.getD (m + 1) [] = R.getD (m + 1) []) :
    twoA (xorL (Z.getD m []) (psum Z m)) (xorL (Z.getD (m + 1) []) (qsum Z m)) (pwZ (i : Int)) (pwZ (k : Int)) = R.getD i [] ∧
    twoB (xorL (Z.getD m []) (psum Z m)) (xorL (Z.getD (m + 1) []) (qsum Z m)) (pwZ (i : Int)) (pwZ (k : Int)) = R.getD k [] := by
  have s1 := hZ.at (i := m) (by omega)
  have s2 := psum_sec hZ m (by omega)
  have s3 := hZ.at (i := m + 1) (by omega)
  have s4 := qsum_sec hZ m (by omega)
  have sp := xorL_sec s1 s2
  have sq := xorL_sec s3 s4
  have ep : ∀ q, q < 64 → (xorL (Z.getD m []) (psum Z m)).getD q 0 = (R.getD i []).getD q 0 ^^^ (R.getD k []).getD q 0 := fun q hq => by
    rw [xorL_get (by rw [s1.len]; exact hq) (by rw [s2.len]; exact hq), without_sum hR hZ (by omega) (by omega) h hq, if_pos hi, if_pos hk, hz, hp, x5]
  have eq : ∀ q, q < 64 → (xorL (Z.getD (m + 1) []) (qsum Z m)).getD q 0 = gmul ((R.getD i []).getD q 0) (pw i) ^^^ gmul ((R.getD k []).getD q 0) (pw k) := fun q hq => by
    rw [xorL_get (by rw [s3.len]; exact hq) (by rw [s4.len]; exact hq), without_qsum hR hZ (by omega) (by omega) h hq, if_pos hi, if_pos hk, hz2, hq', x5]
  have hg : pw i ^^^ pw k ≠ 0 := fun e => hik (pw_inj (by omega) (by omega) (eq_of_xor e))
  have eA : ∀ q, q < 64 → (twoA (xorL (Z.getD m []) (psum Z m)) (xorL (Z.getD (m + 1) []) (qsum Z m)) (pwZ (i : Int)) (pwZ (k : Int))).getD q 0 = (R.getD i []).getD q 0 := fun q hq => by
    have hx := byte_lt hR i q
    have hy := byte_lt hR k q
    rw [twoA_get sp sq (pwZ_lt _) hq, ep q hq, eq q hq, pwZ_nat, pwZ_nat, gmul_comm (pw_lt k) (xor_lt hx hy), gmul_xor_left _ hx hy, x4, Nat.xor_comm (gmul ((R.getD k []).getD q 0) (pw k)), Nat.xor_self, Nat.xor_zero, ← gmul_xor_right, undo (xor_lt (pw_lt i) (pw_lt k)) hg hx]
  refine ⟨sec_ext (twoA_sec sp sq) (hR.at (by omega)) eA, sec_ext (twoB_sec sp sq) (hR.at (by omega)) (fun q hq => ?_)⟩
  rw [twoB_get sp sq hq, eA q hq, ep q hq, Nat.xor_comm ((R.getD i []).getD q 0), Nat.xor_assoc, Nat.xor_self, Nat.xor_zero]

/-- What stands where the lost columns are emptied. -/
theorem zero_at {T : List (List Nat)} {ks : List Nat} (hT : T.length = m + 2) (hk : ∀ x ∈ ks, x < m + 2) (h : ∀ j, j < m + 2 → j ∉ ks → T.getD j [] = R.getD j []) {j : Nat} (hj : j < m + 2) : (zeroed T ks).getD j [] = if j ∈ ks then zeros else R.getD j [] := by
  rw [zeroed_get (fun x hx => by rw [hT]; exact hk x hx)]
  by_cases c : j ∈ ks
  · rw [if_pos c, if_pos c]
  · rw [if_neg c, if_neg c, h j hj c]
theorem without_of {T : List (List Nat)} {ks : List Nat} (hT : T.length = m + 2) (hk : ∀ x ∈ ks, x < m + 2) (h : ∀ j, j < m + 2 → j ∉ ks → T.getD j [] = R.getD j []) (hik : i ≠ k) (hm : ∀ j, j < m → (j ∈ ks ↔ j = i ∨ j = k)) : Without R (zeroed T ks) m i k := fun j q hj hq => by
  rw [zero_at hT hk h (by omega)]
  by_cases c : j ∈ ks
  · rw [if_pos c, zero_get]
    rcases (hm j hj).1 c with e | e
    · rw [if_pos e, if_neg (fun e2 => hik (e.symm.trans e2)), e, Nat.xor_self]; rfl
    · rw [if_neg (fun e2 => hik (e2.symm.trans e)), if_pos e, e, Nat.xor_zero, Nat.xor_self]
  · rw [if_neg c, if_neg (fun e => c ((hm j hj).2 (.inl e))), if_neg (fun e => c ((hm j hj).2 (.inr e))), Nat.xor_zero, Nat.xor_zero]
/-- THE STAGE's THEOREM: of a right row any two columns can be lost, whatever stands in their place. -/
theorem fixR_right {T : List (List Nat)} {ks : List Nat} (hR : Secs R) (hS : Secs T) (hl : R.length = m + 2) (hT : T.length = m + 2) (hm : m ≤ 62) (hp : psum R m = R.getD m []) (hq : qsum R m = R.getD (m + 1) [])
    (hk : ∀ x ∈ ks, x < m + 2) (h2 : ks.length ≤ 2) (hasc : ∀ i j, ks = [i, j] → i < j) (h : ∀ j, j < m + 2 → j ∉ ks → T.getD j [] = R.getD j []) : fixR T m ks = R := by
  have hZ : Secs (zeroed T ks) := zeroed_secs hS
  have hZl : (zeroed T ks).length = m + 2 := zeroed_length.trans hT
  have hz := fun j (hj : j < m + 2) => zero_at (R := R) hT hk h hj
  have hzn : ∀ j, j < m + 2 → j ∉ ks → (zeroed T ks).getD j [] = R.getD j [] := fun j hj c => by rw [hz j hj, if_neg c]
  unfold fixR
  match ks, h2 with
  | [], _ => exact ends_right hl hZl hp hq hk (fun j hj _ => hzn j hj (by simp))
  | [i], _ =>
    have hi := hk i (by simp)
    by_cases hid : i < m
    · have hw : Without R (zeroed T [i]) m i (m + 2) := without_of hT hk h (by omega) (fun j hj => by
        rw [List.mem_singleton]
        exact ⟨.inl, fun e => e.elim id (fun e => by omega)⟩)
      have eb := back_P hR hZ hl.symm hZl.symm hp hw hid (by omega) (hzn m (by omega) (by rw [List.mem_singleton]; omega))
      have e1 : fixMid (zeroed T [i]) m [i] = (zeroed T [i]).set i (R.getD i []) := by
        simp only [fixMid]
        rw [if_pos hid, eb]
      rw [e1]
      refine ends_right hl (by rw [List.length_set]; exact hZl) hp hq hk (fun j hj _ => ?_)
      rw [getD_set (by rw [hZl]; exact hi)]
      by_cases e : j = i
      · rw [if_pos e, e]
      · rw [if_neg e, hzn j hj (by rw [List.mem_singleton]; exact e)]
    · have e1 : fixMid (zeroed T [i]) m [i] = zeroed T [i] := by
        simp only [fixMid]
        rw [if_neg hid]
      rw [e1]
      refine ends_right hl hZl hp hq hk (fun j hj c => hzn j hj ?_)
      rw [List.mem_singleton]
      rcases c with c | c
      · omega
      · rwa [List.mem_singleton] at c
  | [i, k], _ =>
    have hi := hk i (by simp)
    have hkk := hk k (by simp)
    have hik := hasc i k rfl
    have mem : ∀ j, j ∈ [i, k] ↔ j = i ∨ j = k := fun j => by simp
    by_cases hkd : k < m
    · have hw : Without R (zeroed T [i, k]) m i k := without_of hT hk h (by omega) (fun j _ => mem j)
      obtain ⟨ea, eb⟩ := back_two hR hZ hl.symm hZl.symm hm hp hq hw (by omega) hkd (by omega) (hzn m (by omega) (by rw [mem]; omega)) (hzn (m + 1) (by omega) (by rw [mem]; omega))
      have e1 : fixMid (zeroed T [i, k]) m [i, k] = ((zeroed T [i, k]).set i (R.getD i [])).set k (R.getD k []) := by
        simp only [fixMid]
        rw [if_pos hkd, ea, eb]
      rw [e1]
      refine ends_right hl (by rw [List.length_set, List.length_set]; exact hZl) hp hq hk (fun j hj _ => ?_)
      rw [getD_set (by rw [List.length_set, hZl]; exact hkk), getD_set (by rw [hZl]; exact hi)]
      by_cases e : j = k
      · rw [if_pos e, e]
      · rw [if_neg e]
        by_cases e2 : j = i
        · rw [if_pos e2, e2]
        · rw [if_neg e2, hzn j hj (by rw [mem]; exact fun h => h.elim e2 e)]
    · by_cases hid : i < m
      · have hw : Without R (zeroed T [i, k]) m i (m + 2) := without_of hT hk h (by omega) (fun j hj => by
          rw [mem]
          exact ⟨fun e => e.elim .inl (fun e => by omega), fun e => e.elim .inl (fun e => by omega)⟩)
        have e1 : fixMid (zeroed T [i, k]) m [i, k] = (zeroed T [i, k]).set i (R.getD i []) := by
          simp only [fixMid]
          rw [if_neg hkd, if_pos hid]
          by_cases c : k = m
          · rw [if_pos c, back_Q hR hZ hl.symm hZl.symm hq hw hid (by omega) (hzn (m + 1) (by omega) (by rw [mem]; omega))]
          · rw [if_neg c, back_P hR hZ hl.symm hZl.symm hp hw hid (by omega) (hzn m (by omega) (by rw [mem]; omega))]
        rw [e1]
        refine ends_right hl (by rw [List.length_set]; exact hZl) hp hq hk (fun j hj c => ?_)
        rw [getD_set (by rw [hZl]; exact hi)]
        by_cases e : j = i
        · rw [if_pos e, e]
        · rw [if_neg e, hzn j hj ?_]
          rw [mem]
          rcases c with c | c
          · omega
          · rwa [mem] at c
      · have e1 : fixMid (zeroed T [i, k]) m [i, k] = zeroed T [i, k] := by
          simp only [fixMid]
          rw [if_neg hkd, if_neg hid]
        rw [e1]
        refine ends_right hl hZl hp hq hk (fun j hj c => hzn j hj ?_)
        rw [mem]
        rcases c with c | c
        · omega
        · rwa [mem] at c
end Go.Proofs.Ytdmcbfmpnakdfaa.Eng
/- Plain law of the stripe's right rows: written, told. -/
namespace Go.Proofs.Ytdmcbfmpnakdfaa.Eng.St
open Go Go.RowKit Go.Shelf Go.Proofs Go.Proofs.Ytdmcbfmpnakdfaa.Gf Go.Proofs.Ytdmcbfmpnakdfaa.Rf
set_option maxRecDepth 20000
set_option maxHeartbeats 1000000
theorem risE : ∀ (l m : List Int), l.Pairwise (· < ·) → m.Pairwise (· < ·) → (∀ x, x ∈ l ↔ x ∈ m) → l = m
  | [], [], _, _, _ => rfl
  | [], b :: m, _, _, h => absurd ((h b).2 (by simp)) (by simp)
  | a :: l, [], _, _, h => absurd ((h a).1 (by simp)) (by simp)
  | a :: l, b :: m, hl, hm, h => by
    obtain ⟨h1, h2⟩ := List.pairwise_cons.1 hl
    obtain ⟨h3, h4⟩ := List.pairwise_cons.1 hm
    have e : a = b := by
      rcases List.mem_cons.1 ((h a).1 (by simp)) with h5 | h5
      · exact h5
      · have := h3 a h5
        rcases List.mem_cons.1 ((h b).2 (by simp)) with h6 | h6
        · exact h6.symm
        · have := h1 b h6; omega
    subst e
    rw [risE l m h2 h4 fun x => ?_]
    constructor
    · intro hx
      have := h1 x hx
      rcases List.mem_cons.1 ((h x).1 (by simp [hx])) with h5 | h5
      · omega
      · exact h5
    · intro hx
      have := h3 x hx
      rcases List.mem_cons.1 ((h x).2 (by simp [hx])) with h5 | h5
      · omega
      · exact h5
theorem right_iff {L : List (List Nat)} {m : Nat} (hl : L.length = m + 2) (hm : 1 ≤ m) (hm2 : m ≤ 62) : rightB L = true ↔ psum L m = L.getD m [] ∧ qsum L m = L.getD (m + 1) [] := by
  unfold rightB
  rw [if_neg (by omega), if_neg (by omega), hl, show m + 2 - 2 = m from rfl, show m + 2 - 1 = m + 1 from rfl]
  simp
/-- The right row of data. -/
def rowOf (T : List (List Nat)) : List (List Nat) := T ++ [psum T T.length, qsum T T.length]
theorem rowOf_len (T : List (List Nat)) : (rowOf T).length = T.length + 2 := by simp [rowOf]
theorem rowOf_lo {T : List (List Nat)} {j : Nat} (h : j < T.length) : (rowOf T).getD j [] = T.getD j [] := by
  unfold rowOf
  rw [List.getD_eq_getElem?_getD, List.getElem?_append_left h, ← List.getD_eq_getElem?_getD]
theorem rowOf_p (T : List (List Nat)) : (rowOf T).getD T.length [] = psum T T.length := by
  unfold rowOf
  rw [List.getD_eq_getElem?_getD, List.getElem?_append_right (Nat.le_refl _)]
  simp
theorem rowOf_q (T : List (List Nat)) : (rowOf T).getD (T.length + 1) [] = qsum T T.length := by
  unfold rowOf
  rw [List.getD_eq_getElem?_getD, List.getElem?_append_right (by omega)]
  simp
theorem rowOf_secs {T : List (List Nat)} (h : Secs T) : Secs (rowOf T) := fun l hl => by
  rcases List.mem_append.1 hl with h1 | h1
  · exact h l h1
  · simp only [List.mem_cons, List.not_mem_nil, or_false] at h1
    rcases h1 with rfl | rfl
    · exact psum_sec h _ (Nat.le_refl _)
    · exact qsum_sec h _ (Nat.le_refl _)
theorem rowOf_ps (T : List (List Nat)) : psum (rowOf T) T.length = psum T T.length := psum_cg _ fun _ hj => rowOf_lo hj
theorem rowOf_qs (T : List (List Nat)) : qsum (rowOf T) T.length = qsum T T.length := qsum_cg _ fun _ hj => rowOf_lo hj
theorem rowOf_right {T : List (List Nat)} (h1 : 1 ≤ T.length) (h2 : T.length ≤ 62) : rightB (rowOf T) = true := by
  rw [right_iff (rowOf_len T) h1 h2, rowOf_ps, rowOf_qs, rowOf_p, rowOf_q]
  exact ⟨rfl, rfl⟩
theorem set_byte {T : List (List Nat)} {k j q : Nat} {s : List Nat} (hk : k < T.length) : ((T.set k s).getD j []).getD q 0 = (T.getD j []).getD q 0 ^^^ (if j = k then (T.getD k []).getD q 0 ^^^ s.getD q 0 else 0) := by
  rw [getD_set hk]
  by_cases h : j = k
  · subst h
    rw [if_pos rfl, if_pos rfl, ← Nat.xor_assoc, Nat.xor_self, Nat.zero_xor]
  · rw [if_neg h, if_neg h, Nat.xor_zero]
theorem psum_set' {T : List (List Nat)} {k : Nat} {s : List Nat} (hT : Secs T) (hs : Sec s) (hk : k < T.length) : psum (T.set k s) T.length = xorL (psum T T.length) (xorL (T.getD k []) s) := by
  have h1 := psum_sec hT _ (Nat.le_refl _)
  have h2 := xorL_sec (hT.at hk) hs
  have h3 : Secs (T.set k s) := set_secs hT hs
  have hl : (T.set k s).length = T.length := List.length_set
  refine sec_ext (psum_sec h3 _ (by rw [hl]; exact Nat.le_refl _)) (xorL_sec h1 h2) fun q hq => ?_
  rw [psum_get h3 hq _ (by rw [hl]; exact Nat.le_refl _), xorL_get (by rw [h1.len]; exact hq) (by rw [h2.len]; exact hq), psum_get hT hq _ (Nat.le_refl _), xorL_get (by rw [(hT.at hk).len]; exact hq) (by rw [hs.len]; exact hq)]
  rw [xS_congr _ (fun j _ => set_byte (q := q) (j := j) hk), xS_xor, xS_one, if_pos hk]
theorem qsum_set' {T : List (List Nat)} {k : Nat} {s : List Nat} (hT : Secs T) (hs : Sec s) (hk : k < T.length) : qsum (T.set k s) T.length = xorL (qsum T T.length) (mulL (xorL (T.getD k []) s) (pwZ (k : Int))) := by
  have h1 := qsum_sec hT _ (Nat.le_refl _)
  have h2 := xorL_sec (hT.at hk) hs
  have h4 := mulL_sec (f := pwZ (k : Int)) h2
  have h3 : Secs (T.set k s) := set_secs hT hs
  have hl : (T.set k s).length = T.length := List.length_set
  refine sec_ext (qsum_sec h3 _ (by rw [hl]; exact Nat.le_refl _)) (xorL_sec h1 h4) fun q hq => ?_
  rw [qsum_get h3 hq _ (by rw [hl]; exact Nat.le_refl _), xorL_get (by rw [h1.len]; exact hq) (by rw [h4.len]; exact hq), qsum_get hT hq _ (Nat.le_refl _), mulL_get (by rw [h2.len]; exact hq), xorL_get (by rw [(hT.at hk).len]; exact hq) (by rw [hs.len]; exact hq), pwZ_nat]
  have hb := xor_lt ((hT.at hk).get q) (hs.get q)
  rw [← show (if k < T.length then gmul ((T.getD k []).getD q 0 ^^^ s.getD q 0) (pw k) else 0) = gmul ((T.getD k []).getD q 0 ^^^ s.getD q 0) (pw k) from if_pos hk, ← xS_one, ← xS_xor]
  refine xS_congr _ fun j hj => ?_
  rw [set_byte hk]
  by_cases h : j = k
  · subst h
    rw [if_pos rfl, if_pos rfl, gmul_xor_left _ (byte_lt hT _ _) hb]
  · rw [if_neg h, if_neg h, Nat.xor_zero, Nat.xor_zero]
theorem wri_row {T : List (List Nat)} {k : Nat} {s : List Nat} (hT : Secs T) (hs : Sec s) (hk : k < T.length) : wri T.length (rowOf T) k s = rowOf (T.set k s) := by
  have hl : (T.set k s).length = T.length := List.length_set
  unfold wri wriP wriQ
  rw [rowOf_p, rowOf_q, rowOf_lo hk, ← psum_set' hT hs hk, ← qsum_set' hT hs hk]
  unfold rowOf
  rw [hl, List.set_append, if_pos hk, List.set_append, if_neg (by rw [hl]; exact Nat.lt_irrefl _), hl, Nat.sub_self, List.set_append, if_neg (by rw [hl]; omega), hl, show T.length + 1 - T.length = 1 by omega]
  rfl
theorem xor_ne {a b s : List Nat} (ha : Sec a) (hb : Sec b) (hs : Sec s) : xorL a (xorL b s) = a ↔ s = b := by
  constructor
  · intro h
    refine sec_ext hs hb fun q hq => ?_
    have h1 := congrArg (fun l : List Nat => l.getD q 0) h
    have h1 : (xorL a (xorL b s)).getD q 0 = a.getD q 0 := h1
    have h2 := xorL_sec hb hs
    rw [xorL_get (by rw [ha.len]; exact hq) (by rw [h2.len]; exact hq), xorL_get (by rw [hb.len]; exact hq) (by rw [hs.len]; exact hq)] at h1
    have h3 : b.getD q 0 ^^^ s.getD q 0 = 0 := by
      have := congrArg (a.getD q 0 ^^^ ·) h1
      simpa [← Nat.xor_assoc] using this
    exact (eq_of_xor h3).symm
  · rintro rfl
    have h2 := xorL_sec hb hs
    refine sec_ext (xorL_sec ha h2) ha fun q hq => ?_
    rw [xorL_get (by rw [ha.len]; exact hq) (by rw [h2.len]; exact hq), xorL_get (by rw [hb.len]; exact hq) (by rw [hs.len]; exact hq), Nat.xor_self, Nat.xor_zero]
theorem xorm_ne {a b s : List Nat} {k : Nat} (ha : Sec a) (hb : Sec b) (hs : Sec s) : xorL a (mulL (xorL b s) (pwZ (k : Int))) = a ↔ s = b := by
  have h2 := xorL_sec hb hs
  have h4 := mulL_sec (f := pwZ (k : Int)) h2
  constructor
  · intro h
    refine sec_ext hs hb fun q hq => ?_
    have h1 : (xorL a (mulL (xorL b s) (pwZ (k : Int)))).getD q 0 = a.getD q 0 := congrArg (fun l : List Nat => l.getD q 0) h
    rw [xorL_get (by rw [ha.len]; exact hq) (by rw [h4.len]; exact hq), mulL_get (by rw [h2.len]; exact hq), xorL_get (by rw [hb.len]; exact hq) (by rw [hs.len]; exact hq)] at h1
    have h3 : gmul (b.getD q 0 ^^^ s.getD q 0) (pwZ (k : Int)) = 0 := by
      have := congrArg (a.getD q 0 ^^^ ·) h1
      simpa [← Nat.xor_assoc] using this
    exact (eq_of_xor (((gmul_eq_zero (xor_lt (hb.get q) (hs.get q)) (pwZ_lt _)).1 h3).resolve_right (pwZ_ne_zero _))).symm
  · rintro rfl
    refine sec_ext (xorL_sec ha h4) ha fun q hq => ?_
    rw [xorL_get (by rw [ha.len]; exact hq) (by rw [h4.len]; exact hq), mulL_get (by rw [h2.len]; exact hq), xorL_get (by rw [hb.len]; exact hq) (by rw [hs.len]; exact hq), Nat.xor_self, gmul_zero_left _ (pwZ_lt _), Nat.xor_zero]
theorem hold_mem {p : Nat → Bool} {N : Nat} {x : Int} : x ∈ hold p N ↔ ∃ k : Nat, x = k ∧ k < N ∧ p k = true := by
  unfold hold
  rw [List.mem_map]
  constructor
  · rintro ⟨k, h1, rfl⟩
    obtain ⟨h2, h3⟩ := List.mem_filter.1 h1
    exact ⟨k, rfl, List.mem_range.1 h2, h3⟩
  · rintro ⟨k, rfl, h1, h2⟩
    exact ⟨k, List.mem_filter.2 ⟨List.mem_range.2 h1, h2⟩, rfl⟩
theorem hold_rise (p : Nat → Bool) (N : Nat) : (hold p N).Pairwise (· < ·) := by
  unfold hold
  rw [List.pairwise_map]
  refine List.Pairwise.imp (fun h => ?_) (List.Pairwise.filter _ List.pairwise_lt_range)
  exact Int.ofNat_lt.2 h
/-- What is told of a writing to a right row. -/
theorem oth_row {T : List (List Nat)} {k : Nat} {s : List Nat} (hT : Secs T) (hs : Sec s) (hk : k < T.length) : othL (T.length + 2) (rowOf T) (rowOf (T.set k s)) = if s = T.getD k [] then [] else [(k : Int), (T.length : Int), ((T.length + 1 : Nat) : Int)] := by
  have hl : (T.set k s).length = T.length := List.length_set
  by_cases h : s = T.getD k []
  · rw [if_pos h]
    have e : T.set k s = T := by
      rw [h]
      refine list_eq List.length_set fun j hj => ?_
      rw [getD_set hk]
      by_cases c : j = k
      · rw [if_pos c, c]
      · rw [if_neg c]
    rw [e]
    refine List.eq_nil_iff_forall_not_mem.2 fun x hx => ?_
    obtain ⟨j, _, _, hj⟩ := hold_mem.1 hx
    unfold othr at hj
    simp at hj
  · rw [if_neg h]
    have a1 : ∀ j, j < T.length → (othr (rowOf T) (rowOf (T.set k s)) j = true ↔ j = k) := fun j hj => by
      unfold othr
      rw [decide_eq_true_iff, rowOf_lo hj, rowOf_lo (by rw [hl]; exact hj), getD_set hk]
      by_cases c : j = k
      · subst c; rw [if_pos rfl]; exact ⟨fun _ => rfl, fun _ => h⟩
      · rw [if_neg c]; exact ⟨fun f => absurd rfl f, fun f => absurd f c⟩
    have a2 : othr (rowOf T) (rowOf (T.set k s)) T.length = true := by
      unfold othr
      have := rowOf_p (T.set k s)
      rw [hl] at this
      rw [decide_eq_true_iff, rowOf_p, this, psum_set' hT hs hk, xor_ne (psum_sec hT _ (Nat.le_refl _)) (hT.at hk) hs]
      exact h
    have a3 : othr (rowOf T) (rowOf (T.set k s)) (T.length + 1) = true := by
      unfold othr
      have := rowOf_q (T.set k s)
      rw [hl] at this
      rw [decide_eq_true_iff, rowOf_q, this, qsum_set' hT hs hk, xorm_ne (qsum_sec hT _ (Nat.le_refl _)) (hT.at hk) hs]
      exact h
    refine risE _ _ (hold_rise _ _) ?_ fun x => ?_
    · simp; omega
    · rw [hold_mem]
      constructor
      · rintro ⟨j, rfl, h1, h2⟩
        by_cases c : j < T.length
        · rw [(a1 j c).1 h2]; simp
        · have : j = T.length ∨ j = T.length + 1 := by omega
          rcases this with rfl | rfl <;> simp
      · intro hx
        simp only [List.mem_cons, List.not_mem_nil, or_false] at hx
        rcases hx with rfl | rfl | rfl
        · exact ⟨k, rfl, by omega, (a1 k hk).2 rfl⟩
        · exact ⟨T.length, rfl, by omega, a2⟩
        · exact ⟨T.length + 1, rfl, by omega, a3⟩
end Go.Proofs.Ytdmcbfmpnakdfaa.Eng.St
namespace Go.Proofs.Ytdmcbfmpnakdfaa.Eng.St
open Go Go.RowKit Go.Shelf Go.Proofs Go.Proofs.Ytdmcbfmpnakdfaa.Gf Go.Proofs.Ytdmcbfmpnakdfaa.Rf
set_option maxRecDepth 20000
set_option maxHeartbeats 1000000
theorem lostN_mem {n : Nat} {K : List Nat} {k : Nat} : k ∈ lostN n K ↔ k < n ∧ K.getD k 0 = 0 := by
  unfold lostN gone
  rw [List.mem_filter, List.mem_range, decide_eq_true_iff]
theorem lostN_nodup (n : Nat) (K : List Nat) : (lostN n K).Nodup := List.Pairwise.filter _ List.nodup_range
theorem lostN_asc (n : Nat) (K : List Nat) : (lostN n K).Pairwise (· < ·) := List.Pairwise.filter _ List.pairwise_lt_range
theorem lostN_ext {n : Nat} {K M : List Nat} (h : ∀ k, k < n → (K.getD k 0 = 0 ↔ M.getD k 0 = 0)) : lostN n K = lostN n M := by
  unfold lostN
  refine List.filter_congr fun k hk => ?_
  unfold gone
  rw [decide_eq_decide]
  exact h k (List.mem_range.1 hk)
theorem getD_setN {K : List Nat} {i j v : Nat} (hi : i < K.length) : (K.set i v).getD j 0 = if j = i then v else K.getD j 0 := by
  rw [List.getD_eq_getElem?_getD, List.getElem?_set]
  by_cases h : i = j
  · subst h
    rw [if_pos rfl, if_pos hi, if_pos rfl]
    rfl
  · rw [if_neg h, if_neg (fun e => h e.symm), ← List.getD_eq_getElem?_getD]
theorem setK_get : ∀ {ks K : List Nat} {j : Nat}, (∀ k ∈ ks, k < K.length) → (setK K ks).getD j 0 = if j ∈ ks then 1 else K.getD j 0
  | [], K, j, _ => by simp [setK]
  | k :: ks, K, j, h => by
    show (setK (K.set k 1) ks).getD j 0 = _
    rw [setK_get (fun x hx => by rw [List.length_set]; exact h x (List.mem_cons_of_mem _ hx)), getD_setN (h k List.mem_cons_self)]
    by_cases h1 : j ∈ ks
    · rw [if_pos h1, if_pos (List.mem_cons_of_mem _ h1)]
    · rw [if_neg h1]
      by_cases h2 : j = k
      · rw [if_pos h2, if_pos (by rw [h2]; exact List.mem_cons_self)]
      · rw [if_neg h2, if_neg (by rw [List.mem_cons]; exact fun h => h.elim h2 h1)]
/-- Behind a mending nothing is lost. -/
theorem setK_some {n : Nat} {K : List Nat} (hK : K.length = n) {j : Nat} (hj : j < n) : (setK K (lostN n K)).getD j 0 ≠ 0 := by
  rw [setK_get (fun k hk => by rw [hK]; exact lostN_lt k hk)]
  by_cases h : j ∈ lostN n K
  · rw [if_pos h]; decide
  · rw [if_neg h]
    intro e
    exact h (lostN_mem.2 ⟨hj, e⟩)
theorem lostN_nil {n : Nat} {K : List Nat} (h : ∀ j, j < n → K.getD j 0 ≠ 0) : lostN n K = [] :=
  List.eq_nil_iff_forall_not_mem.2 fun k hk => h k (lostN_mem.1 hk).1 (lostN_mem.1 hk).2
theorem setK_lost {n : Nat} {K : List Nat} (hK : K.length = n) : lostN n (setK K (lostN n K)) = [] := lostN_nil fun _ hj => setK_some hK hj
/-- What is lost comes back. -/
theorem fix_back {T L : List (List Nat)} {K : List Nat} (hT : Secs T) (h1 : 1 ≤ T.length) (h62 : T.length ≤ 62) (hS : Secs L) (hL : L.length = T.length + 2) (h2 : (lostN (T.length + 2) K).length ≤ 2)
    (h : ∀ j, j < T.length + 2 → K.getD j 0 ≠ 0 → L.getD j [] = (rowOf T).getD j []) : fixR L (T.length + 2 - 2) (lostN (T.length + 2) K) = rowOf T := by
  rw [show T.length + 2 - 2 = T.length by omega]
  refine fixR_right (rowOf_secs hT) hS (rowOf_len T) hL h62 (by rw [rowOf_ps, rowOf_p]) (by rw [rowOf_qs, rowOf_q]) lostN_lt h2 (fun i j e => ?_) fun j hj hn => h j hj fun e => hn (lostN_mem.2 ⟨hj, e⟩)
  have := lostN_asc (T.length + 2) K
  rw [e] at this
  exact (List.pairwise_cons.1 this).1 j (by simp)
/-- Fix looks at nothing that is lost. -/
theorem fix_same {L M : List (List Nat)} {n m : Nat} {K : List Nat} (hL : L.length = n) (hM : M.length = n) (h : ∀ j, j < n → K.getD j 0 ≠ 0 → L.getD j [] = M.getD j []) : fixR L m (lostN n K) = fixR M m (lostN n K) := by
  have e : zeroed L (lostN n K) = zeroed M (lostN n K) := by
    refine list_eq (by rw [zeroed_length, zeroed_length, hL, hM]) fun j hj => ?_
    rw [zeroed_length, hL] at hj
    rw [zeroed_get (fun k hk => by rw [hL]; exact lostN_lt k hk), zeroed_get (fun k hk => by rw [hM]; exact lostN_lt k hk)]
    by_cases c : j ∈ lostN n K
    · rw [if_pos c, if_pos c]
    · rw [if_neg c, if_neg c]
      exact h j hj fun e => c (lostN_mem.2 ⟨hj, e⟩)
  unfold fixR
  rw [e]
/-- How many are lost of three that may be one. -/
theorem lost_count {n : Nat} {K S : List Nat} (hS : S.Nodup) (h : ∀ k, (k < n ∧ K.getD k 0 = 0) ↔ k ∈ S) : (lostN n K).length = S.length :=
  ((List.perm_ext_iff_of_nodup (lostN_nodup n K) hS).2 fun k => by rw [lostN_mem, h]).length_eq
theorem lost_two {n i k : Nat} {K : List Nat} (h : ∀ j, (j < n ∧ K.getD j 0 = 0) ↔ j = i ∨ j = k) : (lostN n K).length = if i = k then 1 else 2 := by
  by_cases e : i = k
  · rw [if_pos e, lost_count (S := [i]) (by simp) (fun j => by rw [h]; simp [← e])]; rfl
  · rw [if_neg e, lost_count (S := [i, k]) (by simp [e]) (fun j => by rw [h]; simp)]; rfl
theorem lost_three {n i k m : Nat} {K : List Nat} (h : ∀ j, (j < n ∧ K.getD j 0 = 0) ↔ j = i ∨ j = k ∨ j = m) : ((lostN n K).length = 3 ↔ (i ≠ k ∧ k ≠ m ∧ i ≠ m)) ∧ (lostN n K).length ≤ 3 ∧ 0 < (lostN n K).length := by
  by_cases a : i = k <;> by_cases b : k = m <;> by_cases c : i = m
  all_goals first | omega | skip
  · have := lost_count (S := [i]) (by simp) (fun j => by rw [h]; simp [← a, ← b, ← c]) ; simp at this; omega
  · have := lost_count (S := [i, m]) (by simp [c]) (fun j => by rw [h]; simp [← a]) ; simp at this; omega
  · have := lost_count (S := [i, k]) (by simp [a]) (fun j => by rw [h]; simp [← b]) ; simp at this; omega
  · have := lost_count (S := [i, k]) (by simp [a]) (fun j => by rw [h]; simp [← c]; omega) ; simp at this; omega
  · have := lost_count (S := [i, k, m]) (by simp [a, b, c]) (fun j => by rw [h]; simp) ; simp at this; omega
end Go.Proofs.Ytdmcbfmpnakdfaa.Eng.St
/- A right row made of data. -/
namespace Go.Proofs.Ytdmcbfmpnakdfaa.Eng.St
open Go Go.RowKit Go.Shelf Go.Proofs Go.Proofs.Ytdmcbfmpnakdfaa.Gf Go.Proofs.Ytdmcbfmpnakdfaa.Rf
set_option maxRecDepth 20000
set_option maxHeartbeats 4000000
theorem c22 : Callable Try.prog 22 := ⟨⟨_, Try.func22, by kernel_rfl, by kernel_rfl⟩⟩
/-- The first k of A stand, behind them the first value. -/
def fl {α : Type} (A : List α) (z : α) (k : Nat) : List α := A.take k ++ List.replicate (A.length - k) z
theorem fl_len {α : Type} {A : List α} {z : α} {k : Nat} (h : k ≤ A.length) : (fl A z k).length = A.length := by simp [fl]; omega
theorem fl_zero {α : Type} {A : List α} {z : α} : fl A z 0 = List.replicate A.length z := by simp [fl]
theorem fl_full {α : Type} {A : List α} {z : α} : fl A z A.length = A := by simp [fl]
theorem fl_at {α : Type} {A : List α} {z d : α} {k : Nat} (h : k < A.length) : (fl A z k).getD k d = z := by
  unfold fl
  rw [List.getD_eq_getElem?_getD, List.getElem?_append_right (by simp; omega), List.getElem?_replicate, if_pos (by simp; omega)]; rfl
theorem fl_set {α : Type} {A : List α} {z d : α} {k : Nat} (h : k < A.length) : (fl A z k).set k (A.getD k d) = fl A z (k + 1) := by
  unfold fl
  have e : A.length - k = (A.length - (k + 1)) + 1 := by omega
  rw [List.set_append, if_neg (by simp; omega), show k - (A.take k).length = 0 by simp; omega, e, List.replicate_succ, List.set_cons_zero, List.take_succ_eq_append_getElem h, List.append_assoc, List.getD_eq_getElem?_getD, List.getElem?_eq_getElem h]
  rfl
abbrev ones (n : Nat) : List Nat := List.replicate n 1
/-- One put of the row's making. -/
theorem put_fl {n : Nat} {L : List (List Nat)} {k : Nat} (hL : L.length = n) (hk : k < n) (hn : n < 2 ^ 32) :
    FunT Try.prog 52 [rpV, iv (k : Nat), secV (L.getD k [])] (rw3 false n (fl L (zs 64) k) (fl (ones n) 0 k)) (iv 0) (rw3 false n (fl L (zs 64) (k + 1)) (fl (ones n) 0 (k + 1))) := by
  have l1 : (ones n).length = n := List.length_replicate
  have := put_in false n (fl L (zs 64) k) (fl (ones n) 0 k) k (L.getD k []) hk hn (by rw [fl_len (by omega), hL]) (by rw [fl_len (by omega), l1]) (by rw [fl_at (by omega)]; decide)
  rw [fl_set (by omega), fl_at (by omega)] at this
  have e : (ones n).getD k 0 = 0 + 1 := by
    unfold ones
    rw [List.getD_eq_getElem?_getD, List.getElem?_replicate, if_pos hk]; rfl
  rw [← e, fl_set (by omega)] at this
  exact this
def rigI (c : Option Nat) (T : List (List Nat)) (p q : List Nat) (k : Nat) : LTm × LHp :=
  ([.sc (.sl 0 0 64 T.length c), .junk, .junk, .sc (.ptr 1 0 2 0), .junk, .sc (.ptr 4 0 64 0), .sc (.ptr 5 0 64 0), .junk, iv (k : Nat), .junk, .junk, .junk, .junk, .junk, .junk, .junk, .junk, .junk, .junk, .junk, .junk, .junk, .junk, .junk, .junk, .junk, .junk, .junk, .junk, .junk, .junk, .junk, .junk, .junk, .junk, .junk, .junk, .junk, .junk, .junk, .junk, .junk, .junk, .junk, .junk, .junk, .junk, .junk, .junk, .junk, .junk, .junk, .junk],
   [rowS T, some (.row .one 108 2 [[.one (.sl 2 0 64 (T.length + 2) (some (T.length + 2))), .one (.sl 3 0 1 (T.length + 2) (some (T.length + 2)))]] [2, 3]),
    colB false (fl (rowOf T) (zs 64) k), knB (fl (ones (T.length + 2)) 0 k), secB p, secB q])
theorem rig_ok (c : Option Nat) (T : List (List Nat)) (hT : Secs T) (h2 : 2 ≤ T.length) (h62 : T.length ≤ 62) :
    FunT Try.prog 58 [.sc (.sl 0 0 64 T.length c)] [rowS T] (.sc (.ptr 1 0 2 0)) [rowS T, some (.row .one 108 2 [[.one (.sl 2 0 64 (T.length + 2) (some (T.length + 2))), .one (.sl 3 0 1 (T.length + 2) (some (T.length + 2)))]] [2, 3]), colB false (rowOf T), knB (ones (T.length + 2))] := by
  have e1 : arithI .add .i64 (T.length : Nat) 2 = some ((T.length + 2 : Nat) : Int) := add_nat (b := 2) (by omega) (by decide)
  have e2 : arithI .add .i64 (T.length : Nat) 1 = some ((T.length + 1 : Nat) : Int) := inc_nat (by omega)
  have n0 := new_ok (T.length + 2) (by omega) (by omega)
  have o0 := of_ok T T.length c hT (Nat.le_refl _)
  have q1 : ofE T.length = 0 := by unfold ofE; rw [if_neg (by omega), if_neg (by omega)]
  have q2 : ofP T T.length = psum T T.length := by unfold ofP; rw [if_neg (by omega), if_neg (by omega)]
  have q3 : ofQ T T.length = qsum T T.length := by unfold ofQ; rw [if_neg (by omega), if_neg (by omega)]
  rw [q1, q2, q3] at o0
  have hl := rowOf_len T
  have pc := fun k (hk : k < T.length + 2) => put_fl (L := rowOf T) hl hk (by omega)
  have z1 : List.replicate (T.length + 2) (zs 64) = fl (rowOf T) (zs 64) 0 := by rw [fl_zero, hl]
  have z2 : List.replicate (T.length + 2) 0 = fl (ones (T.length + 2)) 0 0 := by rw [fl_zero, List.length_replicate]
  rw [z1, z2] at n0
  have pp := pc T.length (by omega)
  have pq := pc (T.length + 1) (by omega)
  rw [rowOf_p] at pp
  rw [rowOf_q] at pq
  have y1 : fl (rowOf T) (zs 64) (T.length + 1 + 1) = rowOf T := by rw [show T.length + 1 + 1 = (rowOf T).length from hl.symm, fl_full]
  have y2 : fl (ones (T.length + 2)) 0 (T.length + 1 + 1) = ones (T.length + 2) := by
    have : (ones (T.length + 2)).length = T.length + 1 + 1 := List.length_replicate
    have h := fl_full (A := ones (T.length + 2)) (z := 0)
    rwa [this] at h
  rw [y1, y2] at pq
  generalize psum T T.length = p at *
  generalize qsum T T.length = q at *
  obtain ⟨I, hI⟩ : ∃ I, I = rigI c T p q := ⟨_, rfl⟩
  cases c <;>
  · refine FunT.ev tabOk mixed Try.func58 rfl ?_
    conv => whnf
    repeat (first | (refine ⟨(by kernel_rfl : chkR _ _ _ _ = true), ?_⟩; conv => whnf) | (refine EvOr.go ?_; conv => whnf))
    refine ⟨_, e1, ?_⟩
    conv => whnf
    repeat (first | (refine ⟨(by kernel_rfl : chkR _ _ _ _ = true), ?_⟩; conv => whnf) | (refine EvOr.go ?_; conv => whnf))
    refine CallG.use n0 c50 [] [] ?_ ?_ ?_ ?_ ?_ ?_; rfl; rfl; kernel_rfl; rfl; rfl
    conv => whnf
    repeat (first | (refine ⟨(by kernel_rfl : chkR _ _ _ _ = true), ?_⟩; conv => whnf) | (refine EvOr.go ?_; conv => whnf))
    refine CallG.use o0 c22 [0] [] ?_ ?_ ?_ ?_ ?_ ?_; rfl; rfl; kernel_rfl; rfl; rfl
    conv => whnf
    repeat (first | (refine ⟨(by kernel_rfl : chkR _ _ _ _ = true), ?_⟩; conv => whnf) | (refine EvOr.go ?_; conv => whnf))
    repeat (intro c hc; simp [] at hc; subst hc; (conv => whnf); repeat (first | (refine ⟨(by kernel_rfl : chkR _ _ _ _ = true), ?_⟩; (conv => whnf)) | (refine EvOr.go ?_; (conv => whnf))))
    refine CodeT.loopN tabOk mixed I T.length _ (StW.ofP [0, 1, 2, 3, 4, 5] ?_ ?_ ?_) (fun k => by subst hI; rfl) ?_
    · subst hI; kernel_rfl
    · subst hI; rfl
    · subst hI; rfl
    intro k hkl
    subst hI
    show evC Try.prog tab _ _ (rigI _ T p q k).1 (rigI _ T p q k).2 _
    by_cases hk : k < T.length
    · have g1 := row_at (S := T) hk
      have pk := pc k (by omega)
      rw [rowOf_lo hk] at pk
      unfold rigI
      conv => whnf
      repeat (first | (refine ⟨(by kernel_rfl : chkR _ _ _ _ = true), ?_⟩; conv => whnf) | (refine EvOr.go ?_; conv => whnf))
      intro c hc
      obtain rfl : c = true := by rw [hc]; exact decide_eq_true (by omega)
      conv => whnf
      repeat (first | (refine ⟨(by kernel_rfl : chkR _ _ _ _ = true), ?_⟩; conv => whnf) | (refine EvOr.go ?_; conv => whnf))
      refine ⟨⟨by omega, by omega⟩, ?_⟩
      conv => whnf
      repeat (first | (refine ⟨(by kernel_rfl : chkR _ _ _ _ = true), ?_⟩; conv => whnf) | (refine EvOr.go ?_; conv => whnf))
      refine ⟨_, g1, ?_⟩
      conv => whnf
      repeat (first | (refine ⟨(by kernel_rfl : chkR _ _ _ _ = true), ?_⟩; conv => whnf) | (refine EvOr.go ?_; conv => whnf))
      refine CallG.use pk c52 [1, 2, 3] [1, 2] ?_ ?_ ?_ ?_ ?_ ?_; rfl; rfl; kernel_rfl; rfl; rfl
      conv => whnf
      repeat (first | (refine ⟨(by kernel_rfl : chkR _ _ _ _ = true), ?_⟩; conv => whnf) | (refine EvOr.go ?_; conv => whnf))
      refine ⟨_, inc_nat (by omega), ?_⟩
      conv => whnf
      repeat (first | (refine ⟨(by kernel_rfl : chkR _ _ _ _ = true), ?_⟩; conv => whnf) | (refine EvOr.go ?_; conv => whnf))
      refine ⟨by first | exact hk | omega, _, StW.ofP [0, 1, 2, 3, 4, 5] ?_ ?_ ?_⟩
      · kernel_rfl
      · rfl
      · rfl
    · obtain rfl : k = T.length := by omega
      unfold rigI
      conv => whnf
      repeat (first | (refine ⟨(by kernel_rfl : chkR _ _ _ _ = true), ?_⟩; conv => whnf) | (refine EvOr.go ?_; conv => whnf))
      intro c hc
      obtain rfl : c = false := by rw [hc]; exact decide_eq_false (by omega)
      conv => whnf
      repeat (first | (refine ⟨(by kernel_rfl : chkR _ _ _ _ = true), ?_⟩; conv => whnf) | (refine EvOr.go ?_; conv => whnf))
      refine CallG.use pp c52 [1, 2, 3] [1, 2] ?_ ?_ ?_ ?_ ?_ ?_; rfl; rfl; kernel_rfl; rfl; rfl
      conv => whnf
      repeat (first | (refine ⟨(by kernel_rfl : chkR _ _ _ _ = true), ?_⟩; conv => whnf) | (refine EvOr.go ?_; conv => whnf))
      refine ⟨_, e2, ?_⟩
      conv => whnf
      repeat (first | (refine ⟨(by kernel_rfl : chkR _ _ _ _ = true), ?_⟩; conv => whnf) | (refine EvOr.go ?_; conv => whnf))
      refine CallG.use pq c52 [1, 2, 3] [1, 2] ?_ ?_ ?_ ?_ ?_ ?_; rfl; rfl; kernel_rfl; rfl; rfl
      conv => whnf
      repeat (first | (refine ⟨(by kernel_rfl : chkR _ _ _ _ = true), ?_⟩; conv => whnf) | (refine EvOr.go ?_; conv => whnf))
      exact retQ.one rfl (.inr rfl) rfl (Nat.le_of_ble_eq_true rfl) rfl
end Go.Proofs.Ytdmcbfmpnakdfaa.Eng.St
/- The laws' arguments; StripeStays, walked whole. -/
namespace Go.Proofs.Ytdmcbfmpnakdfaa.Oa
open Go Go.Proofs.Ytdmcbfmpnakdfaa.Eng
/-- A slice that may be nil (none), or of a capacity. -/
def slA (c : Option Nat) (sz n id : Nat) : SV := match c with
  | none => nilS
  | some k => .sl id 0 sz n (some k)
def secsB (c : Option Nat) (l : List (List Nat)) : Option ABlk := match c with
  | none => none
  | some _ => rowS l
def slOk {α : Type} (c : Option Nat) (l : List α) : Prop := match c with
  | none => l = []
  | some k => l.length ≤ k ∧ k < 2 ^ 63
/-- An act. -/
structure ActS where
  w : Int
  c : Int
  s : List Nat
def actS (a : ActS) : Segs := [.one (.raw (.int .i64 a.w)), .one (.raw (.int .i64 a.c)), .byt 64 a.s]
abbrev rowA (l : List ActS) : Option ABlk := some (.row .ro 83 66 (l.map actS) [])
def actB (c : Option Nat) (l : List ActS) : Option ABlk := match c with
  | none => none
  | some _ => rowA l
structure ActS.Ok (a : ActS) : Prop where
  w : -2 ^ 63 ≤ a.w ∧ a.w < 2 ^ 63
  c : -2 ^ 63 ≤ a.c ∧ a.c < 2 ^ 63
  s : Sec a.s
end Go.Proofs.Ytdmcbfmpnakdfaa.Oa
namespace Go.Proofs.Ytdmcbfmpnakdfaa.Eng.St
open Go Go.RowKit Go.Shelf Go.Proofs Go.Proofs.Ytdmcbfmpnakdfaa.Gf Go.Proofs.Ytdmcbfmpnakdfaa.Rf Go.Proofs.Ytdmcbfmpnakdfaa.Oa
set_option maxRecDepth 20000
set_option maxHeartbeats 8000000
theorem col_pos {n : Nat} {c : Int} (hn : 0 < n) (h : ¬ c.tmod n < 0) : c.tmod n = ((c % (n : Int)).toNat : Int) := by
  have h0 := Int.emod_nonneg c (show (n : Int) ≠ 0 by omega)
  have h1 := Int.emod_lt_of_pos c (show (0 : Int) < n by omega)
  have := @Int.tmod_eq_emod c n
  split at this <;> simp at this <;> omega
theorem col_neg {n : Nat} {c : Int} (hn : 0 < n) (h : c.tmod n < 0) : c.tmod n + n = ((c % (n : Int)).toNat : Int) := by
  have h0 := Int.emod_nonneg c (show (n : Int) ≠ 0 by omega)
  have h1 := Int.emod_lt_of_pos c (show (0 : Int) < n by omega)
  have := @Int.tmod_eq_emod c n
  split at this <;> simp at this <;> omega
/-- A column, counted modulo how many there are. -/
def colOf (n : Nat) (c : Int) : Nat := (c % (n : Int)).toNat
theorem colOf_lt {n : Nat} (hn : 0 < n) (c : Int) : colOf n c < n := by
  have h0 := Int.emod_nonneg c (show (n : Int) ≠ 0 by omega)
  have h1 := Int.emod_lt_of_pos c (show (0 : Int) < n by omega)
  unfold colOf; omega
theorem col_rem {n : Nat} (hn : 0 < n) (hb : n < 2 ^ 62) (c : Int) : arithI .rem .i64 c (n : Nat) = some (c.tmod n) := by
  obtain ⟨m, rfl⟩ : ∃ m, n = m + 1 := ⟨n - 1, by omega⟩
  rfl
theorem col_add {n : Nat} {c : Int} (hn : 0 < n) (hb : n < 2 ^ 62) (h : c.tmod n < 0) : arithI .add .i64 (c.tmod n) (n : Nat) = some ((colOf n c : Nat) : Int) := by
  have h1 := col_neg hn h
  have h2 := colOf_lt hn c
  show some (IntKind.i64.wrap _) = _
  rw [h1]
  unfold colOf at h2 ⊢
  rw [IntWalk.i64_in _ ⟨by omega, by omega⟩]
theorem act_at {l : List ActS} {k : Nat} (hk : k < l.length) : (l.map actS)[0 + (k : Int).toNat]? = some (actS l[k]) := by
  simp [hk]
theorem rig_bad (c : Option Nat) (T : List (List Nat)) (hc : slOk c T) (hT : Secs T) (hn : ¬ (2 ≤ T.length ∧ T.length ≤ 62)) : FunT Try.prog 58 [.sc (slA c 64 T.length 0)] [secsB c T] nilP [secsB c T] := by
  cases c with
  | none =>
    obtain rfl : T = [] := hc
    have n0 := new_bad 2 (by decide)
    refine FunT.ev tabOk mixed Try.func58 rfl ?_
    conv => whnf
    repeat (first | (refine ⟨(by kernel_rfl : chkR _ _ _ _ = true), ?_⟩; conv => whnf) | (refine EvOr.go ?_; conv => whnf))
    refine ⟨2, rfl, ?_⟩
    conv => whnf
    repeat (first | (refine ⟨(by kernel_rfl : chkR _ _ _ _ = true), ?_⟩; conv => whnf) | (refine EvOr.go ?_; conv => whnf))
    refine CallG.use n0 c50 [] [] ?_ ?_ ?_ ?_ ?_ ?_; rfl; rfl; kernel_rfl; rfl; rfl
    conv => whnf
    repeat (first | (refine ⟨(by kernel_rfl : chkR _ _ _ _ = true), ?_⟩; conv => whnf) | (refine EvOr.go ?_; conv => whnf))
    refine CallG.use of_nil c22 [] [] ?_ ?_ ?_ ?_ ?_ ?_; rfl; rfl; kernel_rfl; rfl; rfl
    conv => whnf
    repeat (first | (refine ⟨(by kernel_rfl : chkR _ _ _ _ = true), ?_⟩; conv => whnf) | (refine EvOr.go ?_; conv => whnf))
    repeat (intro c hc; simp [] at hc; subst hc; (conv => whnf); repeat (first | (refine ⟨(by kernel_rfl : chkR _ _ _ _ = true), ?_⟩; (conv => whnf)) | (refine EvOr.go ?_; (conv => whnf))))
    exact retQ.one rfl (.inr rfl) rfl (Nat.le_of_ble_eq_true rfl) rfl
  | some k =>
    have hb : T.length ≤ k ∧ k < 2 ^ 63 := hc
    have e1 : arithI .add .i64 (T.length : Nat) 2 = some (IntKind.i64.wrap ((T.length : Nat) + 2)) := rfl
    have n0 := new_bad (IntKind.i64.wrap ((T.length : Nat) + 2)) (by rw [IntKind.wrap_i64]; omega)
    have o0 := of_ok T T.length (some k) hT (Nat.le_refl _)
    generalize ofE T.length = e at *
    generalize ofP T T.length = p at *
    generalize ofQ T T.length = q at *
    show FunT Try.prog 58 [.sc (.sl 0 0 64 T.length (some k))] [rowS T] nilP [rowS T]
    refine FunT.ev tabOk mixed Try.func58 rfl ?_
    conv => whnf
    repeat (first | (refine ⟨(by kernel_rfl : chkR _ _ _ _ = true), ?_⟩; conv => whnf) | (refine EvOr.go ?_; conv => whnf))
    refine ⟨_, e1, ?_⟩
    conv => whnf
    repeat (first | (refine ⟨(by kernel_rfl : chkR _ _ _ _ = true), ?_⟩; conv => whnf) | (refine EvOr.go ?_; conv => whnf))
    refine CallG.use n0 c50 [] [] ?_ ?_ ?_ ?_ ?_ ?_; rfl; rfl; kernel_rfl; rfl; rfl
    conv => whnf
    repeat (first | (refine ⟨(by kernel_rfl : chkR _ _ _ _ = true), ?_⟩; conv => whnf) | (refine EvOr.go ?_; conv => whnf))
    refine CallG.use o0 c22 [0] [] ?_ ?_ ?_ ?_ ?_ ?_; rfl; rfl; kernel_rfl; rfl; rfl
    conv => whnf
    repeat (first | (refine ⟨(by kernel_rfl : chkR _ _ _ _ = true), ?_⟩; conv => whnf) | (refine EvOr.go ?_; conv => whnf))
    repeat (intro c hc; simp [] at hc; subst hc; (conv => whnf); repeat (first | (refine ⟨(by kernel_rfl : chkR _ _ _ _ = true), ?_⟩; (conv => whnf)) | (refine EvOr.go ?_; (conv => whnf))))
    exact retQ.one rfl (.inr rfl) rfl (Nat.le_of_ble_eq_true rfl) rfl
end Go.Proofs.Ytdmcbfmpnakdfaa.Eng.St
