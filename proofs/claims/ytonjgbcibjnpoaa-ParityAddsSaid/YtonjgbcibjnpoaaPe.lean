/- Plain law of parities: sums of lists, and changes one behind the other. -/
import Derived.Test.YtonjgbcibjnpoaaPd
namespace Go.Proofs.Ytonjgbcibjnpoaa.Pd
open Go.Proofs.Ytonjgbcibjnpoaa.Gf Go.Proofs.Ytonjgbcibjnpoaa.Sc Go.Proofs.Ytonjgbcibjnpoaa.Pb Go.Proofs.Ytonjgbcibjnpoaa.Ss Go.Proofs.Ytonjgbcibjnpoaa.Pw
variable {L M : List (List Nat)} {n i : Nat}
/-- Two lists added, the first n of them. -/
def sumL (L M : List (List Nat)) (n : Nat) : List (List Nat) := (List.range n).map fun j => xorL (L.getD j []) (M.getD j [])
/-- The first i of the one, what follows of the other. -/
def mixed (L M : List (List Nat)) (n i : Nat) : List (List Nat) := (List.range n).map fun j => if j < i then L.getD j [] else M.getD j []
theorem sumL_length : (sumL L M n).length = n := by simp [sumL]
theorem mixed_length : (mixed L M n i).length = n := by simp [mixed]
theorem sumL_at {j : Nat} (h : j < n) : (sumL L M n).getD j [] = xorL (L.getD j []) (M.getD j []) := by simp [sumL, List.getD_eq_getElem?_getD, h]
theorem mixed_at {j : Nat} (h : j < n) : (mixed L M n i).getD j [] = if j < i then L.getD j [] else M.getD j [] := by simp [mixed, List.getD_eq_getElem?_getD, h]
theorem sumL_succ : sumL L M (n + 1) = sumL L M n ++ [xorL (L.getD n []) (M.getD n [])] := by simp [sumL, List.range_succ]
theorem sumL_secs (hL : Secs L) (hM : Secs M) (h1 : n ≤ L.length) (h2 : n ≤ M.length) : Secs (sumL L M n) := fun l hl => by
  obtain ⟨j, hj, rfl⟩ := List.mem_map.1 hl
  have := List.mem_range.1 hj
  exact xorL_sec (hL.at (by omega)) (hM.at (by omega))
theorem mixed_secs (hL : Secs L) (hM : Secs M) (h1 : n ≤ L.length) (h2 : n ≤ M.length) : Secs (mixed L M n i) := fun l hl => by
  obtain ⟨j, hj, rfl⟩ := List.mem_map.1 hl
  have := List.mem_range.1 hj
  show Sec (if j < i then L.getD j [] else M.getD j [])
  split
  · exact hL.at (by omega)
  · exact hM.at (by omega)
theorem psum_congr : ∀ n, (∀ j, j < n → L.getD j [] = M.getD j []) → psum L n = psum M n
  | 0, _ => rfl
  | n + 1, h => by rw [psum, psum, psum_congr n (fun j hj => h j (by omega)), h n (by omega)]
theorem qsum_congr : ∀ n, (∀ j, j < n → L.getD j [] = M.getD j []) → qsum L n = qsum M n
  | 0, _ => rfl
  | n + 1, h => by rw [qsum, qsum, qsum_congr n (fun j hj => h j (by omega)), h n (by omega)]
theorem psum_sum (hL : Secs L) (hM : Secs M) (h1 : n ≤ L.length) (h2 : n ≤ M.length) {q : Nat} (hq : q < 64) :
    (psum L n).getD q 0 ^^^ (psum M n).getD q 0 = (psum (sumL L M n) n).getD q 0 := by
  rw [psum_get hL hq n h1, psum_get hM hq n h2, psum_get (sumL_secs hL hM h1 h2) hq n (by rw [sumL_length]; omega), ← xS_xor]
  exact xS_congr n (fun j hj => by rw [sumL_at hj, xorL_get (by rw [(hL.at (by omega)).len]; exact hq) (by rw [(hM.at (by omega)).len]; exact hq)])
theorem qsum_sum (hL : Secs L) (hM : Secs M) (h1 : n ≤ L.length) (h2 : n ≤ M.length) {q : Nat} (hq : q < 64) :
    (qsum L n).getD q 0 ^^^ (qsum M n).getD q 0 = (qsum (sumL L M n) n).getD q 0 := by
  rw [qsum_get hL hq n h1, qsum_get hM hq n h2, qsum_get (sumL_secs hL hM h1 h2) hq n (by rw [sumL_length]; omega), ← xS_xor]
  refine xS_congr n (fun j hj => ?_)
  have a := hL.at (i := j) (by omega)
  have b := hM.at (i := j) (by omega)
  rw [sumL_at hj, xorL_get (by rw [a.len]; exact hq) (by rw [b.len]; exact hq), gmul_xor_left _ (a.get q) (b.get q)]
theorem mixed_step {f g : Nat → Nat} {n i x : Nat} (hi : i < n) (h1 : ∀ j, j < n → j ≠ i → f j = g j) (h2 : f i = g i ^^^ x) : xS f n = xS g n ^^^ x := by
  have e : xS f n = xS (fun j => g j ^^^ (if j = i then x else 0)) n := xS_congr n (fun j hj => by
    by_cases h : j = i
    · rw [if_pos h, h, h2]
    · rw [if_neg h, h1 j hj h, Nat.xor_zero])
  rw [e, xS_xor, xS_one, if_pos hi]
theorem mid (a b : Nat) : a ^^^ (a ^^^ b) = b := by rw [← Nat.xor_assoc, Nat.xor_self, Nat.zero_xor]
theorem psum_change (hL : Secs L) (hM : Secs M) (h1 : n ≤ L.length) (h2 : n ≤ M.length) (hi : i < n) :
    xorL (psum (mixed L M n (i + 1)) n) (xorL (L.getD i []) (M.getD i [])) = psum (mixed L M n i) n := by
  have s1 := mixed_secs (i := i + 1) hL hM h1 h2
  have s2 := mixed_secs (i := i) hL hM h1 h2
  have a := hL.at (i := i) (by omega)
  have b := hM.at (i := i) (by omega)
  refine sec_ext (xorL_sec (psum_sec s1 n (by rw [mixed_length]; omega)) (xorL_sec a b)) (psum_sec s2 n (by rw [mixed_length]; omega)) (fun q hq => ?_)
  rw [xorL_get (by rw [(psum_sec s1 n (by rw [mixed_length]; omega)).len]; exact hq) (by rw [xorL_length a.len b.len]; exact hq), psum_get s1 hq n (by rw [mixed_length]; omega), psum_get s2 hq n (by rw [mixed_length]; omega), xorL_get (by rw [a.len]; exact hq) (by rw [b.len]; exact hq)]
  symm
  refine mixed_step hi (fun j hn hj => ?_) ?_
  · rw [mixed_at hn, mixed_at hn]
    by_cases h : j < i
    · rw [if_pos h, if_pos (by omega)]
    · rw [if_neg h, if_neg (by omega)]
  · rw [mixed_at hi, mixed_at hi, if_neg (by omega), if_pos (by omega), mid]
theorem qsum_change (hL : Secs L) (hM : Secs M) (h1 : n ≤ L.length) (h2 : n ≤ M.length) (hi : i < n) :
    xorL (qsum (mixed L M n (i + 1)) n) (mulL (xorL (L.getD i []) (M.getD i [])) (pwZ (i : Int))) = qsum (mixed L M n i) n := by
  have s1 := mixed_secs (i := i + 1) hL hM h1 h2
  have s2 := mixed_secs (i := i) hL hM h1 h2
  have a := hL.at (i := i) (by omega)
  have b := hM.at (i := i) (by omega)
  have c := xorL_sec a b
  refine sec_ext (xorL_sec (qsum_sec s1 n (by rw [mixed_length]; omega)) (mulL_sec c)) (qsum_sec s2 n (by rw [mixed_length]; omega)) (fun q hq => ?_)
  rw [xorL_get (by rw [(qsum_sec s1 n (by rw [mixed_length]; omega)).len]; exact hq) (by rw [mulL_length c.len]; exact hq), qsum_get s1 hq n (by rw [mixed_length]; omega), qsum_get s2 hq n (by rw [mixed_length]; omega), mulL_get (by rw [c.len]; exact hq), xorL_get (by rw [a.len]; exact hq) (by rw [b.len]; exact hq), pwZ_nat]
  symm
  refine mixed_step hi (fun j hn hj => ?_) ?_
  · rw [mixed_at hn, mixed_at hn]
    by_cases h : j < i
    · rw [if_pos h, if_pos (by omega)]
    · rw [if_neg h, if_neg (by omega)]
  · rw [mixed_at hi, mixed_at hi, if_neg (by omega), if_pos (by omega), gmul_xor_left _ (a.get q) (b.get q), mid]
theorem psum_first : psum (mixed L M n n) n = psum L n := psum_congr n (fun j hj => by rw [mixed_at hj, if_pos hj])
theorem qsum_first : qsum (mixed L M n n) n = qsum L n := qsum_congr n (fun j hj => by rw [mixed_at hj, if_pos hj])
theorem psum_last : psum (mixed L M n 0) n = psum M n := psum_congr n (fun j hj => by rw [mixed_at hj, if_neg (by omega)])
theorem qsum_last : qsum (mixed L M n 0) n = qsum M n := qsum_congr n (fun j hj => by rw [mixed_at hj, if_neg (by omega)])
end Go.Proofs.Ytonjgbcibjnpoaa.Pd
