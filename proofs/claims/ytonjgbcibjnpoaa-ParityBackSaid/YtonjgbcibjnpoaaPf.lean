/- What Fix computes, in plain words. -/
import Derived.Test.YtonjgbcibjnpoaaPy
namespace Go.Proofs.Ytonjgbcibjnpoaa.Pw
open Go.RowKit Go.Proofs.YtonjgbcibjnpoaaW.PrintWords Go.Proofs.Ytonjgbcibjnpoaa.Gf Go.Proofs.Ytonjgbcibjnpoaa.Sc Go.Proofs.Ytonjgbcibjnpoaa.Pb Go.Proofs.Ytonjgbcibjnpoaa.Sd Go.Proofs.Ytonjgbcibjnpoaa.Ss Go.Proofs.Ytonjgbcibjnpoaa.Pd
/-- A sector put into a list of sectors in memory. -/
theorem flatten_set : ∀ {S : List (List Nat)} {i : Nat} {d : List Nat}, (∀ l ∈ S, l.length = 64) → i < S.length → d.length = 64 → into S.flatten (i * 64) d = (S.set i d).flatten
  | [], i, d, _, h, _ => absurd h (by simp)
  | l :: S, 0, d, hS, _, hd => by
    have hl := hS l List.mem_cons_self
    simp only [List.flatten_cons, List.set_cons_zero, into, Nat.zero_mul, List.take_zero, List.nil_append, Nat.zero_add]
    rw [hd, List.drop_append_of_le_length (by omega), List.drop_of_length_le (by omega), List.nil_append]
  | l :: S, i + 1, d, hS, h, hd => by
    have hl := hS l List.mem_cons_self
    have ih := flatten_set (S := S) (i := i) (d := d) (fun x hx => hS x (List.mem_cons_of_mem _ hx)) (by simpa using h) hd
    simp only [List.flatten_cons, List.set_cons_succ, ← ih, into]
    have e1 : (l ++ S.flatten).take ((i + 1) * 64) = l ++ S.flatten.take (i * 64) := by
      rw [List.take_append, hl, List.take_of_length_le (by omega), show (i + 1) * 64 - 64 = i * 64 by omega]
    have e2 : (l ++ S.flatten).drop ((i + 1) * 64 + d.length) = S.flatten.drop (i * 64 + d.length) := by
      rw [List.drop_append, hl, List.drop_of_length_le (by omega), List.nil_append, show (i + 1) * 64 + d.length - 64 = i * 64 + d.length by omega]
    rw [e1, e2]
    simp only [List.append_assoc]
theorem put_sec {S : List (List Nat)} {sp : Array Value} {i : Nat} {d : List Nat} (hS : ∀ l ∈ S, l.length = 64) (h : i < S.length) (hd : d.length = 64) : putc (bys S.flatten ++ sp) (i * 64) (bys d) = bys (S.set i d).flatten ++ sp := by
  have hF : S.flatten.length = S.length * 64 := flatten_size hS
  have hb : (bys S.flatten).toList.length = S.length * 64 := by rw [bys_len, hF]
  have e : putc (bys S.flatten ++ sp) (i * 64) (bys d) = putc (bys S.flatten) (i * 64) (bys d) ++ sp := by
    apply Array.ext'
    unfold putc
    rw [Array.toList_append, Array.toList_append, List.take_append_of_le_length (by omega), List.drop_append_of_le_length (by rw [hb, bys_size, hd]; omega)]
    simp only [List.append_assoc]
  rw [e, putc_bys, flatten_set hS h hd]
theorem set_lens {S : List (List Nat)} {i : Nat} {d : List Nat} (hS : ∀ l ∈ S, l.length = 64) (hd : d.length = 64) : ∀ l ∈ S.set i d, l.length = 64 := fun l hl => by
  rcases List.mem_or_eq_of_mem_set hl with h | h
  · exact hS l h
  · rw [h]; exact hd
theorem set_secs {S : List (List Nat)} {i : Nat} {d : List Nat} (hS : Secs S) (hd : Sec d) : Secs (S.set i d) := fun l hl => by
  rcases List.mem_or_eq_of_mem_set hl with h | h
  · exact hS l h
  · rw [h]; exact hd

/-- The errors of Fix: n columns, the different numbers l, rising. -/
def fixE (N : Nat) (l : List Int) : Int :=
  if N < 3 then 2 else if 0 < l.length ∧ (l.getD 0 0 < 0 ∨ (N : Int) ≤ l.getD (l.length - 1) 0) then 2 else if 64 < N then 3 else if 2 < l.length then 7 else 0
/-- The lost columns emptied. -/
def zeroed (L : List (List Nat)) (ks : List Nat) : List (List Nat) := ks.foldl (fun R i => R.set i zeros) L
/-- The data columns brought back. -/
def fixMid (Z : List (List Nat)) (m : Nat) (ks : List Nat) : List (List Nat) :=
  match ks with
  | [i] => if i < m then Z.set i (xorL (Z.getD m []) (psum Z m)) else Z
  | [i, j] => if j < m then (Z.set i (twoA (xorL (Z.getD m []) (psum Z m)) (xorL (Z.getD (m + 1) []) (qsum Z m)) (pwZ (i : Int)) (pwZ (j : Int)))).set j (twoB (xorL (Z.getD m []) (psum Z m)) (xorL (Z.getD (m + 1) []) (qsum Z m)) (pwZ (i : Int)) (pwZ (j : Int)))
    else if i < m then if j = m then Z.set i (mulL (xorL (Z.getD (m + 1) []) (qsum Z m)) (pwZ (-(i : Int)))) else Z.set i (xorL (Z.getD m []) (psum Z m)) else Z
  | _ => Z
/-- One parity put back. -/
def endOne (m : Nat) (P Q : List Nat) (S : List (List Nat)) (i : Nat) : List (List Nat) := if i = m then S.set i P else if i = m + 1 then S.set i Q else S
/-- The parities put back. -/
def fixEnd (R : List (List Nat)) (m : Nat) (ks : List Nat) : List (List Nat) := ks.foldl (endOne m (psum R m) (qsum R m)) R
def fixR (L : List (List Nat)) (m : Nat) (ks : List Nat) : List (List Nat) := fixEnd (fixMid (zeroed L ks) m ks) m ks
theorem foldl_len {f : List (List Nat) → Nat → List (List Nat)} (hf : ∀ S i, (f S i).length = S.length) : ∀ (ks : List Nat) (S : List (List Nat)), (ks.foldl f S).length = S.length
  | [], S => rfl
  | i :: ks, S => by rw [List.foldl_cons, foldl_len hf ks, hf]
theorem foldl_secs {f : List (List Nat) → Nat → List (List Nat)} (hf : ∀ S i, Secs S → Secs (f S i)) : ∀ (ks : List Nat) (S : List (List Nat)), Secs S → Secs (ks.foldl f S)
  | [], _, h => h
  | i :: ks, S, h => foldl_secs hf ks (f S i) (hf S i h)
theorem zeroed_length {L : List (List Nat)} {ks : List Nat} : (zeroed L ks).length = L.length := foldl_len (fun _ _ => by simp) ks L
theorem zeroed_secs {L : List (List Nat)} {ks : List Nat} (h : Secs L) : Secs (zeroed L ks) := foldl_secs (fun _ _ hS => set_secs hS zeros_sec) ks L h
theorem endOne_length {m : Nat} {P Q : List Nat} {S : List (List Nat)} {i : Nat} : (endOne m P Q S i).length = S.length := by
  unfold endOne; split
  · simp
  · split
    · simp
    · rfl
theorem endOne_secs {m : Nat} {P Q : List Nat} (hP : Sec P) (hQ : Sec Q) {S : List (List Nat)} {i : Nat} (h : Secs S) : Secs (endOne m P Q S i) := by
  unfold endOne; split
  · exact set_secs h hP
  · split
    · exact set_secs h hQ
    · exact h
theorem take_succ_foldl {f : List (List Nat) → Nat → List (List Nat)} {ks : List Nat} {S : List (List Nat)} {a : Nat} (h : a < ks.length) : (ks.take (a + 1)).foldl f S = f ((ks.take a).foldl f S) (ks.getD a 0) := by
  rw [List.take_add_one, List.foldl_append, List.getElem?_eq_getElem h, List.getD_eq_getElem?_getD, List.getElem?_eq_getElem h]
  rfl
end Go.Proofs.Ytonjgbcibjnpoaa.Pw
