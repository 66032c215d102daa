/- The stage's theorem, in plain words: of a right row any two columns can be lost. -/
import Derived.Test.YtonjgbcibjnpoaaPf
namespace Go.Proofs.Ytonjgbcibjnpoaa.Pw
open Go.RowKit Go.Proofs.YtonjgbcibjnpoaaW.PrintWords Go.Proofs.Ytonjgbcibjnpoaa.Gf Go.Proofs.Ytonjgbcibjnpoaa.Sc Go.Proofs.Ytonjgbcibjnpoaa.Pb Go.Proofs.Ytonjgbcibjnpoaa.Sd Go.Proofs.Ytonjgbcibjnpoaa.Ss Go.Proofs.Ytonjgbcibjnpoaa.Pd
theorem psum_cg {L M : List (List Nat)} : ∀ n, (∀ j, j < n → L.getD j [] = M.getD j []) → psum L n = psum M n
  | 0, _ => rfl
  | n + 1, h => by rw [psum, psum, psum_cg n (fun j hj => h j (by omega)), h n (by omega)]
theorem qsum_cg {L M : List (List Nat)} : ∀ n, (∀ j, j < n → L.getD j [] = M.getD j []) → qsum L n = qsum M n
  | 0, _ => rfl
  | n + 1, h => by rw [qsum, qsum, qsum_cg n (fun j hj => h j (by omega)), h n (by omega)]
theorem getD_set {S : List (List Nat)} {i j : Nat} {d : List Nat} (hi : i < S.length) : (S.set i d).getD j [] = if j = i then d else S.getD j [] := by
  rw [List.getD_eq_getElem?_getD, List.getElem?_set]
  by_cases h : i = j
  · subst h
    rw [if_pos rfl, if_pos hi, if_pos rfl]
    rfl
  · rw [if_neg h, if_neg (fun e => h e.symm), ← List.getD_eq_getElem?_getD]
theorem zeroed_get : ∀ {ks : List Nat} {S : List (List Nat)} {j : Nat}, (∀ k ∈ ks, k < S.length) → (zeroed S ks).getD j [] = if j ∈ ks then zeros else S.getD j []
  | [], S, j, _ => by simp [zeroed]
  | k :: ks, S, j, h => by
    have ih := zeroed_get (ks := ks) (S := S.set k zeros) (j := j) (fun x hx => by rw [List.length_set]; exact h x (List.mem_cons_of_mem _ hx))
    rw [show zeroed S (k :: ks) = zeroed (S.set k zeros) ks from rfl, ih, getD_set (h k List.mem_cons_self)]
    by_cases h1 : j ∈ ks
    · rw [if_pos h1, if_pos (List.mem_cons_of_mem _ h1)]
    · rw [if_neg h1]
      by_cases h2 : j = k
      · rw [if_pos h2, if_pos (by rw [h2]; exact List.mem_cons_self)]
      · rw [if_neg h2, if_neg (by rw [List.mem_cons]; exact fun h => h.elim h2 h1)]
theorem ends_get {m : Nat} {P Q : List Nat} : ∀ {ks : List Nat} {S : List (List Nat)} {j : Nat}, (∀ k ∈ ks, k < S.length) → (ks.foldl (endOne m P Q) S).getD j [] = if j ∈ ks ∧ j = m then P else if j ∈ ks ∧ j = m + 1 then Q else S.getD j []
  | [], S, j, _ => by simp
  | k :: ks, S, j, h => by
    have hk := h k List.mem_cons_self
    have ih := ends_get (m := m) (P := P) (Q := Q) (ks := ks) (S := endOne m P Q S k) (j := j) (fun x hx => by rw [endOne_length]; exact h x (List.mem_cons_of_mem _ hx))
    rw [List.foldl_cons, ih]
    have e1 : (endOne m P Q S k).getD j [] = if j = k ∧ j = m then P else if j = k ∧ j = m + 1 then Q else S.getD j [] := by
      unfold endOne
      by_cases h1 : k = m
      · rw [if_pos h1, getD_set hk]
        by_cases h2 : j = k
        · rw [if_pos h2, if_pos ⟨h2, h2.trans h1⟩]
        · rw [if_neg h2, if_neg (fun h => h2 h.1), if_neg (fun h => h2 h.1)]
      · rw [if_neg h1]
        by_cases h3 : k = m + 1
        · rw [if_pos h3, getD_set hk]
          by_cases h2 : j = k
          · rw [if_pos h2, if_neg (fun h => h1 (h.1.symm.trans h.2)), if_pos ⟨h2, h2.trans h3⟩]
          · rw [if_neg h2, if_neg (fun h => h2 h.1), if_neg (fun h => h2 h.1)]
        · rw [if_neg h3, if_neg (fun h => h1 (h.1.symm.trans h.2)), if_neg (fun h => h3 (h.1.symm.trans h.2))]
    rw [e1]
    by_cases a : j ∈ ks <;> by_cases b : j = k <;> by_cases c : j = m <;> by_cases d : j = m + 1 <;> simp [a, b, c, d, List.mem_cons] <;> (try simp_all) <;> (try omega)
/-- The end of Fix: where all but the lost parities stand. -/
theorem ends_right {R R1 : List (List Nat)} {m : Nat} {ks : List Nat} (hl : R.length = m + 2) (hl1 : R1.length = m + 2) (hp : psum R m = R.getD m []) (hq : qsum R m = R.getD (m + 1) []) (hk : ∀ k ∈ ks, k < m + 2)
    (h : ∀ j, j < m + 2 → j < m ∨ j ∉ ks → R1.getD j [] = R.getD j []) : fixEnd R1 m ks = R := by
  have e1 : psum R1 m = R.getD m [] := by
    rw [← hp]
    exact psum_cg m (fun j hj => h j (by omega) (.inl hj))
  have e2 : qsum R1 m = R.getD (m + 1) [] := by
    rw [← hq]
    exact qsum_cg m (fun j hj => h j (by omega) (.inl hj))
  unfold fixEnd
  rw [e1, e2]
  refine list_eq (by rw [foldl_len (fun _ _ => endOne_length), hl1, hl]) (fun j hj => ?_)
  rw [foldl_len (fun _ _ => endOne_length), hl1] at hj
  rw [ends_get (fun k hk2 => by rw [hl1]; exact hk k hk2)]
  by_cases c1 : j ∈ ks ∧ j = m
  · rw [if_pos c1, c1.2]
  · rw [if_neg c1]
    by_cases c2 : j ∈ ks ∧ j = m + 1
    · rw [if_pos c2, c2.2]
    · rw [if_neg c2]
      refine h j hj ?_
      by_cases hm : j < m
      · exact .inl hm
      · refine .inr (fun hks => ?_)
        rcases Nat.lt_or_ge j (m + 1) with h3 | h3
        · exact c1 ⟨hks, by omega⟩
        · exact c2 ⟨hks, by omega⟩
end Go.Proofs.Ytonjgbcibjnpoaa.Pw
