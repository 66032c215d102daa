/- The document's different numbers: inserted one by one. -/
import Derived.Test.YtdmcbfmpnakdfaaQq
namespace Go.Proofs.Ytdmcbfmpnakdfaa.Eng
open Go Go.Proofs Go.Proofs.Ytdmcbfmpnakdfaa.Gf
set_option maxRecDepth 20000
set_option maxHeartbeats 4000000
theorem rise_ext : ∀ (l m : List Int), l.Pairwise (· < ·) → m.Pairwise (· < ·) → (∀ x, x ∈ l ↔ x ∈ m) → l = m
  | [], [], _, _, _ => rfl
  | [], b :: m, _, _, h => absurd ((h b).2 (by simp)) (by simp)
  | a :: l, [], _, _, h => absurd ((h a).1 (by simp)) (by simp)
  | a :: l, b :: m, hl, hm, h => by
    obtain ⟨h1, h2⟩ := List.pairwise_cons.1 hl
    obtain ⟨h3, h4⟩ := List.pairwise_cons.1 hm
    have e : a = b := by
      rcases List.mem_cons.1 ((h a).1 (by simp)) with h5 | h5
      · exact h5
      · have := h3 a h5
        rcases List.mem_cons.1 ((h b).2 (by simp)) with h6 | h6
        · exact h6.symm
        · have := h1 b h6; omega
    subst e
    rw [rise_ext l m h2 h4 fun x => ?_]
    constructor
    · intro hx
      have := h1 x hx
      rcases List.mem_cons.1 ((h x).1 (by simp [hx])) with h5 | h5
      · omega
      · exact h5
    · intro hx
      have := h3 x hx
      rcases List.mem_cons.1 ((h x).2 (by simp [hx])) with h5 | h5
      · omega
      · exact h5
theorem compUp_mem (d : Array Int) : ∀ m, m ≤ d.size → ∀ x, x ∈ Lib.compactUpTo d m ↔ ∃ j, j < m ∧ d[j]! = x
  | 0, _, x => by simp [Lib.compactUpTo]
  | m + 1, hm, x => by
    have ih := compUp_mem d m (by omega) x
    rw [Lib.compactUpTo_succ, List.mem_append, ih]
    by_cases h0 : m = 0
    · subst h0
      rw [Lib.keeps_lt_one d 0 (by decide), if_pos rfl, List.mem_singleton]
      constructor
      · rintro (⟨j, hj, _⟩ | h)
        · omega
        · exact ⟨0, by omega, h.symm⟩
      · rintro ⟨j, hj, h⟩
        obtain rfl : j = 0 := by omega
        exact .inr h.symm
    · by_cases hk : d[m]! = d[m - 1]!
      · rw [Lib.keeps_neg (by omega) hk, if_neg (by decide)]
        constructor
        · rintro (⟨j, hj, h⟩ | h)
          · exact ⟨j, by omega, h⟩
          · cases h
        · rintro ⟨j, hj, h⟩
          by_cases e : j = m
          · subst e; exact .inl ⟨j - 1, by omega, by rw [← hk]; exact h⟩
          · exact .inl ⟨j, by omega, h⟩
      · rw [Lib.keeps_pos hk, if_pos rfl, List.mem_singleton]
        constructor
        · rintro (⟨j, hj, h⟩ | h)
          · exact ⟨j, by omega, h⟩
          · exact ⟨m, by omega, h.symm⟩
        · rintro ⟨j, hj, h⟩
          by_cases e : j = m
          · subst e; exact .inr h.symm
          · exact .inl ⟨j, by omega, h⟩
theorem unl_mem (zs : List Int) (x : Int) : x ∈ unl zs ↔ x ∈ zs := by
  unfold unl compZ Lib.compact
  rw [compUp_mem _ _ (by simp)]
  have : x ∈ zs ↔ x ∈ sortZ zs := (List.mem_mergeSort).symm
  rw [this]
  constructor
  · rintro ⟨j, hj, h⟩
    rw [← h]
    simp only [List.getElem!_toArray]
    rw [getElem!_pos _ j hj]
    exact List.getElem_mem hj
  · intro h
    obtain ⟨j, hj, h⟩ := List.getElem_of_mem h
    refine ⟨j, hj, ?_⟩
    simp only [List.getElem!_toArray]
    rw [getElem!_pos _ j hj]; exact h
/-- How many of a list are below a number. -/
def cntL (z : Int) (o : List Int) : Nat := o.findIdx (fun x => !decide (x < z))
def insZ (o : List Int) (z : Int) : List Int := if o[cntL z o]? = some z then o else o.take (cntL z o) ++ [z] ++ o.drop (cntL z o)
theorem cnt_le (z : Int) (o : List Int) : cntL z o ≤ o.length := List.findIdx_le_length
theorem cnt_lt {z : Int} {o : List Int} {k : Nat} (hk : k < o.length) (h : k < cntL z o) : o[k] < z := by
  have := List.not_of_lt_findIdx h
  simpa using this
theorem cnt_at {z : Int} {o : List Int} (h : cntL z o < o.length) : ¬ o[cntL z o] < z := by
  have : (!decide (o[cntL z o] < z)) = true := List.findIdx_getElem (p := fun x => !decide (x < z)) (w := h)
  simpa using this
theorem ins_mem (o : List Int) (z x : Int) : x ∈ insZ o z ↔ x = z ∨ x ∈ o := by
  unfold insZ
  by_cases h : o[cntL z o]? = some z
  · rw [if_pos h]
    constructor
    · exact .inr
    · rintro (rfl | h')
      · exact List.mem_of_getElem? h
      · exact h'
  · rw [if_neg h]
    have : x ∈ o ↔ x ∈ o.take (cntL z o) ∨ x ∈ o.drop (cntL z o) := by
      rw [← List.mem_append, List.take_append_drop]
    simp only [List.mem_append, List.mem_singleton, this]
    constructor
    · rintro ((h | h) | h)
      · exact .inr (.inl h)
      · exact .inl h
      · exact .inr (.inr h)
    · rintro (h | h | h)
      · exact .inl (.inr h)
      · exact .inl (.inl h)
      · exact .inr h
theorem ins_rise {o : List Int} (ho : o.Pairwise (· < ·)) (z : Int) : (insZ o z).Pairwise (· < ·) := by
  unfold insZ
  by_cases h : o[cntL z o]? = some z
  · rw [if_pos h]; exact ho
  · rw [if_neg h]
    have hd : ∀ x ∈ o.drop (cntL z o), z < x := by
      intro x hx
      obtain ⟨j, hj, rfl⟩ := List.getElem_of_mem hx
      rw [List.length_drop] at hj
      rw [List.getElem_drop]
      have hc : cntL z o < o.length := by omega
      have h1 := cnt_at hc
      have h2 : o[cntL z o] ≠ z := fun e => h (by rw [List.getElem?_eq_getElem hc, e])
      by_cases h0 : j = 0
      · subst h0
        simp only [Nat.add_zero]
        omega
      · have := List.pairwise_iff_getElem.1 ho (cntL z o) (cntL z o + j) hc (by omega) (by omega)
        omega
    refine List.pairwise_append.2 ⟨List.pairwise_append.2 ⟨ho.take, by simp, fun a ha b hb => ?_⟩, ho.drop, fun a ha b hb => ?_⟩
    · rw [List.mem_singleton.1 hb]
      obtain ⟨j, hj, rfl⟩ := List.getElem_of_mem ha
      rw [List.length_take] at hj
      rw [List.getElem_take]
      exact cnt_lt (by omega) (by omega)
    · have hb' := hd b hb
      rcases List.mem_append.1 ha with ha | ha
      · obtain ⟨j, hj, rfl⟩ := List.getElem_of_mem ha
        rw [List.length_take] at hj
        rw [List.getElem_take]
        have := cnt_lt (z := z) (o := o) (k := j) (by omega) (by omega)
        omega
      · rw [List.mem_singleton.1 ha]; exact hb'
theorem fold_ins : ∀ (zs o : List Int), o.Pairwise (· < ·) → (zs.foldl insZ o).Pairwise (· < ·) ∧ ∀ x, x ∈ zs.foldl insZ o ↔ x ∈ zs ∨ x ∈ o
  | [], o, h => ⟨h, fun x => by simp⟩
  | z :: zs, o, h => by
    obtain ⟨h1, h2⟩ := fold_ins zs (insZ o z) (ins_rise h z)
    refine ⟨h1, fun x => ?_⟩
    rw [List.foldl_cons, h2, ins_mem]
    simp only [List.mem_cons]
    constructor
    · rintro (h | h | h)
      · exact .inl (.inr h)
      · exact .inl (.inl h)
      · exact .inr h
    · rintro ((h | h) | h)
      · exact .inr (.inl h)
      · exact .inl h
      · exact .inr (.inr h)
theorem fold_unl (zs : List Int) : zs.foldl insZ [] = unl zs := by
  obtain ⟨h1, h2⟩ := fold_ins zs [] List.Pairwise.nil
  refine rise_ext _ _ h1 (unl_rise zs) fun x => ?_
  rw [h2, unl_mem]; simp
theorem ins_len (o : List Int) (z : Int) : (insZ o z).length ≤ o.length + 1 := by
  unfold insZ
  split
  · omega
  · have := cnt_le z o
    simp; omega
theorem fold_len : ∀ (zs o : List Int), (zs.foldl insZ o).length ≤ zs.length + o.length
  | [], o => by simp
  | z :: zs, o => by
    have := fold_len zs (insZ o z)
    have := ins_len o z
    simp only [List.foldl_cons, List.length_cons]; omega
theorem ins_ne (o : List Int) (z : Int) : 0 < (insZ o z).length := by
  have : z ∈ insZ o z := (ins_mem o z z).2 (.inl rfl)
  exact List.length_pos_of_mem this
end Go.Proofs.Ytdmcbfmpnakdfaa.Eng
