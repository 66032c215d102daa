/- Members in plain terms: what is found behind writes. -/
import Derived.Test.YtdmcbfmpnakdfaaMi
namespace Go.Proofs.Ytdmcbfmpnakdfaa.Eng
open Go Go.Proofs
/-- No key twice. -/
def NK (M : Img) : Prop := (M.map (·.1)).Nodup
theorem find_none {M : Img} {i : Int} (h : i ∉ M.map (·.1)) : M.find? (fun p => i == p.1) = none := by
  rw [List.find?_eq_none]
  intro p hp hc
  have := beq_iff_eq.1 hc
  exact h (this ▸ List.mem_map_of_mem hp)
theorem getI_cons (p : Int × List Nat) (M : Img) (j : Int) : getI (p :: M) j = if j = p.1 then p.2 else getI M j := by
  unfold getI
  rw [List.find?_cons]
  by_cases h : j = p.1
  · rw [if_pos h]; simp [h]
  · rw [if_neg h]
    have : (j == p.1) = false := by simp [h]
    rw [this]
theorem getI_setI (M : Img) (i j : Int) (s : List Nat) : getI (setI M i s) j = if i = j then s else getI M j := by
  induction M with
  | nil =>
    unfold setI
    rw [getI_cons]
    by_cases h : j = i
    · rw [if_pos h, if_pos h.symm]
    · rw [if_neg h, if_neg (fun e => h e.symm)]
  | cons p r ih =>
    unfold setI
    split
    · rename_i h
      have h := beq_iff_eq.1 h
      rw [getI_cons, getI_cons]
      by_cases h2 : j = i
      · simp [h2]
      · rw [if_neg h2, if_neg (fun e => h2 e.symm), if_neg (fun e => h2 (e.trans h.symm))]
    · rename_i h
      have h : ¬ i = p.1 := fun e => h (beq_iff_eq.2 e)
      rw [getI_cons, getI_cons, ih]
      by_cases h2 : j = p.1
      · rw [if_pos h2, if_pos h2, if_neg (fun e => h (e.trans h2))]
      · rw [if_neg h2, if_neg h2]
theorem getI_delI (M : Img) (hM : NK M) (i j : Int) : getI (delI M i) j = if i = j then zs 64 else getI M j := by
  induction M with
  | nil => unfold delI; simp [getI]
  | cons p r ih =>
    have hr : NK r := (List.nodup_cons.1 hM).2
    have hp : p.1 ∉ r.map (·.1) := (List.nodup_cons.1 hM).1
    unfold delI
    split
    · rename_i h
      have h := beq_iff_eq.1 h
      by_cases h2 : i = j
      · rw [if_pos h2]
        unfold getI
        rw [find_none (by rw [← h2, h]; exact hp)]
      · rw [if_neg h2, getI_cons, if_neg (fun e => h2 (h.trans e.symm))]
    · rename_i h
      have h : ¬ i = p.1 := fun e => h (beq_iff_eq.2 e)
      rw [getI_cons, getI_cons, ih hr]
      by_cases h2 : j = p.1
      · rw [if_pos h2, if_pos h2, if_neg (fun e => h (e.trans h2))]
      · rw [if_neg h2, if_neg h2]
theorem keys_setI (M : Img) (i : Int) (s : List Nat) : ∀ x ∈ (setI M i s).map (·.1), x = i ∨ x ∈ M.map (·.1) := by
  induction M with
  | nil => intro x hx; simp [setI] at hx; exact .inl hx
  | cons p r ih =>
    intro x hx
    unfold setI at hx
    split at hx
    · simp only [List.map_cons, List.mem_cons] at hx ⊢
      rcases hx with h | h
      · exact .inl h
      · exact .inr (.inr h)
    · simp only [List.map_cons, List.mem_cons] at hx ⊢
      rcases hx with h | h
      · exact .inr (.inl h)
      · rcases ih x h with h | h
        · exact .inl h
        · exact .inr (.inr h)
theorem keys_delI (M : Img) (i : Int) : ∀ x ∈ (delI M i).map (·.1), x ∈ M.map (·.1) := by
  induction M with
  | nil => intro x hx; cases hx
  | cons p r ih =>
    intro x hx
    unfold delI at hx
    split at hx
    · exact List.mem_cons_of_mem _ hx
    · simp only [List.map_cons, List.mem_cons] at hx ⊢
      rcases hx with h | h
      · exact .inl h
      · exact .inr (ih x h)
theorem NK_setI {M : Img} (hM : NK M) (i : Int) (s : List Nat) : NK (setI M i s) := by
  induction M with
  | nil => simp [NK, setI]
  | cons p r ih =>
    have hr : NK r := (List.nodup_cons.1 hM).2
    have hp : p.1 ∉ r.map (·.1) := (List.nodup_cons.1 hM).1
    unfold setI
    split
    · rename_i h
      have h := beq_iff_eq.1 h
      exact List.nodup_cons.2 ⟨by rw [h]; exact hp, hr⟩
    · rename_i h
      have h : ¬ i = p.1 := fun e => h (beq_iff_eq.2 e)
      refine List.nodup_cons.2 ⟨fun hm => ?_, ih hr⟩
      rcases keys_setI r i s _ hm with h2 | h2
      · exact h h2.symm
      · exact hp h2
theorem NK_delI {M : Img} (hM : NK M) (i : Int) : NK (delI M i) := by
  induction M with
  | nil => exact hM
  | cons p r ih =>
    have hr : NK r := (List.nodup_cons.1 hM).2
    have hp : p.1 ∉ r.map (·.1) := (List.nodup_cons.1 hM).1
    unfold delI
    split
    · exact hr
    · exact List.nodup_cons.2 ⟨fun hm => hp (keys_delI r i _ hm), ih hr⟩
theorem NK_putI {M : Img} (hM : NK M) (i : Int) (s : List Nat) : NK (putI M i s) := by
  unfold putI; split
  · exact NK_delI hM i
  · exact NK_setI hM i s
theorem get_put_ne {M : Img} (hM : NK M) {i j : Int} (s : List Nat) (h : i ≠ j) : getI (putI M i s) j = getI M j := by
  unfold putI; split
  · rw [getI_delI M hM, if_neg h]
  · rw [getI_setI, if_neg h]
theorem get_put {M : Img} (hM : NK M) (i : Int) (s : List Nat) : bysN 64 (getI (putI M i s) i) = bysN 64 s := by
  unfold putI; split
  · rename_i h
    rw [getI_delI M hM, if_pos rfl, (secZ_iff s).1 h]
  · rw [getI_setI, if_pos rfl]
theorem NK_kept {D W : Img} (hD : NK D) (keep : Nat → Bool) : ∀ k, NK (kept D W keep k)
  | 0 => hD
  | k + 1 => by
    unfold kept
    split
    · split
      · exact NK_putI (NK_kept hD keep k) _ _
      · exact NK_kept hD keep k
    · exact NK_kept hD keep k
theorem kept_may {D W : Img} (hD : NK D) (keep : Nat → Bool) (j : Int) : ∀ k, getI (kept D W keep k) j = getI D j ∨ ∃ p ∈ W, p.1 = j ∧ bysN 64 (getI (kept D W keep k) j) = bysN 64 p.2
  | 0 => .inl rfl
  | k + 1 => by
    have ih := kept_may (W := W) hD keep j k
    unfold kept
    split
    · rename_i p hp
      split
      · by_cases h : p.1 = j
        · exact .inr ⟨p, List.mem_of_getElem? hp, h, by rw [← h]; exact get_put (NK_kept hD keep k) _ _⟩
        · rw [get_put_ne (NK_kept hD keep k) _ h]; exact ih
      · exact ih
    · exact ih
def acW (a : ActV) : Int × List Nat := (six a.i, a.s)
theorem putA_log (M : Mem) (l : List ActV) : (putA M l).log = M.log ++ l.map acW := by
  unfold putA
  induction l generalizing M with
  | nil => simp
  | cons a l ih => simp only [List.foldl_cons]; rw [ih]; simp [acW]
theorem putA_hurt (M : Mem) (l : List ActV) : (putA M l).hurt = M.hurt := by
  unfold putA
  induction l generalizing M with
  | nil => rfl
  | cons a l ih => simp only [List.foldl_cons]; rw [ih]
theorem putA_seen (M : Mem) (l : List ActV) (keep : Nat → Bool) (hk : ∀ k, k < l.length → keep k = true) : (putA M l).seen = kept M.seen (l.map acW) keep l.length := by
  have : ∀ k, k ≤ l.length → (putA M (l.take k)).seen = kept M.seen (l.map acW) keep k := by
    intro k
    induction k with
    | zero => intro _; rfl
    | succ k ih =>
      intro h
      rw [putA_succ h, kept_succ (by rw [List.length_map]; omega), hk k h, if_pos rfl, ← ih (by omega)]
      simp [acW]
  have := this l.length (Nat.le_refl _)
  rwa [List.take_length] at this
end Go.Proofs.Ytdmcbfmpnakdfaa.Eng
