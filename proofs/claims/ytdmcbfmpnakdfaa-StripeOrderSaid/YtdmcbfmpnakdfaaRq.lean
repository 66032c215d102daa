/- Plain law of the stripe's right rows: written, told. -/
import Derived.Test.YtdmcbfmpnakdfaaRp
import Derived.Test.YtdmcbfmpnakdfaaRh
namespace Go.Proofs.Ytdmcbfmpnakdfaa.Eng.St
open Go Go.RowKit Go.Shelf Go.Proofs Go.Proofs.Ytdmcbfmpnakdfaa.Gf Go.Proofs.Ytdmcbfmpnakdfaa.Rf
set_option maxRecDepth 20000
set_option maxHeartbeats 1000000
theorem risE : ∀ (l m : List Int), l.Pairwise (· < ·) → m.Pairwise (· < ·) → (∀ x, x ∈ l ↔ x ∈ m) → l = m
  | [], [], _, _, _ => rfl
  | [], b :: m, _, _, h => absurd ((h b).2 (by simp)) (by simp)
  | a :: l, [], _, _, h => absurd ((h a).1 (by simp)) (by simp)
  | a :: l, b :: m, hl, hm, h => by
    obtain ⟨h1, h2⟩ := List.pairwise_cons.1 hl
    obtain ⟨h3, h4⟩ := List.pairwise_cons.1 hm
    have e : a = b := by
      rcases List.mem_cons.1 ((h a).1 (by simp)) with h5 | h5
      · exact h5
      · have := h3 a h5
        rcases List.mem_cons.1 ((h b).2 (by simp)) with h6 | h6
        · exact h6.symm
        · have := h1 b h6; omega
    subst e
    rw [risE l m h2 h4 fun x => ?_]
    constructor
    · intro hx
      have := h1 x hx
      rcases List.mem_cons.1 ((h x).1 (by simp [hx])) with h5 | h5
      · omega
      · exact h5
    · intro hx
      have := h3 x hx
      rcases List.mem_cons.1 ((h x).2 (by simp [hx])) with h5 | h5
      · omega
      · exact h5
theorem right_iff {L : List (List Nat)} {m : Nat} (hl : L.length = m + 2) (hm : 1 ≤ m) (hm2 : m ≤ 62) : rightB L = true ↔ psum L m = L.getD m [] ∧ qsum L m = L.getD (m + 1) [] := by
  unfold rightB
  rw [if_neg (by omega), if_neg (by omega), hl, show m + 2 - 2 = m from rfl, show m + 2 - 1 = m + 1 from rfl]
  simp
/-- The right row of data. -/
def rowOf (T : List (List Nat)) : List (List Nat) := T ++ [psum T T.length, qsum T T.length]
theorem rowOf_len (T : List (List Nat)) : (rowOf T).length = T.length + 2 := by simp [rowOf]
theorem rowOf_lo {T : List (List Nat)} {j : Nat} (h : j < T.length) : (rowOf T).getD j [] = T.getD j [] := by
  unfold rowOf
  rw [List.getD_eq_getElem?_getD, List.getElem?_append_left h, ← List.getD_eq_getElem?_getD]
theorem rowOf_p (T : List (List Nat)) : (rowOf T).getD T.length [] = psum T T.length := by
  unfold rowOf
  rw [List.getD_eq_getElem?_getD, List.getElem?_append_right (Nat.le_refl _)]
  simp
theorem rowOf_q (T : List (List Nat)) : (rowOf T).getD (T.length + 1) [] = qsum T T.length := by
  unfold rowOf
  rw [List.getD_eq_getElem?_getD, List.getElem?_append_right (by omega)]
  simp
theorem rowOf_secs {T : List (List Nat)} (h : Secs T) : Secs (rowOf T) := fun l hl => by
  rcases List.mem_append.1 hl with h1 | h1
  · exact h l h1
  · simp only [List.mem_cons, List.not_mem_nil, or_false] at h1
    rcases h1 with rfl | rfl
    · exact psum_sec h _ (Nat.le_refl _)
    · exact qsum_sec h _ (Nat.le_refl _)
theorem rowOf_ps (T : List (List Nat)) : psum (rowOf T) T.length = psum T T.length := psum_cg _ fun _ hj => rowOf_lo hj
theorem rowOf_qs (T : List (List Nat)) : qsum (rowOf T) T.length = qsum T T.length := qsum_cg _ fun _ hj => rowOf_lo hj
theorem rowOf_right {T : List (List Nat)} (h1 : 1 ≤ T.length) (h2 : T.length ≤ 62) : rightB (rowOf T) = true := by
  rw [right_iff (rowOf_len T) h1 h2, rowOf_ps, rowOf_qs, rowOf_p, rowOf_q]
  exact ⟨rfl, rfl⟩
theorem set_byte {T : List (List Nat)} {k j q : Nat} {s : List Nat} (hk : k < T.length) : ((T.set k s).getD j []).getD q 0 = (T.getD j []).getD q 0 ^^^ (if j = k then (T.getD k []).getD q 0 ^^^ s.getD q 0 else 0) := by
  rw [getD_set hk]
  by_cases h : j = k
  · subst h
    rw [if_pos rfl, if_pos rfl, ← Nat.xor_assoc, Nat.xor_self, Nat.zero_xor]
  · rw [if_neg h, if_neg h, Nat.xor_zero]
theorem psum_set' {T : List (List Nat)} {k : Nat} {s : List Nat} (hT : Secs T) (hs : Sec s) (hk : k < T.length) : psum (T.set k s) T.length = xorL (psum T T.length) (xorL (T.getD k []) s) := by
  have h1 := psum_sec hT _ (Nat.le_refl _)
  have h2 := xorL_sec (hT.at hk) hs
  have h3 : Secs (T.set k s) := set_secs hT hs
  have hl : (T.set k s).length = T.length := List.length_set
  refine sec_ext (psum_sec h3 _ (by rw [hl]; exact Nat.le_refl _)) (xorL_sec h1 h2) fun q hq => ?_
  rw [psum_get h3 hq _ (by rw [hl]; exact Nat.le_refl _), xorL_get (by rw [h1.len]; exact hq) (by rw [h2.len]; exact hq), psum_get hT hq _ (Nat.le_refl _), xorL_get (by rw [(hT.at hk).len]; exact hq) (by rw [hs.len]; exact hq)]
  rw [xS_congr _ (fun j _ => set_byte (q := q) (j := j) hk), xS_xor, xS_one, if_pos hk]
theorem qsum_set' {T : List (List Nat)} {k : Nat} {s : List Nat} (hT : Secs T) (hs : Sec s) (hk : k < T.length) : qsum (T.set k s) T.length = xorL (qsum T T.length) (mulL (xorL (T.getD k []) s) (pwZ (k : Int))) := by
  have h1 := qsum_sec hT _ (Nat.le_refl _)
  have h2 := xorL_sec (hT.at hk) hs
  have h4 := mulL_sec (f := pwZ (k : Int)) h2
  have h3 : Secs (T.set k s) := set_secs hT hs
  have hl : (T.set k s).length = T.length := List.length_set
  refine sec_ext (qsum_sec h3 _ (by rw [hl]; exact Nat.le_refl _)) (xorL_sec h1 h4) fun q hq => ?_
  rw [qsum_get h3 hq _ (by rw [hl]; exact Nat.le_refl _), xorL_get (by rw [h1.len]; exact hq) (by rw [h4.len]; exact hq), qsum_get hT hq _ (Nat.le_refl _), mulL_get (by rw [h2.len]; exact hq), xorL_get (by rw [(hT.at hk).len]; exact hq) (by rw [hs.len]; exact hq), pwZ_nat]
  have hb := xor_lt ((hT.at hk).get q) (hs.get q)
  rw [← show (if k < T.length then gmul ((T.getD k []).getD q 0 ^^^ s.getD q 0) (pw k) else 0) = gmul ((T.getD k []).getD q 0 ^^^ s.getD q 0) (pw k) from if_pos hk, ← xS_one, ← xS_xor]
  refine xS_congr _ fun j hj => ?_
  rw [set_byte hk]
  by_cases h : j = k
  · subst h
    rw [if_pos rfl, if_pos rfl, gmul_xor_left _ (byte_lt hT _ _) hb]
  · rw [if_neg h, if_neg h, Nat.xor_zero, Nat.xor_zero]
theorem wri_row {T : List (List Nat)} {k : Nat} {s : List Nat} (hT : Secs T) (hs : Sec s) (hk : k < T.length) : wri T.length (rowOf T) k s = rowOf (T.set k s) := by
  have hl : (T.set k s).length = T.length := List.length_set
  unfold wri wriP wriQ
  rw [rowOf_p, rowOf_q, rowOf_lo hk, ← psum_set' hT hs hk, ← qsum_set' hT hs hk]
  unfold rowOf
  rw [hl, List.set_append, if_pos hk, List.set_append, if_neg (by rw [hl]; exact Nat.lt_irrefl _), hl, Nat.sub_self, List.set_append, if_neg (by rw [hl]; omega), hl, show T.length + 1 - T.length = 1 by omega]
  rfl
theorem xor_ne {a b s : List Nat} (ha : Sec a) (hb : Sec b) (hs : Sec s) : xorL a (xorL b s) = a ↔ s = b := by
  constructor
  · intro h
    refine sec_ext hs hb fun q hq => ?_
    have h1 := congrArg (fun l : List Nat => l.getD q 0) h
    have h1 : (xorL a (xorL b s)).getD q 0 = a.getD q 0 := h1
    have h2 := xorL_sec hb hs
    rw [xorL_get (by rw [ha.len]; exact hq) (by rw [h2.len]; exact hq), xorL_get (by rw [hb.len]; exact hq) (by rw [hs.len]; exact hq)] at h1
    have h3 : b.getD q 0 ^^^ s.getD q 0 = 0 := by
      have := congrArg (a.getD q 0 ^^^ ·) h1
      simpa [← Nat.xor_assoc] using this
    exact (eq_of_xor h3).symm
  · rintro rfl
    have h2 := xorL_sec hb hs
    refine sec_ext (xorL_sec ha h2) ha fun q hq => ?_
    rw [xorL_get (by rw [ha.len]; exact hq) (by rw [h2.len]; exact hq), xorL_get (by rw [hb.len]; exact hq) (by rw [hs.len]; exact hq), Nat.xor_self, Nat.xor_zero]
theorem xorm_ne {a b s : List Nat} {k : Nat} (ha : Sec a) (hb : Sec b) (hs : Sec s) : xorL a (mulL (xorL b s) (pwZ (k : Int))) = a ↔ s = b := by
  have h2 := xorL_sec hb hs
  have h4 := mulL_sec (f := pwZ (k : Int)) h2
  constructor
  · intro h
    refine sec_ext hs hb fun q hq => ?_
    have h1 : (xorL a (mulL (xorL b s) (pwZ (k : Int)))).getD q 0 = a.getD q 0 := congrArg (fun l : List Nat => l.getD q 0) h
    rw [xorL_get (by rw [ha.len]; exact hq) (by rw [h4.len]; exact hq), mulL_get (by rw [h2.len]; exact hq), xorL_get (by rw [hb.len]; exact hq) (by rw [hs.len]; exact hq)] at h1
    have h3 : gmul (b.getD q 0 ^^^ s.getD q 0) (pwZ (k : Int)) = 0 := by
      have := congrArg (a.getD q 0 ^^^ ·) h1
      simpa [← Nat.xor_assoc] using this
    exact (eq_of_xor (((gmul_eq_zero (xor_lt (hb.get q) (hs.get q)) (pwZ_lt _)).1 h3).resolve_right (pwZ_ne_zero _))).symm
  · rintro rfl
    refine sec_ext (xorL_sec ha h4) ha fun q hq => ?_
    rw [xorL_get (by rw [ha.len]; exact hq) (by rw [h4.len]; exact hq), mulL_get (by rw [h2.len]; exact hq), xorL_get (by rw [hb.len]; exact hq) (by rw [hs.len]; exact hq), Nat.xor_self, gmul_zero_left _ (pwZ_lt _), Nat.xor_zero]
theorem hold_mem {p : Nat → Bool} {N : Nat} {x : Int} : x ∈ hold p N ↔ ∃ k : Nat, x = k ∧ k < N ∧ p k = true := by
  unfold hold
  rw [List.mem_map]
  constructor
  · rintro ⟨k, h1, rfl⟩
    obtain ⟨h2, h3⟩ := List.mem_filter.1 h1
    exact ⟨k, rfl, List.mem_range.1 h2, h3⟩
  · rintro ⟨k, rfl, h1, h2⟩
    exact ⟨k, List.mem_filter.2 ⟨List.mem_range.2 h1, h2⟩, rfl⟩
theorem hold_rise (p : Nat → Bool) (N : Nat) : (hold p N).Pairwise (· < ·) := by
  unfold hold
  rw [List.pairwise_map]
  refine List.Pairwise.imp (fun h => ?_) (List.Pairwise.filter _ List.pairwise_lt_range)
  exact Int.ofNat_lt.2 h
/-- What is told of a writing to a right row. -/
theorem oth_row {T : List (List Nat)} {k : Nat} {s : List Nat} (hT : Secs T) (hs : Sec s) (hk : k < T.length) : othL (T.length + 2) (rowOf T) (rowOf (T.set k s)) = if s = T.getD k [] then [] else [(k : Int), (T.length : Int), ((T.length + 1 : Nat) : Int)] := by
  have hl : (T.set k s).length = T.length := List.length_set
  by_cases h : s = T.getD k []
  · rw [if_pos h]
    have e : T.set k s = T := by
      rw [h]
      refine list_eq List.length_set fun j hj => ?_
      rw [getD_set hk]
      by_cases c : j = k
      · rw [if_pos c, c]
      · rw [if_neg c]
    rw [e]
    refine List.eq_nil_iff_forall_not_mem.2 fun x hx => ?_
    obtain ⟨j, _, _, hj⟩ := hold_mem.1 hx
    unfold othr at hj
    simp at hj
  · rw [if_neg h]
    have a1 : ∀ j, j < T.length → (othr (rowOf T) (rowOf (T.set k s)) j = true ↔ j = k) := fun j hj => by
      unfold othr
      rw [decide_eq_true_iff, rowOf_lo hj, rowOf_lo (by rw [hl]; exact hj), getD_set hk]
      by_cases c : j = k
      · subst c; rw [if_pos rfl]; exact ⟨fun _ => rfl, fun _ => h⟩
      · rw [if_neg c]; exact ⟨fun f => absurd rfl f, fun f => absurd f c⟩
    have a2 : othr (rowOf T) (rowOf (T.set k s)) T.length = true := by
      unfold othr
      have := rowOf_p (T.set k s)
      rw [hl] at this
      rw [decide_eq_true_iff, rowOf_p, this, psum_set' hT hs hk, xor_ne (psum_sec hT _ (Nat.le_refl _)) (hT.at hk) hs]
      exact h
    have a3 : othr (rowOf T) (rowOf (T.set k s)) (T.length + 1) = true := by
      unfold othr
      have := rowOf_q (T.set k s)
      rw [hl] at this
      rw [decide_eq_true_iff, rowOf_q, this, qsum_set' hT hs hk, xorm_ne (qsum_sec hT _ (Nat.le_refl _)) (hT.at hk) hs]
      exact h
    refine risE _ _ (hold_rise _ _) ?_ fun x => ?_
    · simp; omega
    · rw [hold_mem]
      constructor
      · rintro ⟨j, rfl, h1, h2⟩
        by_cases c : j < T.length
        · rw [(a1 j c).1 h2]; simp
        · have : j = T.length ∨ j = T.length + 1 := by omega
          rcases this with rfl | rfl <;> simp
      · intro hx
        simp only [List.mem_cons, List.not_mem_nil, or_false] at hx
        rcases hx with rfl | rfl | rfl
        · exact ⟨k, rfl, by omega, (a1 k hk).2 rfl⟩
        · exact ⟨T.length, rfl, by omega, a2⟩
        · exact ⟨T.length + 1, rfl, by omega, a3⟩
end Go.Proofs.Ytdmcbfmpnakdfaa.Eng.St
namespace Go.Proofs.Ytdmcbfmpnakdfaa.Eng.St
open Go Go.RowKit Go.Shelf Go.Proofs Go.Proofs.Ytdmcbfmpnakdfaa.Gf Go.Proofs.Ytdmcbfmpnakdfaa.Rf
set_option maxRecDepth 20000
set_option maxHeartbeats 1000000
theorem lostN_mem {n : Nat} {K : List Nat} {k : Nat} : k ∈ lostN n K ↔ k < n ∧ K.getD k 0 = 0 := by
  unfold lostN gone
  rw [List.mem_filter, List.mem_range, decide_eq_true_iff]
theorem lostN_nodup (n : Nat) (K : List Nat) : (lostN n K).Nodup := List.Pairwise.filter _ List.nodup_range
theorem lostN_asc (n : Nat) (K : List Nat) : (lostN n K).Pairwise (· < ·) := List.Pairwise.filter _ List.pairwise_lt_range
theorem lostN_ext {n : Nat} {K M : List Nat} (h : ∀ k, k < n → (K.getD k 0 = 0 ↔ M.getD k 0 = 0)) : lostN n K = lostN n M := by
  unfold lostN
  refine List.filter_congr fun k hk => ?_
  unfold gone
  rw [decide_eq_decide]
  exact h k (List.mem_range.1 hk)
theorem getD_setN {K : List Nat} {i j v : Nat} (hi : i < K.length) : (K.set i v).getD j 0 = if j = i then v else K.getD j 0 := by
  rw [List.getD_eq_getElem?_getD, List.getElem?_set]
  by_cases h : i = j
  · subst h
    rw [if_pos rfl, if_pos hi, if_pos rfl]
    rfl
  · rw [if_neg h, if_neg (fun e => h e.symm), ← List.getD_eq_getElem?_getD]
theorem setK_get : ∀ {ks K : List Nat} {j : Nat}, (∀ k ∈ ks, k < K.length) → (setK K ks).getD j 0 = if j ∈ ks then 1 else K.getD j 0
  | [], K, j, _ => by simp [setK]
  | k :: ks, K, j, h => by
    show (setK (K.set k 1) ks).getD j 0 = _
    rw [setK_get (fun x hx => by rw [List.length_set]; exact h x (List.mem_cons_of_mem _ hx)), getD_setN (h k List.mem_cons_self)]
    by_cases h1 : j ∈ ks
    · rw [if_pos h1, if_pos (List.mem_cons_of_mem _ h1)]
    · rw [if_neg h1]
      by_cases h2 : j = k
      · rw [if_pos h2, if_pos (by rw [h2]; exact List.mem_cons_self)]
      · rw [if_neg h2, if_neg (by rw [List.mem_cons]; exact fun h => h.elim h2 h1)]
/-- Behind a mending nothing is lost. -/
theorem setK_some {n : Nat} {K : List Nat} (hK : K.length = n) {j : Nat} (hj : j < n) : (setK K (lostN n K)).getD j 0 ≠ 0 := by
  rw [setK_get (fun k hk => by rw [hK]; exact lostN_lt k hk)]
  by_cases h : j ∈ lostN n K
  · rw [if_pos h]; decide
  · rw [if_neg h]
    intro e
    exact h (lostN_mem.2 ⟨hj, e⟩)
theorem lostN_nil {n : Nat} {K : List Nat} (h : ∀ j, j < n → K.getD j 0 ≠ 0) : lostN n K = [] :=
  List.eq_nil_iff_forall_not_mem.2 fun k hk => h k (lostN_mem.1 hk).1 (lostN_mem.1 hk).2
theorem setK_lost {n : Nat} {K : List Nat} (hK : K.length = n) : lostN n (setK K (lostN n K)) = [] := lostN_nil fun _ hj => setK_some hK hj
/-- What is lost comes back. -/
theorem fix_back {T L : List (List Nat)} {K : List Nat} (hT : Secs T) (h1 : 1 ≤ T.length) (h62 : T.length ≤ 62) (hS : Secs L) (hL : L.length = T.length + 2) (h2 : (lostN (T.length + 2) K).length ≤ 2)
    (h : ∀ j, j < T.length + 2 → K.getD j 0 ≠ 0 → L.getD j [] = (rowOf T).getD j []) : fixR L (T.length + 2 - 2) (lostN (T.length + 2) K) = rowOf T := by
  rw [show T.length + 2 - 2 = T.length by omega]
  refine fixR_right (rowOf_secs hT) hS (rowOf_len T) hL h62 (by rw [rowOf_ps, rowOf_p]) (by rw [rowOf_qs, rowOf_q]) lostN_lt h2 (fun i j e => ?_) fun j hj hn => h j hj fun e => hn (lostN_mem.2 ⟨hj, e⟩)
  have := lostN_asc (T.length + 2) K
  rw [e] at this
  exact (List.pairwise_cons.1 this).1 j (by simp)
/-- Fix looks at nothing that is lost. -/
theorem fix_same {L M : List (List Nat)} {n m : Nat} {K : List Nat} (hL : L.length = n) (hM : M.length = n) (h : ∀ j, j < n → K.getD j 0 ≠ 0 → L.getD j [] = M.getD j []) : fixR L m (lostN n K) = fixR M m (lostN n K) := by
  have e : zeroed L (lostN n K) = zeroed M (lostN n K) := by
    refine list_eq (by rw [zeroed_length, zeroed_length, hL, hM]) fun j hj => ?_
    rw [zeroed_length, hL] at hj
    rw [zeroed_get (fun k hk => by rw [hL]; exact lostN_lt k hk), zeroed_get (fun k hk => by rw [hM]; exact lostN_lt k hk)]
    by_cases c : j ∈ lostN n K
    · rw [if_pos c, if_pos c]
    · rw [if_neg c, if_neg c]
      exact h j hj fun e => c (lostN_mem.2 ⟨hj, e⟩)
  unfold fixR
  rw [e]
/-- How many are lost of three that may be one. -/
theorem lost_count {n : Nat} {K S : List Nat} (hS : S.Nodup) (h : ∀ k, (k < n ∧ K.getD k 0 = 0) ↔ k ∈ S) : (lostN n K).length = S.length :=
  ((List.perm_ext_iff_of_nodup (lostN_nodup n K) hS).2 fun k => by rw [lostN_mem, h]).length_eq
theorem lost_two {n i k : Nat} {K : List Nat} (h : ∀ j, (j < n ∧ K.getD j 0 = 0) ↔ j = i ∨ j = k) : (lostN n K).length = if i = k then 1 else 2 := by
  by_cases e : i = k
  · rw [if_pos e, lost_count (S := [i]) (by simp) (fun j => by rw [h]; simp [← e])]; rfl
  · rw [if_neg e, lost_count (S := [i, k]) (by simp [e]) (fun j => by rw [h]; simp)]; rfl
theorem lost_three {n i k m : Nat} {K : List Nat} (h : ∀ j, (j < n ∧ K.getD j 0 = 0) ↔ j = i ∨ j = k ∨ j = m) : ((lostN n K).length = 3 ↔ (i ≠ k ∧ k ≠ m ∧ i ≠ m)) ∧ (lostN n K).length ≤ 3 ∧ 0 < (lostN n K).length := by
  by_cases a : i = k <;> by_cases b : k = m <;> by_cases c : i = m
  all_goals first | omega | skip
  · have := lost_count (S := [i]) (by simp) (fun j => by rw [h]; simp [← a, ← b, ← c]) ; simp at this; omega
  · have := lost_count (S := [i, m]) (by simp [c]) (fun j => by rw [h]; simp [← a]) ; simp at this; omega
  · have := lost_count (S := [i, k]) (by simp [a]) (fun j => by rw [h]; simp [← b]) ; simp at this; omega
  · have := lost_count (S := [i, k]) (by simp [a]) (fun j => by rw [h]; simp [← c]; omega) ; simp at this; omega
  · have := lost_count (S := [i, k, m]) (by simp [a, b, c]) (fun j => by rw [h]; simp) ; simp at this; omega
end Go.Proofs.Ytdmcbfmpnakdfaa.Eng.St
