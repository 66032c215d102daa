/- Plain law of right rows: sums over columns byte by byte; what comes back; what a change makes of a right row. -/
import Derived.Test.YtdmcbfmpnakdfaaQf
import Derived.Test.YtdmcbfmpnakdfaaQc
namespace Go.Proofs.Ytdmcbfmpnakdfaa.Eng
open Go Go.Proofs Go.Proofs.Ytdmcbfmpnakdfaa.Gf
/-- The sum of the first m. -/
def xS (f : Nat → Nat) : Nat → Nat
  | 0 => 0
  | k + 1 => xS f k ^^^ f k
theorem zero_get (q : Nat) : zeros.getD q 0 = 0 := by
  unfold zeros
  rw [List.getD_eq_getElem?_getD, List.getElem?_replicate]
  split <;> rfl
theorem if_iff {c d : Prop} [Decidable c] [Decidable d] {x : Nat} (h : c ↔ d) : (if c then x else 0) = if d then x else 0 := by
  by_cases hd : d
  · rw [if_pos hd, if_pos (h.2 hd)]
  · rw [if_neg hd, if_neg (fun hc => hd (h.1 hc))]
theorem x4 (a b c d : Nat) : (a ^^^ b) ^^^ (c ^^^ d) = (a ^^^ c) ^^^ (b ^^^ d) := by
  rw [Nat.xor_assoc, Nat.xor_assoc, ← Nat.xor_assoc b, Nat.xor_comm b c, Nat.xor_assoc c]
theorem xS_xor (f g : Nat → Nat) : ∀ m, xS (fun j => f j ^^^ g j) m = xS f m ^^^ xS g m
  | 0 => by simp [xS]
  | m + 1 => by rw [xS, xS, xS, xS_xor f g m, x4]
theorem xS_one (i x : Nat) : ∀ m, xS (fun j => if j = i then x else 0) m = if i < m then x else 0
  | 0 => rfl
  | m + 1 => by
    rw [xS, xS_one i x m]
    by_cases h : m = i
    · subst h; simp
    · by_cases h2 : i < m
      · rw [if_pos h2, if_neg h, if_pos (by omega), Nat.xor_zero]
      · rw [if_neg h2, if_neg h, if_neg (by omega)]; rfl
theorem xS_congr {f g : Nat → Nat} : ∀ m, (∀ j, j < m → f j = g j) → xS f m = xS g m
  | 0, _ => rfl
  | m + 1, h => by rw [xS, xS, xS_congr m (fun j hj => h j (by omega)), h m (by omega)]
theorem psum_get {L : List (List Nat)} (h : Secs L) {q : Nat} (hq : q < 64) : ∀ m, m ≤ L.length → (psum L m).getD q 0 = xS (fun j => (L.getD j []).getD q 0) m
  | 0, _ => by rw [psum, xS, zero_get]
  | m + 1, hm => by
    rw [psum, xS, xorL_get (by rw [(psum_sec h m (by omega)).len]; exact hq) (by rw [(h.at (by omega)).len]; exact hq), psum_get h hq m (by omega)]
theorem qsum_get {L : List (List Nat)} (h : Secs L) {q : Nat} (hq : q < 64) : ∀ m, m ≤ L.length → (qsum L m).getD q 0 = xS (fun j => gmul ((L.getD j []).getD q 0) (pw j)) m
  | 0, _ => by rw [qsum, xS, zero_get]
  | m + 1, hm => by
    have h1 := h.at (i := m) (by omega)
    rw [qsum, xS, xorL_get (by rw [(qsum_sec h m (by omega)).len]; exact hq) (by rw [mulL_length h1.len]; exact hq), qsum_get h hq m (by omega), mulL_get (by rw [h1.len]; exact hq), pwZ_nat]
theorem sec_ext {a b : List Nat} (ha : Sec a) (hb : Sec b) (h : ∀ q, q < 64 → a.getD q 0 = b.getD q 0) : a = b := by
  apply List.ext_getElem (ha.len.trans hb.len.symm)
  intro q h1 h2
  have := h q (by rw [← ha.len]; exact h1)
  rwa [List.getD_eq_getElem?_getD, List.getD_eq_getElem?_getD, List.getElem?_eq_getElem h1, List.getElem?_eq_getElem h2] at this

theorem cancel {a b c d : Nat} (h : a ^^^ b = c ^^^ d) (e : a = c) : b = d := by
  subst e
  have := congrArg (a ^^^ ·) h
  simpa [← Nat.xor_assoc] using this
theorem eq_of_xor {x y : Nat} (h : x ^^^ y = 0) : x = y := by
  have := congrArg (· ^^^ y) h
  simpa [Nat.xor_assoc] using this
theorem twoA_get {p q : List Nat} {u v k : Nat} (hp : Sec p) (hq : Sec q) (hv : v < 256) (hk : k < 64) : (twoA p q u v).getD k 0 = gmul (q.getD k 0 ^^^ gmul v (p.getD k 0)) (ginv (u ^^^ v)) := by
  unfold twoA
  have h1 := xorL_sec hq (mulL_sec (f := v) hp)
  rw [mulL_get (by rw [h1.len]; exact hk), xorL_get (by rw [hq.len]; exact hk) (by rw [mulL_length hp.len]; exact hk), mulL_get (by rw [hp.len]; exact hk), gmul_comm (hp.get k) hv]
theorem twoB_get {p q : List Nat} {u v k : Nat} (hp : Sec p) (hq : Sec q) (hk : k < 64) : (twoB p q u v).getD k 0 = p.getD k 0 ^^^ (twoA p q u v).getD k 0 := by
  unfold twoB
  rw [xorL_get (by rw [hp.len]; exact hk) (by rw [(twoA_sec hp hq).len]; exact hk)]
set_option maxHeartbeats 4000000 in
set_option maxRecDepth 100000 in
theorem list_eq {L M : List (List Nat)} (hl : L.length = M.length) (h : ∀ j, j < L.length → L.getD j [] = M.getD j []) : L = M := by
  apply List.ext_getElem hl
  intro j h1 h2
  have := h j h1
  rwa [List.getD_eq_getElem?_getD, List.getD_eq_getElem?_getD, List.getElem?_eq_getElem h1, List.getElem?_eq_getElem h2] at this
theorem psum_cg {L M : List (List Nat)} : ∀ n, (∀ j, j < n → L.getD j [] = M.getD j []) → psum L n = psum M n
  | 0, _ => rfl
  | n + 1, h => by rw [psum, psum, psum_cg n (fun j hj => h j (by omega)), h n (by omega)]
theorem qsum_cg {L M : List (List Nat)} : ∀ n, (∀ j, j < n → L.getD j [] = M.getD j []) → qsum L n = qsum M n
  | 0, _ => rfl
  | n + 1, h => by rw [qsum, qsum, qsum_cg n (fun j hj => h j (by omega)), h n (by omega)]
theorem getD_set {S : List (List Nat)} {i j : Nat} {d : List Nat} (hi : i < S.length) : (S.set i d).getD j [] = if j = i then d else S.getD j [] := by
  rw [List.getD_eq_getElem?_getD, List.getElem?_set]
  by_cases h : i = j
  · subst h
    rw [if_pos rfl, if_pos hi, if_pos rfl]
    rfl
  · rw [if_neg h, if_neg (fun e => h e.symm), ← List.getD_eq_getElem?_getD]
theorem zeroed_get : ∀ {ks : List Nat} {S : List (List Nat)} {j : Nat}, (∀ k ∈ ks, k < S.length) → (zeroed S ks).getD j [] = if j ∈ ks then zeros else S.getD j []
  | [], S, j, _ => by simp [zeroed]
  | k :: ks, S, j, h => by
    have ih := zeroed_get (ks := ks) (S := S.set k zeros) (j := j) (fun x hx => by rw [List.length_set]; exact h x (List.mem_cons_of_mem _ hx))
    rw [show zeroed S (k :: ks) = zeroed (S.set k zeros) ks from rfl, ih, getD_set (h k List.mem_cons_self)]
    by_cases h1 : j ∈ ks
    · rw [if_pos h1, if_pos (List.mem_cons_of_mem _ h1)]
    · rw [if_neg h1]
      by_cases h2 : j = k
      · rw [if_pos h2, if_pos (by rw [h2]; exact List.mem_cons_self)]
      · rw [if_neg h2, if_neg (by rw [List.mem_cons]; exact fun h => h.elim h2 h1)]
theorem ends_get {m : Nat} {P Q : List Nat} : ∀ {ks : List Nat} {S : List (List Nat)} {j : Nat}, (∀ k ∈ ks, k < S.length) → (ks.foldl (endOne m P Q) S).getD j [] = if j ∈ ks ∧ j = m then P else if j ∈ ks ∧ j = m + 1 then Q else S.getD j []
  | [], S, j, _ => by simp
  | k :: ks, S, j, h => by
    have hk := h k List.mem_cons_self
    have ih := ends_get (m := m) (P := P) (Q := Q) (ks := ks) (S := endOne m P Q S k) (j := j) (fun x hx => by rw [endOne_length]; exact h x (List.mem_cons_of_mem _ hx))
    rw [List.foldl_cons, ih]
    have e1 : (endOne m P Q S k).getD j [] = if j = k ∧ j = m then P else if j = k ∧ j = m + 1 then Q else S.getD j [] := by
      unfold endOne
      by_cases h1 : k = m
      · rw [if_pos h1, getD_set hk]
        by_cases h2 : j = k
        · rw [if_pos h2, if_pos ⟨h2, h2.trans h1⟩]
        · rw [if_neg h2, if_neg (fun h => h2 h.1), if_neg (fun h => h2 h.1)]
      · rw [if_neg h1]
        by_cases h3 : k = m + 1
        · rw [if_pos h3, getD_set hk]
          by_cases h2 : j = k
          · rw [if_pos h2, if_neg (fun h => h1 (h.1.symm.trans h.2)), if_pos ⟨h2, h2.trans h3⟩]
          · rw [if_neg h2, if_neg (fun h => h2 h.1), if_neg (fun h => h2 h.1)]
        · rw [if_neg h3, if_neg (fun h => h1 (h.1.symm.trans h.2)), if_neg (fun h => h3 (h.1.symm.trans h.2))]
    rw [e1]
    by_cases a : j ∈ ks <;> by_cases b : j = k <;> by_cases c : j = m <;> by_cases d : j = m + 1 <;> simp [a, b, c, d, List.mem_cons] <;> (try simp_all) <;> (try omega)
/-- The end of Fix: where all but the lost parities stand. -/
theorem ends_right {R R1 : List (List Nat)} {m : Nat} {ks : List Nat} (hl : R.length = m + 2) (hl1 : R1.length = m + 2) (hp : psum R m = R.getD m []) (hq : qsum R m = R.getD (m + 1) []) (hk : ∀ k ∈ ks, k < m + 2)
    (h : ∀ j, j < m + 2 → j < m ∨ j ∉ ks → R1.getD j [] = R.getD j []) : fixEnd R1 m ks = R := by
  have e1 : psum R1 m = R.getD m [] := by
    rw [← hp]
    exact psum_cg m (fun j hj => h j (by omega) (.inl hj))
  have e2 : qsum R1 m = R.getD (m + 1) [] := by
    rw [← hq]
    exact qsum_cg m (fun j hj => h j (by omega) (.inl hj))
  unfold fixEnd
  rw [e1, e2]
  refine list_eq (by rw [foldl_len (fun _ _ => endOne_length), hl1, hl]) (fun j hj => ?_)
  rw [foldl_len (fun _ _ => endOne_length), hl1] at hj
  rw [ends_get (fun k hk2 => by rw [hl1]; exact hk k hk2)]
  by_cases c1 : j ∈ ks ∧ j = m
  · rw [if_pos c1, c1.2]
  · rw [if_neg c1]
    by_cases c2 : j ∈ ks ∧ j = m + 1
    · rw [if_pos c2, c2.2]
    · rw [if_neg c2]
      refine h j hj ?_
      by_cases hm : j < m
      · exact .inl hm
      · refine .inr (fun hks => ?_)
        rcases Nat.lt_or_ge j (m + 1) with h3 | h3
        · exact c1 ⟨hks, by omega⟩
        · exact c2 ⟨hks, by omega⟩
variable {R Z : List (List Nat)} {m i k : Nat}
/-- Z is R without the columns i and k. -/
def Without (R Z : List (List Nat)) (m i k : Nat) : Prop := ∀ j q, j < m → q < 64 → (Z.getD j []).getD q 0 = ((R.getD j []).getD q 0 ^^^ (if j = i then (R.getD i []).getD q 0 else 0)) ^^^ (if j = k then (R.getD k []).getD q 0 else 0)
theorem without_sum (hR : Secs R) (hZ : Secs Z) (hm : m ≤ R.length) (hm2 : m ≤ Z.length) (h : Without R Z m i k) {q : Nat} (hq : q < 64) :
    (psum Z m).getD q 0 = ((psum R m).getD q 0 ^^^ (if i < m then (R.getD i []).getD q 0 else 0)) ^^^ (if k < m then (R.getD k []).getD q 0 else 0) := by
  rw [psum_get hZ hq m hm2, psum_get hR hq m hm, ← xS_one, ← xS_one, ← xS_xor, ← xS_xor]
  exact xS_congr m (fun j hj => h j q hj hq)
theorem byte_lt (hR : Secs R) (j q : Nat) : (R.getD j []).getD q 0 < 256 := by
  by_cases h : j < R.length
  · exact (hR.at h).get q
  · have : R.getD j [] = [] := by rw [List.getD_eq_getElem?_getD, List.getElem?_eq_none (by omega)]; rfl
    rw [this]
    simp
theorem without_qsum (hR : Secs R) (hZ : Secs Z) (hm : m ≤ R.length) (hm2 : m ≤ Z.length) (h : Without R Z m i k) {q : Nat} (hq : q < 64) :
    (qsum Z m).getD q 0 = ((qsum R m).getD q 0 ^^^ (if i < m then gmul ((R.getD i []).getD q 0) (pw i) else 0)) ^^^ (if k < m then gmul ((R.getD k []).getD q 0) (pw k) else 0) := by
  rw [qsum_get hZ hq m hm2, qsum_get hR hq m hm, ← xS_one, ← xS_one, ← xS_xor, ← xS_xor]
  refine xS_congr m (fun j hj => ?_)
  have hr := byte_lt hR j q
  have hx := byte_lt hR i q
  have hy := byte_lt hR k q
  have t : ∀ {c : Prop} [Decidable c] {v : Nat}, v < 256 → (if c then v else 0) < 256 := fun {c} _ {v} h => by
    split
    · exact h
    · decide
  have u : ∀ {l v : Nat}, gmul (if j = l then v else 0) (pw j) = if j = l then gmul v (pw l) else 0 := fun {l v} => by
    by_cases h : j = l
    · rw [if_pos h, if_pos h, h]
    · rw [if_neg h, if_neg h, gmul_zero_left _ (pw_lt j)]
  rw [h j q hj hq, gmul_xor_left _ (xor_lt hr (t hx)) (t hy), gmul_xor_left _ hr (t hx), u, u]
theorem undo {g r : Nat} (hg : g < 256) (h : g ≠ 0) (hr : r < 256) : gmul (gmul r g) (ginv g) = r := by
  rw [gmul_assoc hr hg (ginv_lt g), gmul_ginv hg h, gmul_one_right r hr]
theorem xmid (a b : Nat) : a ^^^ (a ^^^ b) = b := by rw [← Nat.xor_assoc, Nat.xor_self, Nat.zero_xor]
theorem x3 (p a : Nat) : p ^^^ ((p ^^^ a) ^^^ 0) = a := by rw [Nat.xor_zero, xmid]
theorem x5 (p a b : Nat) : p ^^^ ((p ^^^ a) ^^^ b) = a ^^^ b := by rw [Nat.xor_assoc, xmid]
/-- One data column, by P. -/
theorem back_P (hR : Secs R) (hZ : Secs Z) (hm : m + 2 = R.length) (hm2 : m + 2 = Z.length) (hp : psum R m = R.getD m []) (h : Without R Z m i k) (hi : i < m) (hk : ¬ k < m) (hz : Z.getD m [] = R.getD m []) :
    xorL (Z.getD m []) (psum Z m) = R.getD i [] := by
  have s1 := hZ.at (i := m) (by omega)
  have s2 := psum_sec hZ m (by omega)
  refine sec_ext (xorL_sec s1 s2) (hR.at (by omega)) (fun q hq => ?_)
  rw [xorL_get (by rw [s1.len]; exact hq) (by rw [s2.len]; exact hq), without_sum hR hZ (by omega) (by omega) h hq, if_pos hi, if_neg hk, hz, hp, x3]
/-- One data column, by Q. -/
theorem back_Q (hR : Secs R) (hZ : Secs Z) (hm : m + 2 = R.length) (hm2 : m + 2 = Z.length) (hq' : qsum R m = R.getD (m + 1) []) (h : Without R Z m i k) (hi : i < m) (hk : ¬ k < m) (hz : Z.getD (m + 1) [] = R.getD (m + 1) []) :
    mulL (xorL (Z.getD (m + 1) []) (qsum Z m)) (pwZ (-(i : Int))) = R.getD i [] := by
  have s1 := hZ.at (i := m + 1) (by omega)
  have s2 := qsum_sec hZ m (by omega)
  have s3 := xorL_sec s1 s2
  refine sec_ext (mulL_sec s3) (hR.at (by omega)) (fun q hq => ?_)
  rw [mulL_get (by rw [s3.len]; exact hq), xorL_get (by rw [s1.len]; exact hq) (by rw [s2.len]; exact hq), without_qsum hR hZ (by omega) (by omega) h hq, if_pos hi, if_neg hk, hz, hq', x3, ← pwZ_nat,
    gmul_assoc (byte_lt hR i q) (pwZ_lt _) (pwZ_lt _), pwZ_add, show (i : Int) + -(i : Int) = 0 by omega, pwZ_zero, gmul_one_right _ (byte_lt hR i q)]
/-- Two data columns. -/
theorem back_two (hR : Secs R) (hZ : Secs Z) (hm : m + 2 = R.length) (hm2 : m + 2 = Z.length) (hm3 : m ≤ 62) (hp : psum R m = R.getD m []) (hq' : qsum R m = R.getD (m + 1) []) (h : Without R Z m i k) (hi : i < m) (hk : k < m) (hik : i ≠ k)
    (hz : Z.getD m [] = R.getD m []) (hz2 : Z.getD (m + 1) [] = R.getD (m + 1) []) :
    twoA (xorL (Z.getD m []) (psum Z m)) (xorL (Z.getD (m + 1) []) (qsum Z m)) (pwZ (i : Int)) (pwZ (k : Int)) = R.getD i [] ∧
    twoB (xorL (Z.getD m []) (psum Z m)) (xorL (Z.getD (m + 1) []) (qsum Z m)) (pwZ (i : Int)) (pwZ (k : Int)) = R.getD k [] := by
  have s1 := hZ.at (i := m) (by omega)
  have s2 := psum_sec hZ m (by omega)
  have s3 := hZ.at (i := m + 1) (by omega)
  have s4 := qsum_sec hZ m (by omega)
  have sp := xorL_sec s1 s2
  have sq := xorL_sec s3 s4
  have ep : ∀ q, q < 64 → (xorL (Z.getD m []) (psum Z m)).getD q 0 = (R.getD i []).getD q 0 ^^^ (R.getD k []).getD q 0 := fun q hq => by
    rw [xorL_get (by rw [s1.len]; exact hq) (by rw [s2.len]; exact hq), without_sum hR hZ (by omega) (by omega) h hq, if_pos hi, if_pos hk, hz, hp, x5]
  have eq : ∀ q, q < 64 → (xorL (Z.getD (m + 1) []) (qsum Z m)).getD q 0 = gmul ((R.getD i []).getD q 0) (pw i) ^^^ gmul ((R.getD k []).getD q 0) (pw k) := fun q hq => by
    rw [xorL_get (by rw [s3.len]; exact hq) (by rw [s4.len]; exact hq), without_qsum hR hZ (by omega) (by omega) h hq, if_pos hi, if_pos hk, hz2, hq', x5]
  have hg : pw i ^^^ pw k ≠ 0 := fun e => hik (pw_inj (by omega) (by omega) (eq_of_xor e))
  have eA : ∀ q, q < 64 → (twoA (xorL (Z.getD m []) (psum Z m)) (xorL (Z.getD (m + 1) []) (qsum Z m)) (pwZ (i : Int)) (pwZ (k : Int))).getD q 0 = (R.getD i []).getD q 0 := fun q hq => by
    have hx := byte_lt hR i q
    have hy := byte_lt hR k q
    rw [twoA_get sp sq (pwZ_lt _) hq, ep q hq, eq q hq, pwZ_nat, pwZ_nat, gmul_comm (pw_lt k) (xor_lt hx hy), gmul_xor_left _ hx hy, x4, Nat.xor_comm (gmul ((R.getD k []).getD q 0) (pw k)), Nat.xor_self, Nat.xor_zero, ← gmul_xor_right, undo (xor_lt (pw_lt i) (pw_lt k)) hg hx]
  refine ⟨sec_ext (twoA_sec sp sq) (hR.at (by omega)) eA, sec_ext (twoB_sec sp sq) (hR.at (by omega)) (fun q hq => ?_)⟩
  rw [twoB_get sp sq hq, eA q hq, ep q hq, Nat.xor_comm ((R.getD i []).getD q 0), Nat.xor_assoc, Nat.xor_self, Nat.xor_zero]

/-- What stands where the lost columns are emptied. -/
theorem zero_at {T : List (List Nat)} {ks : List Nat} (hT : T.length = m + 2) (hk : ∀ x ∈ ks, x < m + 2) (h : ∀ j, j < m + 2 → j ∉ ks → T.getD j [] = R.getD j []) {j : Nat} (hj : j < m + 2) : (zeroed T ks).getD j [] = if j ∈ ks then zeros else R.getD j [] := by
  rw [zeroed_get (fun x hx => by rw [hT]; exact hk x hx)]
  by_cases c : j ∈ ks
  · rw [if_pos c, if_pos c]
  · rw [if_neg c, if_neg c, h j hj c]
theorem without_of {T : List (List Nat)} {ks : List Nat} (hT : T.length = m + 2) (hk : ∀ x ∈ ks, x < m + 2) (h : ∀ j, j < m + 2 → j ∉ ks → T.getD j [] = R.getD j []) (hik : i ≠ k) (hm : ∀ j, j < m → (j ∈ ks ↔ j = i ∨ j = k)) : Without R (zeroed T ks) m i k := fun j q hj hq => by
  rw [zero_at hT hk h (by omega)]
  by_cases c : j ∈ ks
  · rw [if_pos c, zero_get]
    rcases (hm j hj).1 c with e | e
    · rw [if_pos e, if_neg (fun e2 => hik (e.symm.trans e2)), e, Nat.xor_self]; rfl
    · rw [if_neg (fun e2 => hik (e2.symm.trans e)), if_pos e, e, Nat.xor_zero, Nat.xor_self]
  · rw [if_neg c, if_neg (fun e => c ((hm j hj).2 (.inl e))), if_neg (fun e => c ((hm j hj).2 (.inr e))), Nat.xor_zero, Nat.xor_zero]
/-- THE STAGE's THEOREM: of a right row any two columns can be lost, whatever stands in their place. -/
theorem fixR_right {T : List (List Nat)} {ks : List Nat} (hR : Secs R) (hS : Secs T) (hl : R.length = m + 2) (hT : T.length = m + 2) (hm : m ≤ 62) (hp : psum R m = R.getD m []) (hq : qsum R m = R.getD (m + 1) [])
    (hk : ∀ x ∈ ks, x < m + 2) (h2 : ks.length ≤ 2) (hasc : ∀ i j, ks = [i, j] → i < j) (h : ∀ j, j < m + 2 → j ∉ ks → T.getD j [] = R.getD j []) : fixR T m ks = R := by
  have hZ : Secs (zeroed T ks) := zeroed_secs hS
  have hZl : (zeroed T ks).length = m + 2 := zeroed_length.trans hT
  have hz := fun j (hj : j < m + 2) => zero_at (R := R) hT hk h hj
  have hzn : ∀ j, j < m + 2 → j ∉ ks → (zeroed T ks).getD j [] = R.getD j [] := fun j hj c => by rw [hz j hj, if_neg c]
  unfold fixR
  match ks, h2 with
  | [], _ => exact ends_right hl hZl hp hq hk (fun j hj _ => hzn j hj (by simp))
  | [i], _ =>
    have hi := hk i (by simp)
    by_cases hid : i < m
    · have hw : Without R (zeroed T [i]) m i (m + 2) := without_of hT hk h (by omega) (fun j hj => by
        rw [List.mem_singleton]
        exact ⟨.inl, fun e => e.elim id (fun e => by omega)⟩)
      have eb := back_P hR hZ hl.symm hZl.symm hp hw hid (by omega) (hzn m (by omega) (by rw [List.mem_singleton]; omega))
      have e1 : fixMid (zeroed T [i]) m [i] = (zeroed T [i]).set i (R.getD i []) := by
        simp only [fixMid]
        rw [if_pos hid, eb]
      rw [e1]
      refine ends_right hl (by rw [List.length_set]; exact hZl) hp hq hk (fun j hj _ => ?_)
      rw [getD_set (by rw [hZl]; exact hi)]
      by_cases e : j = i
      · rw [if_pos e, e]
      · rw [if_neg e, hzn j hj (by rw [List.mem_singleton]; exact e)]
    · have e1 : fixMid (zeroed T [i]) m [i] = zeroed T [i] := by
        simp only [fixMid]
        rw [if_neg hid]
      rw [e1]
      refine ends_right hl hZl hp hq hk (fun j hj c => hzn j hj ?_)
      rw [List.mem_singleton]
      rcases c with c | c
      · omega
      · rwa [List.mem_singleton] at c
  | [i, k], _ =>
    have hi := hk i (by simp)
    have hkk := hk k (by simp)
    have hik := hasc i k rfl
    have mem : ∀ j, j ∈ [i, k] ↔ j = i ∨ j = k := fun j => by simp
    by_cases hkd : k < m
    · have hw : Without R (zeroed T [i, k]) m i k := without_of hT hk h (by omega) (fun j _ => mem j)
      obtain ⟨ea, eb⟩ := back_two hR hZ hl.symm hZl.symm hm hp hq hw (by omega) hkd (by omega) (hzn m (by omega) (by rw [mem]; omega)) (hzn (m + 1) (by omega) (by rw [mem]; omega))
      have e1 : fixMid (zeroed T [i, k]) m [i, k] = ((zeroed T [i, k]).set i (R.getD i [])).set k (R.getD k []) := by
        simp only [fixMid]
        rw [if_pos hkd, ea, eb]
      rw [e1]
      refine ends_right hl (by rw [List.length_set, List.length_set]; exact hZl) hp hq hk (fun j hj _ => ?_)
      rw [getD_set (by rw [List.length_set, hZl]; exact hkk), getD_set (by rw [hZl]; exact hi)]
      by_cases e : j = k
      · rw [if_pos e, e]
      · rw [if_neg e]
        by_cases e2 : j = i
        · rw [if_pos e2, e2]
        · rw [if_neg e2, hzn j hj (by rw [mem]; exact fun h => h.elim e2 e)]
    · by_cases hid : i < m
      · have hw : Without R (zeroed T [i, k]) m i (m + 2) := without_of hT hk h (by omega) (fun j hj => by
          rw [mem]
          exact ⟨fun e => e.elim .inl (fun e => by omega), fun e => e.elim .inl (fun e => by omega)⟩)
        have e1 : fixMid (zeroed T [i, k]) m [i, k] = (zeroed T [i, k]).set i (R.getD i []) := by
          simp only [fixMid]
          rw [if_neg hkd, if_pos hid]
          by_cases c : k = m
          · rw [if_pos c, back_Q hR hZ hl.symm hZl.symm hq hw hid (by omega) (hzn (m + 1) (by omega) (by rw [mem]; omega))]
          · rw [if_neg c, back_P hR hZ hl.symm hZl.symm hp hw hid (by omega) (hzn m (by omega) (by rw [mem]; omega))]
        rw [e1]
        refine ends_right hl (by rw [List.length_set]; exact hZl) hp hq hk (fun j hj c => ?_)
        rw [getD_set (by rw [hZl]; exact hi)]
        by_cases e : j = i
        · rw [if_pos e, e]
        · rw [if_neg e, hzn j hj ?_]
          rw [mem]
          rcases c with c | c
          · omega
          · rwa [mem] at c
      · have e1 : fixMid (zeroed T [i, k]) m [i, k] = zeroed T [i, k] := by
          simp only [fixMid]
          rw [if_neg hkd, if_neg hid]
        rw [e1]
        refine ends_right hl hZl hp hq hk (fun j hj c => hzn j hj ?_)
        rw [mem]
        rcases c with c | c
        · omega
        · rwa [mem] at c
end Go.Proofs.Ytdmcbfmpnakdfaa.Eng
