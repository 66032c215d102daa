/- Plain law of parities, byte by byte: sums over columns, and what two other columns make of a right row. -/
import Derived.Test.YtonjgbcibjnpoaaPt
namespace Go.Proofs.Ytonjgbcibjnpoaa.Pd
open Go.Proofs.Ytonjgbcibjnpoaa.Gf Go.Proofs.Ytonjgbcibjnpoaa.Sc Go.Proofs.Ytonjgbcibjnpoaa.Pb Go.Proofs.Ytonjgbcibjnpoaa.Ss Go.Proofs.Ytonjgbcibjnpoaa.Pw

/-- The sum of the first m. -/
def xS (f : Nat → Nat) : Nat → Nat
  | 0 => 0
  | k + 1 => xS f k ^^^ f k
theorem zero_get (q : Nat) : zeros.getD q 0 = 0 := by
  unfold zeros
  rw [List.getD_eq_getElem?_getD, List.getElem?_replicate]
  split <;> rfl
theorem if_iff {c d : Prop} [Decidable c] [Decidable d] {x : Nat} (h : c ↔ d) : (if c then x else 0) = if d then x else 0 := by
  by_cases hd : d
  · rw [if_pos hd, if_pos (h.2 hd)]
  · rw [if_neg hd, if_neg (fun hc => hd (h.1 hc))]
theorem x4 (a b c d : Nat) : (a ^^^ b) ^^^ (c ^^^ d) = (a ^^^ c) ^^^ (b ^^^ d) := by
  rw [Nat.xor_assoc, Nat.xor_assoc, ← Nat.xor_assoc b, Nat.xor_comm b c, Nat.xor_assoc c]
theorem xS_xor (f g : Nat → Nat) : ∀ m, xS (fun j => f j ^^^ g j) m = xS f m ^^^ xS g m
  | 0 => by simp [xS]
  | m + 1 => by rw [xS, xS, xS, xS_xor f g m, x4]
theorem xS_one (i x : Nat) : ∀ m, xS (fun j => if j = i then x else 0) m = if i < m then x else 0
  | 0 => rfl
  | m + 1 => by
    rw [xS, xS_one i x m]
    by_cases h : m = i
    · subst h; simp
    · by_cases h2 : i < m
      · rw [if_pos h2, if_neg h, if_pos (by omega), Nat.xor_zero]
      · rw [if_neg h2, if_neg h, if_neg (by omega)]; rfl
theorem xS_congr {f g : Nat → Nat} : ∀ m, (∀ j, j < m → f j = g j) → xS f m = xS g m
  | 0, _ => rfl
  | m + 1, h => by rw [xS, xS, xS_congr m (fun j hj => h j (by omega)), h m (by omega)]
theorem psum_get {L : List (List Nat)} (h : Secs L) {q : Nat} (hq : q < 64) : ∀ m, m ≤ L.length → (psum L m).getD q 0 = xS (fun j => (L.getD j []).getD q 0) m
  | 0, _ => by rw [psum, xS, zero_get]
  | m + 1, hm => by
    rw [psum, xS, xorL_get (by rw [(psum_sec h m (by omega)).len]; exact hq) (by rw [(h.at (by omega)).len]; exact hq), psum_get h hq m (by omega)]
theorem qsum_get {L : List (List Nat)} (h : Secs L) {q : Nat} (hq : q < 64) : ∀ m, m ≤ L.length → (qsum L m).getD q 0 = xS (fun j => gmul ((L.getD j []).getD q 0) (pw j)) m
  | 0, _ => by rw [qsum, xS, zero_get]
  | m + 1, hm => by
    have h1 := h.at (i := m) (by omega)
    rw [qsum, xS, xorL_get (by rw [(qsum_sec h m (by omega)).len]; exact hq) (by rw [mulL_length h1.len]; exact hq), qsum_get h hq m (by omega), mulL_get (by rw [h1.len]; exact hq), pwZ_nat]
theorem sec_ext {a b : List Nat} (ha : Sec a) (hb : Sec b) (h : ∀ q, q < 64 → a.getD q 0 = b.getD q 0) : a = b := by
  apply List.ext_getElem (ha.len.trans hb.len.symm)
  intro q h1 h2
  have := h q (by rw [← ha.len]; exact h1)
  rwa [List.getD_eq_getElem?_getD, List.getD_eq_getElem?_getD, List.getElem?_eq_getElem h1, List.getElem?_eq_getElem h2] at this

/-- What stands in a column behind the adding. -/
def toldC (R : List (List Nat)) (X Y : List Nat) (i k j : Nat) : List Nat := xorL (xorL (R.getD j []) (if j = i then X else zeros)) (if j = k then Y else zeros)
/-- The row behind the adding. -/
def told (R : List (List Nat)) (X Y : List Nat) (i k : Nat) : List (List Nat) := (List.range R.length).map (toldC R X Y i k)
variable {R : List (List Nat)} {X Y : List Nat} {i k : Nat}
theorem told_length : (told R X Y i k).length = R.length := by simp [told]
theorem told_at {j : Nat} (hj : j < R.length) : (told R X Y i k).getD j [] = toldC R X Y i k j := by
  simp [told, List.getD_eq_getElem?_getD, hj]
theorem ite_sec {c : Prop} [Decidable c] (hX : Sec X) : Sec (if c then X else zeros) := by
  split
  · exact hX
  · exact zeros_sec
theorem toldC_sec (hR : Secs R) (hX : Sec X) (hY : Sec Y) {j : Nat} (hj : j < R.length) : Sec (toldC R X Y i k j) := xorL_sec (xorL_sec (hR.at hj) (ite_sec hX)) (ite_sec hY)
theorem told_secs (hR : Secs R) (hX : Sec X) (hY : Sec Y) : Secs (told R X Y i k) := fun l hl => by
  obtain ⟨j, hj, rfl⟩ := List.mem_map.1 hl
  exact toldC_sec hR hX hY (List.mem_range.1 hj)
theorem ite_get {c : Prop} [Decidable c] {q : Nat} (_ : q < 64) : (if c then X else zeros).getD q 0 = if c then X.getD q 0 else 0 := by
  split
  · rfl
  · exact zero_get q
theorem toldC_get (hR : Secs R) (hX : Sec X) (hY : Sec Y) {j q : Nat} (hj : j < R.length) (hq : q < 64) :
    (toldC R X Y i k j).getD q 0 = ((R.getD j []).getD q 0 ^^^ (if j = i then X.getD q 0 else 0)) ^^^ (if j = k then Y.getD q 0 else 0) := by
  have h1 := hR.at hj
  have h2 : Sec (if j = i then X else zeros) := ite_sec hX
  have h3 : Sec (if j = k then Y else zeros) := ite_sec hY
  unfold toldC
  rw [xorL_get (by rw [xorL_length h1.len h2.len]; exact hq) (by rw [h3.len]; exact hq), xorL_get (by rw [h1.len]; exact hq) (by rw [h2.len]; exact hq), ite_get hq, ite_get hq]
theorem cancel {a b c d : Nat} (h : a ^^^ b = c ^^^ d) (e : a = c) : b = d := by
  subst e
  have := congrArg (a ^^^ ·) h
  simpa [← Nat.xor_assoc] using this
theorem eq_of_xor {x y : Nat} (h : x ^^^ y = 0) : x = y := by
  have := congrArg (· ^^^ y) h
  simpa [Nat.xor_assoc] using this
/-- The core: what is added, byte by byte, is nothing if the row stays right. -/
theorem two_cols {m i k x y : Nat} (hm : m ≤ 62) (hx : x < 256) (hy : y < 256) (hi : i < m + 2) (hk : k < m + 2) (hik : i ≠ k)
    (h1 : (if i < m then x else 0) ^^^ (if k < m then y else 0) = (if m = i then x else 0) ^^^ (if m = k then y else 0))
    (h2 : (if i < m then gmul x (pw i) else 0) ^^^ (if k < m then gmul y (pw k) else 0) = (if m + 1 = i then x else 0) ^^^ (if m + 1 = k then y else 0)) : x = 0 ∧ y = 0 := by
  have z : ∀ {a j : Nat}, a < 256 → gmul a (pw j) = 0 → a = 0 := fun {a j} ha h => (((gmul_eq_zero ha (pw_lt j)).1 h).resolve_right (pw_ne_zero j))
  by_cases a1 : i < m <;> by_cases b1 : k < m
  · rw [if_pos a1, if_pos b1, if_neg (by omega), if_neg (by omega)] at h1
    rw [if_pos a1, if_pos b1, if_neg (by omega), if_neg (by omega)] at h2
    have e1 : x = y := eq_of_xor (by simpa using h1)
    subst e1
    have e2 : gmul x (pw i) = gmul x (pw k) := eq_of_xor (by simpa using h2)
    by_cases hx0 : x = 0
    · exact ⟨hx0, hx0⟩
    · rw [gmul_comm hx (pw_lt i), gmul_comm hx (pw_lt k)] at e2
      exact absurd (pw_inj (by omega) (by omega) (gmul_cancel (pw_lt i) (pw_lt k) hx hx0 e2)) hik
  · rw [if_pos a1, if_neg b1, if_neg (by omega), Nat.xor_zero] at h1
    rw [if_pos a1, if_neg b1, if_neg (by omega), Nat.xor_zero] at h2
    by_cases c : m = k
    · rw [if_pos c] at h1
      rw [if_neg (by omega)] at h2
      have := z hx (by simpa using h2)
      subst this
      exact ⟨rfl, by simpa using h1.symm⟩
    · rw [if_neg c] at h1
      rw [if_pos (by omega)] at h2
      have hx0 : x = 0 := by simpa using h1
      subst hx0
      rw [gmul_zero_left _ (pw_lt i)] at h2
      exact ⟨rfl, by simpa using h2.symm⟩
  · rw [if_neg a1, if_pos b1] at h1 h2
    rw [if_neg (show ¬ m = k by omega)] at h1
    rw [if_neg (show ¬ m + 1 = k by omega)] at h2
    by_cases c : m = i
    · rw [if_pos c] at h1
      rw [if_neg (by omega)] at h2
      have := z hy (by simpa using h2)
      subst this
      exact ⟨by simpa using h1.symm, rfl⟩
    · rw [if_neg c] at h1
      rw [if_pos (by omega)] at h2
      have hy0 : y = 0 := by simpa using h1
      subst hy0
      rw [gmul_zero_left _ (pw_lt k)] at h2
      exact ⟨by simpa using h2.symm, rfl⟩
  · rw [if_neg a1, if_neg b1] at h1 h2
    by_cases c : m = i
    · rw [if_pos c, if_neg (by omega)] at h1
      rw [if_neg (by omega), if_pos (by omega)] at h2
      exact ⟨by simpa using h1.symm, by simpa using h2.symm⟩
    · rw [if_neg c, if_pos (by omega)] at h1
      rw [if_pos (by omega), if_neg (by omega)] at h2
      exact ⟨by simpa using h2.symm, by simpa using h1.symm⟩
theorem right_iff {L : List (List Nat)} {m : Nat} (hl : L.length = m + 2) (hm : 1 ≤ m) (hm2 : m ≤ 62) : rightB L = true ↔ psum L m = L.getD m [] ∧ qsum L m = L.getD (m + 1) [] := by
  unfold rightB
  rw [if_neg (by omega), if_neg (by omega), hl, show m + 2 - 2 = m from rfl, show m + 2 - 1 = m + 1 from rfl]
  simp
theorem told_sum (hR : Secs R) (hX : Sec X) (hY : Sec Y) {m q : Nat} (hm : m ≤ R.length) (hq : q < 64) :
    (psum (told R X Y i k) m).getD q 0 = ((psum R m).getD q 0 ^^^ (if i < m then X.getD q 0 else 0)) ^^^ (if k < m then Y.getD q 0 else 0) := by
  rw [psum_get (told_secs hR hX hY) hq m (by rw [told_length]; exact hm), psum_get hR hq m hm, ← xS_one, ← xS_one, ← xS_xor, ← xS_xor]
  exact xS_congr m (fun j hj => by rw [told_at (by omega), toldC_get hR hX hY (by omega) hq])
theorem told_qsum (hR : Secs R) (hX : Sec X) (hY : Sec Y) {m q : Nat} (hm : m ≤ R.length) (hq : q < 64) :
    (qsum (told R X Y i k) m).getD q 0 = ((qsum R m).getD q 0 ^^^ (if i < m then gmul (X.getD q 0) (pw i) else 0)) ^^^ (if k < m then gmul (Y.getD q 0) (pw k) else 0) := by
  rw [qsum_get (told_secs hR hX hY) hq m (by rw [told_length]; exact hm), qsum_get hR hq m hm, ← xS_one, ← xS_one, ← xS_xor, ← xS_xor]
  refine xS_congr m (fun j hj => ?_)
  have hr := (hR.at (i := j) (by omega)).get q
  have hx := hX.get q
  have hy := hY.get q
  have t : ∀ {c : Prop} [Decidable c] {v : Nat}, v < 256 → (if c then v else 0) < 256 := fun {c} _ {v} h => by
    split
    · exact h
    · decide
  have u : ∀ {l v : Nat}, gmul (if j = l then v else 0) (pw j) = if j = l then gmul v (pw l) else 0 := fun {l v} => by
    by_cases h : j = l
    · rw [if_pos h, if_pos h, h]
    · rw [if_neg h, if_neg h, gmul_zero_left _ (pw_lt j)]
  rw [told_at (by omega), toldC_get hR hX hY (by omega) hq, gmul_xor_left _ (xor_lt hr (t hx)) (t hy), gmul_xor_left _ hr (t hx), u, u]
theorem told_same (hR : Secs R) (hX : Sec X) (hY : Sec Y) (h : ∀ q, q < 64 → ∀ j, j < R.length → (if j = i then X.getD q 0 else 0) ^^^ (if j = k then Y.getD q 0 else 0) = 0) : told R X Y i k = R := by
  refine list_eq told_length (fun j hj => ?_)
  rw [told_length] at hj
  rw [told_at hj]
  refine sec_ext (toldC_sec hR hX hY hj) (hR.at hj) (fun q hq => ?_)
  rw [toldC_get hR hX hY hj hq, Nat.xor_assoc, h q hq j hj, Nat.xor_zero]
theorem told_law (hR : Secs R) (hX : Sec X) (hY : Sec Y) {m : Nat} (hl : R.length = m + 2) (hm : 1 ≤ m) (hm2 : m ≤ 62) (hr : rightB R = true) (hi : i < m + 2) (hk : k < m + 2) :
    rightB (told R X Y i k) = decide (told R X Y i k = R) := by
  obtain ⟨r1, r2⟩ := (right_iff hl hm hm2).1 hr
  by_cases ht : rightB (told R X Y i k) = true
  · rw [ht]
    symm
    rw [decide_eq_true_eq]
    obtain ⟨s1, s2⟩ := (right_iff (told_length.trans hl) hm hm2).1 ht
    refine told_same hR hX hY (fun q hq j hj => ?_)
    have c1 : (if i < m then X.getD q 0 else 0) ^^^ (if k < m then Y.getD q 0 else 0) = (if m = i then X.getD q 0 else 0) ^^^ (if m = k then Y.getD q 0 else 0) := by
      have h := congrArg (fun l => l.getD q 0) s1
      rw [told_at (by omega), toldC_get hR hX hY (by omega) hq, told_sum hR hX hY (by omega) hq, Nat.xor_assoc, Nat.xor_assoc] at h
      exact cancel h (by rw [r1])
    have c2 : (if i < m then gmul (X.getD q 0) (pw i) else 0) ^^^ (if k < m then gmul (Y.getD q 0) (pw k) else 0) = (if m + 1 = i then X.getD q 0 else 0) ^^^ (if m + 1 = k then Y.getD q 0 else 0) := by
      have h := congrArg (fun l => l.getD q 0) s2
      rw [told_at (by omega), toldC_get hR hX hY (by omega) hq, told_qsum hR hX hY (by omega) hq, Nat.xor_assoc, Nat.xor_assoc] at h
      exact cancel h (by rw [r2])
    have hx := hX.get q
    have hy := hY.get q
    revert c1 c2 hx hy
    generalize X.getD q 0 = x
    generalize Y.getD q 0 = y
    intro c1 c2 hx hy
    by_cases hik : i = k
    · subst hik
      have e : x ^^^ y = 0 := by
        by_cases a1 : i < m
        · rw [if_pos a1, if_pos a1, if_neg (by omega), if_neg (by omega)] at c1
          simpa using c1
        · rw [if_neg a1, if_neg a1] at c1 c2
          by_cases c : m = i
          · rw [if_pos c, if_pos c] at c1
            simpa using c1.symm
          · rw [if_pos (by omega), if_pos (by omega)] at c2
            simpa using c2.symm
      by_cases hj2 : j = i
      · rw [if_pos hj2, if_pos hj2, e]
      · rw [if_neg hj2, if_neg hj2]; rfl
    · obtain ⟨rfl, rfl⟩ := two_cols hm2 hx hy hi hk hik c1 c2
      simp
  · rw [Bool.not_eq_true] at ht
    rw [ht]
    symm
    rw [decide_eq_false_iff_not]
    intro e
    rw [e, hr] at ht
    cases ht
theorem rowOf_length (T : List (List Nat)) : (rowOf T).length = T.length + 2 := by simp [rowOf]
theorem rowOf_secs {T : List (List Nat)} (h : Secs T) : Secs (rowOf T) := fun l hl => by
  rcases List.mem_append.1 hl with h1 | h1
  · exact h l h1
  · simp only [List.mem_cons, List.not_mem_nil, or_false] at h1
    rcases h1 with rfl | rfl
    · exact psum_sec h _ (Nat.le_refl _)
    · exact qsum_sec h _ (Nat.le_refl _)
theorem rowOf_take (T : List (List Nat)) : (rowOf T).take T.length = T := by simp [rowOf]
theorem rowOf_right {T : List (List Nat)} (h1 : 1 ≤ T.length) (h2 : T.length ≤ 62) : rightB (rowOf T) = true := by
  rw [right_iff (rowOf_length T) h1 h2]
  have e1 := psum_take (L := rowOf T) (m := T.length) T.length (Nat.le_refl _)
  have e2 := qsum_take (L := rowOf T) (m := T.length) T.length (Nat.le_refl _)
  rw [rowOf_take] at e1 e2
  rw [← e1, ← e2]
  simp [rowOf, List.getD_eq_getElem?_getD]

/-! ### the bytes of a list of sectors in one row -/
def flat (n : Nat) (h : Nat → Nat) : List Nat := (List.range n).map h
theorem flat_length (n : Nat) (h : Nat → Nat) : (flat n h).length = n := by simp [flat]
theorem flat_get {n p : Nat} (h : Nat → Nat) (hp : p < n) : (flat n h).getD p 0 = h p := by simp [flat, List.getD_eq_getElem?_getD, hp]
theorem flat_set {n p x : Nat} {h h' : Nat → Nat} (_ : p < n) (h1 : h' p = x) (h2 : ∀ q, q ≠ p → h' q = h q) : (flat n h).set p x = flat n h' := by
  apply List.ext_getElem (by simp [flat])
  intro q a1 a2
  rw [List.getElem_set]
  simp only [flat, List.getElem_map, List.getElem_range]
  by_cases hq : q = p
  · rw [if_pos hq.symm, hq, h1]
  · rw [if_neg (fun e => hq e.symm), h2 q hq]
theorem flat_self {n : Nat} {l : List Nat} {h : Nat → Nat} (hl : l.length = n) (hh : ∀ p, p < n → h p = l.getD p 0) : flat n h = l := by
  apply List.ext_getElem (by simp [flat, hl])
  intro q a1 a2
  have := hh q (by omega)
  simp only [flat, List.getElem_map, List.getElem_range]
  rw [this, List.getD_eq_getElem?_getD, List.getElem?_eq_getElem a2, Option.getD_some]
/-- Byte p while the adding goes on: a bytes are added in column i, b in column k. -/
def tf (F X Y : List Nat) (i k a b p : Nat) : Nat := (F.getD p 0 ^^^ (if p / 64 = i ∧ p % 64 < a then X.getD (p % 64) 0 else 0)) ^^^ (if p / 64 = k ∧ p % 64 < b then Y.getD (p % 64) 0 else 0)
theorem tf_start {F : List Nat} {n : Nat} (h : F.length = n) : flat n (tf F X Y i k 0 0) = F := flat_self h (fun p _ => by simp [tf])
theorem tf_one {F : List Nat} {n a b : Nat} (ha : a < 64) (hi : i * 64 + a < n) :
    (flat n (tf F X Y i k a b)).set (i * 64 + a) (tf F X Y i k a b (i * 64 + a) ^^^ X.getD a 0) = flat n (tf F X Y i k (a + 1) b) := by
  have e1 : (i * 64 + a) / 64 = i := by omega
  have e2 : (i * 64 + a) % 64 = a := by omega
  refine flat_set hi ?_ (fun q hq => ?_)
  · unfold tf
    rw [e1, e2, if_pos ⟨rfl, by omega⟩, if_neg (show ¬ (i = i ∧ a < a) by omega), Nat.xor_zero, Nat.xor_assoc, Nat.xor_assoc, Nat.xor_comm (X.getD a 0)]
  · unfold tf
    have : (q / 64 = i ∧ q % 64 < a + 1) ↔ (q / 64 = i ∧ q % 64 < a) := ⟨fun h => by omega, fun h => by omega⟩
    rw [if_iff this]
theorem tf_two {F : List Nat} {n a b : Nat} (hb : b < 64) (hk : k * 64 + b < n) :
    (flat n (tf F X Y i k a b)).set (k * 64 + b) (tf F X Y i k a b (k * 64 + b) ^^^ Y.getD b 0) = flat n (tf F X Y i k a (b + 1)) := by
  have e1 : (k * 64 + b) / 64 = k := by omega
  have e2 : (k * 64 + b) % 64 = b := by omega
  refine flat_set hk ?_ (fun q hq => ?_)
  · unfold tf
    rw [e1, e2, if_pos (show k = k ∧ b < b + 1 from ⟨rfl, by omega⟩), if_neg (show ¬ (k = k ∧ b < b) by omega), Nat.xor_zero]
  · unfold tf
    have : (q / 64 = k ∧ q % 64 < b + 1) ↔ (q / 64 = k ∧ q % 64 < b) := ⟨fun h => by omega, fun h => by omega⟩
    rw [if_iff this]
theorem flatten_getD {L : List (List Nat)} (h : Secs L) {p : Nat} (hp : p < L.length * 64) : L.flatten.getD p 0 = (L.getD (p / 64) []).getD (p % 64) 0 := by
  have := flatten_get (L := L) (fun l hl => (h l hl).len) (i := p / 64) (j := p % 64) (by omega) (by omega)
  rw [show p / 64 * 64 + p % 64 = p by omega] at this
  rw [List.getD_eq_getElem?_getD, this, ← List.getD_eq_getElem?_getD]
theorem tf_end (hR : Secs R) (hX : Sec X) (hY : Sec Y) : flat (R.length * 64) (tf R.flatten X Y i k 64 64) = (told R X Y i k).flatten := by
  have hs := told_secs (i := i) (k := k) hR hX hY
  refine flat_self (by rw [flatten_size (fun l hl => (hs l hl).len), told_length]) (fun p hp => ?_)
  have a1 : p / 64 < R.length := by omega
  have a2 : p % 64 < 64 := by omega
  rw [flatten_getD hs (by rw [told_length]; exact hp), told_at a1, toldC_get hR hX hY a1 a2]
  unfold tf
  rw [flatten_getD hR hp]
  have t : ∀ {j : Nat}, (p / 64 = j ∧ p % 64 < 64) ↔ p / 64 = j := fun {j} => ⟨fun h => h.1, fun h => ⟨h, a2⟩⟩
  rw [if_iff t, if_iff t]
end Go.Proofs.Ytonjgbcibjnpoaa.Pd
