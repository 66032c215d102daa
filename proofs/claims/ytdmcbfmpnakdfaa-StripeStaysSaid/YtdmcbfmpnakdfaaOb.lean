/- Slices of what is read off cell by cell. -/
import Derived.Test.YtdmcbfmpnakdfaaOa
namespace Go.Proofs.Ytdmcbfmpnakdfaa.Oa
open Go Go.ChangeShapes Go.WideShapes Go.RowKit
variable {H : Type} {enc : TypeId × Value → H} {P : Program} {w : World} {base : Nat} {spare : Nat → Bool} {held : Bool}
theorem cells_take {c : Array Value} {off : Nat} : ∀ {m : Nat} {cs : List Value}, cs.length = m → (∀ i, i < m → c[off + i]? = cs[i]?) → (c.toList.drop off).take m = cs := by
  intro m cs hl h
  apply List.ext_getElem?
  intro i
  by_cases hi : i < m
  · rw [List.getElem?_take_of_lt hi, List.getElem?_drop, Array.getElem?_toList, h i hi]
  · rw [List.getElem?_eq_none (by rw [List.length_take]; omega), List.getElem?_eq_none (by omega)]
/-- A slice of elements, each as D says of some a. -/
theorem open_rows {α : Type} (D : α → List Value) (W : α → Prop) {t e : TypeId} {sz : Nat} {r : Reach} {b0 : Nat} {v : Value} {d : DataW H} {p : List MemPlace} (ht : P.underlying t = some (.slice e)) (hc : P.cellsOf e = sz)
    (hD : ∀ (n : Nat) (cs : List Value) (x : DataW H × List MemPlace), DataW.trod enc P w base spare held n e cs = some x → ∃ a, cs = D a ∧ W a)
    (hv : Value.okWide P w r b0 t v) (h : DataW.Trod enc P w base spare held t v d p) :
    v = .slice none 0 0 ∨ ∃ (b off cap : Nat) (l : List α) (c : Array Value) (t' : TypeId) (fr : Nat × Nat) (pre post : List Value), v = .slice (some ⟨b, off, none⟩) l.length cap ∧ l.length ≤ cap ∧ (cap : Int) ≤ maxLen ∧ w.heap[b]? = some (.cells c t' fr) ∧ c.toList = pre ++ (l.flatMap D ++ post) ∧ pre.length = off ∧ ∀ a ∈ l, W a := by
  rcases slice_lies ht hv with rfl | ⟨b, off, len, cap, c, t', fr, rfl, hlc, hb, ho⟩
  · exact .inl rfl
  right
  obtain ⟨fuel, hf⟩ := h
  have hcs : (Value.slice (some ⟨b, off, none⟩) len cap).cells.toList = [.slice (some ⟨b, off, none⟩) len cap] := rfl
  rw [hcs] at hf
  rcases DataW.trod_slice ht hf with ⟨he, _⟩ | ⟨ad, len', cap', elems, rest, n, _, he, _, _, _, hcm, hel, hget, _⟩
  · injection he with he; cases he
  injection he with he
  injection he with h1 h2 h3
  injection h1 with h1
  subst h1; subst h2; subst h3
  have one : ∀ i, i < len → ∃ a, W a ∧ (D a).length = sz ∧ ∀ j, j < sz → c[off + i * sz + j]? = (D a)[j]? := by
    intro i hi
    have hg := hget i hi
    rw [hc, List.getElem?_eq_getElem (by omega)] at hg
    obtain ⟨cs, g1, g2⟩ := Option.bind_eq_some_iff.1 hg
    obtain ⟨a, rfl, ha⟩ := hD _ _ _ g2
    obtain ⟨_, g3, g4⟩ := World.cells?_some g1
    refine ⟨a, ha, g3, fun j hj => ?_⟩
    rw [← g4 j hj]
    have ea : ((⟨b, off, none⟩ : Addr).add (i * sz)).add j = ⟨b, off + i * sz + j, none⟩ := by
      unfold Addr.add
      by_cases h1 : i * sz = 0
      · by_cases h2 : j = 0
        · simp [h1, h2]
        · simp [h1, h2]
      · by_cases h2 : j = 0
        · simp [h1, h2]
        · simp [h1, h2]
    rw [ea]
    unfold World.cell?
    simp only [hb]
    rfl
  have all : ∀ k, k ≤ len → ∃ l : List α, l.length = k ∧ (∀ a ∈ l, W a) ∧ (l.flatMap D).length = k * sz ∧ ∀ j, j < k * sz → c[off + j]? = (l.flatMap D)[j]? := by
    intro k
    induction k with
    | zero => exact fun _ => ⟨[], rfl, by simp, by simp, by simp⟩
    | succ k ih =>
      intro hk
      obtain ⟨l, l1, l2, l3, l4⟩ := ih (by omega)
      obtain ⟨a, a1, a2, a3⟩ := one k (by omega)
      refine ⟨l ++ [a], by simp [l1], ?_, by simp [l3, a2, Nat.add_mul], fun j hj => ?_⟩
      · intro x hx
        rcases List.mem_append.1 hx with hx | hx
        · exact l2 x hx
        · rw [List.mem_singleton.1 hx]; exact a1
      · rw [List.flatMap_append]
        by_cases hjk : j < k * sz
        · rw [List.getElem?_append_left (by omega), ← l4 j hjk]
        · rw [List.getElem?_append_right (by omega), l3]
          rw [Nat.add_mul, Nat.one_mul] at hj
          have := a3 (j - k * sz) (by omega)
          rw [show off + k * sz + (j - k * sz) = off + j by omega] at this
          rw [this]; simp
  obtain ⟨l, l1, l2, l3, l4⟩ := all len (Nat.le_refl _)
  refine ⟨b, off, cap, l, c, t', fr, c.toList.take off, (c.toList.drop off).drop (len * sz), by rw [l1], by omega, by exact_mod_cast hcm, hb, ?_, by simp; omega, l2⟩
  have := cells_take (off := off) (c := c) l3 l4
  rw [← this, List.take_append_drop, List.take_append_drop]
end Go.Proofs.Ytdmcbfmpnakdfaa.Oa
