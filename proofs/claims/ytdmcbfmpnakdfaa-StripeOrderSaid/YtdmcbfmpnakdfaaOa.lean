/- Slices as arguments: where they lie. -/
import Derived.Test.YtdmcbfmpnakdfaaEp
import Derived.OpenShut
import Derived.WideShapes
import Derived.ChangeArms
namespace Go.Proofs.Ytdmcbfmpnakdfaa.Oa
open Go Go.ChangeShapes Go.WideShapes Go.RowKit
variable {P : Program} {w : World}
theorem rowAt_off {fits : TypeId → Bool} : ∀ {d : Nat} {e : TypeId} {count off n : Nat}, rowAt P fits d e count off n = true → off ≤ count * P.cellsOf e
  | 0, _, _, _, _, h => by cases h
  | d + 1, e, count, off, n, h => by
    unfold rowAt at h
    by_cases hs : P.cellsOf e = 0
    · simp [hs] at h
    · simp only [hs, if_false, Bool.or_eq_true, Bool.and_eq_true, beq_iff_eq, decide_eq_true_eq] at h
      have hd := Nat.div_add_mod off (P.cellsOf e)
      have hm := Nat.mod_lt off (Nat.pos_of_ne_zero hs)
      rcases h with ⟨⟨h1, h2⟩, _⟩ | ⟨h1, _⟩
      · have : off / P.cellsOf e * P.cellsOf e ≤ count * P.cellsOf e := Nat.mul_le_mul_right _ (by omega)
        rw [Nat.mul_comm] at hd
        omega
      · have : (off / P.cellsOf e + 1) * P.cellsOf e ≤ count * P.cellsOf e := Nat.mul_le_mul_right _ h1
        rw [Nat.add_mul, Nat.one_mul] at this
        rw [Nat.mul_comm] at hd
        omega
theorem liesAt_off : ∀ {d : Nat} {e u : TypeId} {count off n : Nat}, liesAt P d e count off u n = true → off ≤ count * P.cellsOf e
  | 0, _, _, _, _, _, h => by cases h
  | d + 1, e, u, count, off, n, h => by
    unfold liesAt at h
    rw [Bool.or_eq_true] at h
    rcases h with h | h
    · exact rowAt_off h
    · split at h
      · exact liesAt_off h
      · cases h
/-- A slice that is not nil: its block is there, and it begins within it. -/
theorem slice_lies {t e : TypeId} {r : Reach} {b0 : Nat} {v : Value} (ht : P.underlying t = some (.slice e)) (hv : Value.okWide P w r b0 t v) :
    v = .slice none 0 0 ∨ ∃ b off len cap c t' fr, v = .slice (some ⟨b, off, none⟩) len cap ∧ len ≤ cap ∧ w.heap[b]? = some (.cells c t' fr) ∧ off ≤ c.size := by
  obtain ⟨a, len, cap, rfl⟩ := okWide_slice ht hv
  simp only [Value.okWide, ht, Cell.okWide, Cell.ok] at hv
  cases a with
  | none =>
    left
    cases len <;> cases cap <;> simp_all
  | some a =>
    right
    obtain ⟨h1, _, _, h2, row, cells, h3, h4⟩ := hv
    obtain ⟨b, off, spot⟩ := a
    obtain rfl : spot = none := h2
    unfold World.shape? at h3
    split at h3
    · rename_i c elem fr hb
      injection h3 with h3
      injection h3 with h5 h6
      subst h5; subst h6
      exact ⟨b, off, len, cap, c, _, fr, rfl, h1, hb, Nat.le_trans (liesAt_off h4) (Nat.div_mul_le_self _ _)⟩
    · cases h3
end Go.Proofs.Ytdmcbfmpnakdfaa.Oa
namespace Go.Proofs.Ytdmcbfmpnakdfaa.Oa
open Go Go.ChangeShapes Go.WideShapes Go.RowKit
variable {H : Type} {enc : TypeId × Value → H} {P : Program} {w : World} {base : Nat} {spare : Nat → Bool} {held : Bool}
theorem cells_take {c : Array Value} {off : Nat} : ∀ {m : Nat} {cs : List Value}, cs.length = m → (∀ i, i < m → c[off + i]? = cs[i]?) → (c.toList.drop off).take m = cs := by
  intro m cs hl h
  apply List.ext_getElem?
  intro i
  by_cases hi : i < m
  · rw [List.getElem?_take_of_lt hi, List.getElem?_drop, Array.getElem?_toList, h i hi]
  · rw [List.getElem?_eq_none (by rw [List.length_take]; omega), List.getElem?_eq_none (by omega)]
/-- A slice of elements, each as D says of some a. -/
theorem open_rows {α : Type} (D : α → List Value) (W : α → Prop) {t e : TypeId} {sz : Nat} {r : Reach} {b0 : Nat} {v : Value} {d : DataW H} {p : List MemPlace} (ht : P.underlying t = some (.slice e)) (hc : P.cellsOf e = sz)
    (hD : ∀ (n : Nat) (cs : List Value) (x : DataW H × List MemPlace), DataW.trod enc P w base spare held n e cs = some x → ∃ a, cs = D a ∧ W a)
    (hv : Value.okWide P w r b0 t v) (h : DataW.Trod enc P w base spare held t v d p) :
    v = .slice none 0 0 ∨ ∃ (b off cap : Nat) (l : List α) (c : Array Value) (t' : TypeId) (fr : Nat × Nat) (pre post : List Value), v = .slice (some ⟨b, off, none⟩) l.length cap ∧ l.length ≤ cap ∧ (cap : Int) ≤ maxLen ∧ w.heap[b]? = some (.cells c t' fr) ∧ c.toList = pre ++ (l.flatMap D ++ post) ∧ pre.length = off ∧ ∀ a ∈ l, W a := by
  rcases slice_lies ht hv with rfl | ⟨b, off, len, cap, c, t', fr, rfl, hlc, hb, ho⟩
  · exact .inl rfl
  right
  obtain ⟨fuel, hf⟩ := h
  have hcs : (Value.slice (some ⟨b, off, none⟩) len cap).cells.toList = [.slice (some ⟨b, off, none⟩) len cap] := rfl
  rw [hcs] at hf
  rcases DataW.trod_slice ht hf with ⟨he, _⟩ | ⟨ad, len', cap', elems, rest, n, _, he, _, _, _, hcm, hel, hget, _⟩
  · injection he with he; cases he
  injection he with he
  injection he with h1 h2 h3
  injection h1 with h1
  subst h1; subst h2; subst h3
  have one : ∀ i, i < len → ∃ a, W a ∧ (D a).length = sz ∧ ∀ j, j < sz → c[off + i * sz + j]? = (D a)[j]? := by
    intro i hi
    have hg := hget i hi
    rw [hc, List.getElem?_eq_getElem (by omega)] at hg
    obtain ⟨cs, g1, g2⟩ := Option.bind_eq_some_iff.1 hg
    obtain ⟨a, rfl, ha⟩ := hD _ _ _ g2
    obtain ⟨_, g3, g4⟩ := World.cells?_some g1
    refine ⟨a, ha, g3, fun j hj => ?_⟩
    rw [← g4 j hj]
    have ea : ((⟨b, off, none⟩ : Addr).add (i * sz)).add j = ⟨b, off + i * sz + j, none⟩ := by
      unfold Addr.add
      by_cases h1 : i * sz = 0
      · by_cases h2 : j = 0
        · simp [h1, h2]
        · simp [h1, h2]
      · by_cases h2 : j = 0
        · simp [h1, h2]
        · simp [h1, h2]
    rw [ea]
    unfold World.cell?
    simp only [hb]
    rfl
  have all : ∀ k, k ≤ len → ∃ l : List α, l.length = k ∧ (∀ a ∈ l, W a) ∧ (l.flatMap D).length = k * sz ∧ ∀ j, j < k * sz → c[off + j]? = (l.flatMap D)[j]? := by
    intro k
    induction k with
    | zero => exact fun _ => ⟨[], rfl, by simp, by simp, by simp⟩
    | succ k ih =>
      intro hk
      obtain ⟨l, l1, l2, l3, l4⟩ := ih (by omega)
      obtain ⟨a, a1, a2, a3⟩ := one k (by omega)
      refine ⟨l ++ [a], by simp [l1], ?_, by simp [l3, a2, Nat.add_mul], fun j hj => ?_⟩
      · intro x hx
        rcases List.mem_append.1 hx with hx | hx
        · exact l2 x hx
        · rw [List.mem_singleton.1 hx]; exact a1
      · rw [List.flatMap_append]
        by_cases hjk : j < k * sz
        · rw [List.getElem?_append_left (by omega), ← l4 j hjk]
        · rw [List.getElem?_append_right (by omega), l3]
          rw [Nat.add_mul, Nat.one_mul] at hj
          have := a3 (j - k * sz) (by omega)
          rw [show off + k * sz + (j - k * sz) = off + j by omega] at this
          rw [this]; simp
  obtain ⟨l, l1, l2, l3, l4⟩ := all len (Nat.le_refl _)
  refine ⟨b, off, cap, l, c, t', fr, c.toList.take off, (c.toList.drop off).drop (len * sz), by rw [l1], by omega, by exact_mod_cast hcm, hb, ?_, by simp; omega, l2⟩
  have := cells_take (off := off) (c := c) l3 l4
  rw [← this, List.take_append_drop, List.take_append_drop]
end Go.Proofs.Ytdmcbfmpnakdfaa.Oa
