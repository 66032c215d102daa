/- Slices as arguments: where they lie. -/
import Derived.Test.YtdmcbfmpnakdfaaEp
import Derived.OpenShut
import Derived.WideShapes
import Derived.ChangeArms
namespace Go.Proofs.Ytdmcbfmpnakdfaa.Oa
open Go Go.ChangeShapes Go.WideShapes Go.RowKit
variable {P : Program} {w : World}
theorem rowAt_off {fits : TypeId → Bool} : ∀ {d : Nat} {e : TypeId} {count off n : Nat}, rowAt P fits d e count off n = true → off ≤ count * P.cellsOf e
  | 0, _, _, _, _, h => by cases h
  | d + 1, e, count, off, n, h => by
    unfold rowAt at h
    by_cases hs : P.cellsOf e = 0
    · simp [hs] at h
    · simp only [hs, if_false, Bool.or_eq_true, Bool.and_eq_true, beq_iff_eq, decide_eq_true_eq] at h
      have hd := Nat.div_add_mod off (P.cellsOf e)
      have hm := Nat.mod_lt off (Nat.pos_of_ne_zero hs)
      rcases h with ⟨⟨h1, h2⟩, _⟩ | ⟨h1, _⟩
      · have : off / P.cellsOf e * P.cellsOf e ≤ count * P.cellsOf e := Nat.mul_le_mul_right _ (by omega)
        rw [Nat.mul_comm] at hd
        omega
      · have : (off / P.cellsOf e + 1) * P.cellsOf e ≤ count * P.cellsOf e := Nat.mul_le_mul_right _ h1
        rw [Nat.add_mul, Nat.one_mul] at this
        rw [Nat.mul_comm] at hd
        omega
theorem liesAt_off : ∀ {d : Nat} {e u : TypeId} {count off n : Nat}, liesAt P d e count off u n = true → off ≤ count * P.cellsOf e
  | 0, _, _, _, _, _, h => by cases h
  | d + 1, e, u, count, off, n, h => by
    unfold liesAt at h
    rw [Bool.or_eq_true] at h
    rcases h with h | h
    · exact rowAt_off h
    · split at h
      · exact liesAt_off h
      · cases h
/-- A slice that is not nil: its block is there, and it begins within it. -/
theorem slice_lies {t e : TypeId} {r : Reach} {b0 : Nat} {v : Value} (ht : P.underlying t = some (.slice e)) (hv : Value.okWide P w r b0 t v) :
    v = .slice none 0 0 ∨ ∃ b off len cap c t' fr, v = .slice (some ⟨b, off, none⟩) len cap ∧ len ≤ cap ∧ w.heap[b]? = some (.cells c t' fr) ∧ off ≤ c.size := by
  obtain ⟨a, len, cap, rfl⟩ := okWide_slice ht hv
  simp only [Value.okWide, ht, Cell.okWide, Cell.ok] at hv
  cases a with
  | none =>
    left
    cases len <;> cases cap <;> simp_all
  | some a =>
    right
    obtain ⟨h1, _, _, h2, row, cells, h3, h4⟩ := hv
    obtain ⟨b, off, spot⟩ := a
    obtain rfl : spot = none := h2
    unfold World.shape? at h3
    split at h3
    · rename_i c elem fr hb
      injection h3 with h3
      injection h3 with h5 h6
      subst h5; subst h6
      exact ⟨b, off, len, cap, c, _, fr, rfl, h1, hb, Nat.le_trans (liesAt_off h4) (Nat.div_mul_le_self _ _)⟩
    · cases h3
end Go.Proofs.Ytdmcbfmpnakdfaa.Oa
