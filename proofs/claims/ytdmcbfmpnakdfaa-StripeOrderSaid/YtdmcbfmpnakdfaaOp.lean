/- Arrays of whole numbers, and of such arrays, opened: what an argument that reads as data holds. -/
import Derived.OpenShut
import Derived.WideShapes
import Derived.ChangeArms
namespace Go.Proofs.Ytdmcbfmpnakdfaa.Op
open Go.ChangeShapes Go.WideShapes Go.RowKit
variable {H : Type} {enc : TypeId × Value → H} {P : Program} {w : World} {base : Nat} {spare : Nat → Bool} {held : Bool} {fuel : Nat} {t e : TypeId} {cs : List Value} {x : DataW H × List MemPlace}

/-- The number in a cell. -/
def numOf : Value → Int
  | .int _ z => z
  | _ => 0

theorem row_ints {n : Nat} {k : IntKind} (ht : P.underlying t = some (.array n e)) (he : P.underlying e = some (.int k)) (hce : P.cellsOf e = 1) (hct : P.cellsOf t = n)
    (h : DataW.trod enc P w base spare held fuel t cs = some x) : ∃ l : List Int, l.length = n ∧ cs = l.map (Value.int k) ∧ (∀ z ∈ l, (Lit.int k z).wf = true) := by
  obtain ⟨xs, m, _, _, hl, hxs, hget⟩ := DataW.trod_array ht h
  have hlen : cs.length = n := by rw [hl, hct]
  have one : ∀ i, i < n → ∃ z, cs[i]? = some (.int k z) ∧ (Lit.int k z).wf = true := by
    intro i hi
    have hg := hget i hi
    rw [hce, Nat.mul_one] at hg
    have hx : xs[i]? = some xs[i] := List.getElem?_eq_getElem (by omega)
    rw [hx] at hg
    obtain ⟨z, hz, _, hwf⟩ := DataW.trod_int he hg
    refine ⟨z, ?_, hwf⟩
    have : (List.take 1 (List.drop i cs))[0]? = some (.int k z) := by rw [hz]; rfl
    rw [List.getElem?_take_of_lt (by decide), List.getElem?_drop, Nat.add_zero] at this
    exact this
  refine ⟨cs.map numOf, by simp [hlen], ?_, ?_⟩
  · apply List.ext_getElem?
    intro i
    by_cases hi : i < n
    · obtain ⟨z, hz, _⟩ := one i hi
      simp [hz, numOf]
    · rw [List.getElem?_eq_none (by omega), List.getElem?_eq_none (by simp; omega)]
  · intro z hz
    rw [List.mem_map] at hz
    obtain ⟨v, hv, rfl⟩ := hz
    obtain ⟨i, hi, rfl⟩ := List.getElem_of_mem hv
    obtain ⟨z, hz, hwf⟩ := one i (by omega)
    rw [List.getElem?_eq_getElem hi, Option.some.injEq] at hz
    rw [hz]
    exact hwf

/-- An array of whole numbers, by value. -/
theorem open_row {n : Nat} {k : IntKind} {r : Reach} {b0 : Nat} {v : Value} {d : DataW H} {p : List MemPlace} (ht : P.underlying t = some (.array n e)) (he : P.underlying e = some (.int k)) (hct : P.cellsOf t = n) (hce : P.cellsOf e = 1)
    (hv : Value.okWide P w r b0 t v) (h : DataW.Trod enc P w base spare held t v d p) :
    ∃ l : List Int, v = .agg (l.map (Value.int k)).toArray ∧ l.length = n ∧ (∀ z ∈ l, (Lit.int k z).wf = true) := by
  have hv' : ∃ cs : Array Value, v = .agg cs ∧ cs.size = P.cellsOf t := by
    simp only [Value.okWide, ht] at hv
    obtain ⟨cs, h1, h2, _⟩ := hv
    exact ⟨cs, h1, h2⟩
  obtain ⟨cs, rfl, hsz⟩ := hv'
  obtain ⟨fuel, hf⟩ := h
  obtain ⟨l, h1, h2, h3⟩ := row_ints ht he hce hct hf
  refine ⟨l, ?_, h1, h3⟩
  rw [← h2]
  simp [Value.cells]

end Go.Proofs.Ytdmcbfmpnakdfaa.Op
