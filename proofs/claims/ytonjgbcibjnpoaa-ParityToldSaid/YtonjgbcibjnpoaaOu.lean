/- Pairs of numbers, and pairs of sectors, as arguments. -/
import Derived.Test.YtonjgbcibjnpoaaOq
namespace Go.Proofs.Ytonjgbcibjnpoaa.Oq
open Go.ChangeShapes Go.WideShapes Go.RowKit Go.Proofs.Ytonjgbcibjnpoaa.Op Go.Proofs.Ytonjgbcibjnpoaa.Sc Go.Proofs.Ytonjgbcibjnpoaa.Pb Go.Proofs.Ytonjgbcibjnpoaa.Ss
variable {H : Type} {enc : TypeId × Value → H} {w : World} {base : Nat} {spare : Nat → Bool} {held : Bool}
theorem open_two_ints {r : Reach} {b0 : Nat} {v : Value} {d : DataW H} {p : List MemPlace} (hv : Value.okWide Try.prog w r b0 41 v) (h : DataW.Trod enc Try.prog w base spare held 41 v d p) : ∃ x y, v = .agg #[.int .i64 x, .int .i64 y] ∧ (Lit.int .i64 x).wf = true ∧ (Lit.int .i64 y).wf = true := by
  obtain ⟨l, rfl, h1, h2⟩ := open_row (n := 2) Try.underlying41 Try.underlying3 (by kernel_rfl) (by kernel_rfl) hv h
  match l, h1 with
  | [x, y], _ => exact ⟨x, y, rfl, h2 x (by simp), h2 y (by simp)⟩
theorem open_two_secs {r : Reach} {b0 : Nat} {v : Value} {d : DataW H} {p : List MemPlace} (hv : Value.okWide Try.prog w r b0 42 v) (h : DataW.Trod enc Try.prog w base spare held 42 v d p) : ∃ a b, v = .agg (bys (a ++ b)) ∧ Sec a ∧ Sec b := by
  have hv' : ∃ cs : Array Value, v = .agg cs := by
    simp only [Value.okWide, Try.underlying42] at hv
    obtain ⟨cs, h1, _⟩ := hv
    exact ⟨cs, h1⟩
  obtain ⟨cs, rfl⟩ := hv'
  obtain ⟨fuel, hf⟩ := h
  obtain ⟨xs, n, _, _, hlen, hxl, hget⟩ := DataW.trod_array Try.underlying42 hf
  have hc : Try.prog.cellsOf 42 = 128 := by kernel_rfl
  have hc23 : Try.prog.cellsOf 23 = 64 := by kernel_rfl
  have g0 := hget 0 (by decide)
  have g1 := hget 1 (by decide)
  rw [List.getElem?_eq_getElem (by omega)] at g0 g1
  obtain ⟨a, ha, ea⟩ := sec_cells g0
  obtain ⟨b, hb, eb⟩ := sec_cells g1
  refine ⟨a, b, ?_, ha, hb⟩
  congr 1
  apply Array.ext'
  have hl : cs.toList.length = 128 := by rw [← hc]; exact hlen
  rw [hc23] at ea eb
  have e3 : cs.toList = cs.toList.take 64 ++ cs.toList.drop 64 := (List.take_append_drop 64 _).symm
  have ea' : cs.toList.take 64 = (bys a).toList := ea
  have eb' : (cs.toList.drop 64).take 64 = (bys b).toList := eb
  rw [List.take_of_length_le (by rw [List.length_drop]; omega)] at eb'
  rw [e3, ea', eb', bys_append, Array.toList_append]
end Go.Proofs.Ytonjgbcibjnpoaa.Oq
