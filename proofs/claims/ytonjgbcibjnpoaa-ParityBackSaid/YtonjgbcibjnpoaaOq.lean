/- Sectors, and rows of three, as arguments. -/
import Derived.Test.YtonjgbcibjnpoaaOp
import Derived.Test.YtonjgbcibjnpoaaSr
namespace Go.Proofs.Ytonjgbcibjnpoaa.Oq
open Go.ChangeShapes Go.WideShapes Go.RowKit Go.Proofs.Ytonjgbcibjnpoaa.Op Go.Proofs.Ytonjgbcibjnpoaa.Sc Go.Proofs.Ytonjgbcibjnpoaa.Pb Go.Proofs.Ytonjgbcibjnpoaa.Ss Go.Proofs.Ytonjgbcibjnpoaa.Sr
variable {H : Type} {enc : TypeId × Value → H} {w : World} {base : Nat} {spare : Nat → Bool} {held : Bool} {fuel : Nat} {cs : List Value} {x : DataW H × List MemPlace}

theorem ints_bys : ∀ {l : List Int}, (∀ z ∈ l, (Lit.int .u8 z).wf = true) → ∃ m : List Nat, m.length = l.length ∧ (∀ y ∈ m, y < 256) ∧ l.map (Value.int .u8) = (bys m).toList
  | [], _ => ⟨[], rfl, (fun y hy => by simp at hy), rfl⟩
  | z :: l, h => by
    obtain ⟨m, h1, h2, h3⟩ := ints_bys (l := l) (fun y hy => h y (List.mem_cons_of_mem _ hy))
    obtain ⟨n, hn, rfl⟩ := byte_nat (h z List.mem_cons_self)
    refine ⟨n :: m, by simp [h1], fun y hy => ?_, ?_⟩
    · rcases List.mem_cons.1 hy with rfl | hy
      · exact hn
      · exact h2 y hy
    · rw [bys_toList] at h3 ⊢
      simp only [List.map_cons, h3]
theorem sec_cells (h : DataW.trod enc Try.prog w base spare held fuel 23 cs = some x) : ∃ m, Sec m ∧ cs = (bys m).toList := by
  obtain ⟨l, hl, rfl, hw⟩ := row_ints (n := 64) T23.hu T23.he cells5 (by kernel_rfl) h
  obtain ⟨m, h1, h2, h3⟩ := ints_bys hw
  exact ⟨m, ⟨by omega, h2⟩, h3⟩
theorem open_sec {r : Reach} {b0 : Nat} {v : Value} {d : DataW H} {p : List MemPlace} (hv : Value.okWide Try.prog w r b0 23 v) (h : DataW.Trod enc Try.prog w base spare held 23 v d p) : ∃ m, v = .agg (bys m) ∧ Sec m := by
  have hv' : ∃ cs : Array Value, v = .agg cs := by
    simp only [Value.okWide, T23.hu] at hv
    obtain ⟨cs, h1, _⟩ := hv
    exact ⟨cs, h1⟩
  obtain ⟨cs, rfl⟩ := hv'
  obtain ⟨fuel, hf⟩ := h
  obtain ⟨m, h1, h2⟩ := sec_cells hf
  refine ⟨m, ?_, h1⟩
  congr 1
  exact Array.ext' h2
theorem open_row25 {r : Reach} {b0 : Nat} {v : Value} {d : DataW H} {p : List MemPlace} (hv : Value.okWide Try.prog w r b0 25 v) (h : DataW.Trod enc Try.prog w base spare held 25 v d p) : ∃ a b c, v = .agg (bys (rowL a b c)) ∧ Sec a ∧ Sec b ∧ Sec c := by
  have hv' : ∃ cs : Array Value, v = .agg cs := by
    simp only [Value.okWide, Try.underlying25] at hv
    obtain ⟨cs, h1, _⟩ := hv
    exact ⟨cs, h1⟩
  obtain ⟨cs, rfl⟩ := hv'
  obtain ⟨fuel, hf⟩ := h
  obtain ⟨xs, n, _, _, hlen, hxl, hget⟩ := DataW.trod_struct Try.underlying25 hf
  have hc : Try.prog.cellsOf 25 = 192 := by kernel_rfl
  have hc23 : Try.prog.cellsOf 23 = 64 := by kernel_rfl
  have g0 := hget 0 _ rfl
  have g1 := hget 1 _ rfl
  have g2 := hget 2 _ rfl
  have hx3 : xs.length = 3 := hxl
  rw [List.getElem?_eq_getElem (by omega)] at g0 g1 g2
  obtain ⟨a, ha, ea⟩ := sec_cells g0
  obtain ⟨b, hb, eb⟩ := sec_cells g1
  obtain ⟨c, hcs, ec⟩ := sec_cells g2
  refine ⟨a, b, c, ?_, ha, hb, hcs⟩
  congr 1
  apply Array.ext'
  have hl : cs.toList.length = 192 := by rw [← hc]; exact hlen
  have ea' : (cs.toList.drop 0).take (Try.prog.cellsOf 23) = (bys a).toList := ea
  have eb' : (cs.toList.drop 64).take (Try.prog.cellsOf 23) = (bys b).toList := eb
  have ec' : (cs.toList.drop 128).take (Try.prog.cellsOf 23) = (bys c).toList := ec
  rw [hc23] at ea' eb' ec'
  unfold rowL
  rw [bys_append, bys_append, Array.toList_append, Array.toList_append, ← ea', ← eb', ← ec']
  generalize cs.toList = L at hl
  have e3 : (L.drop 128).take 64 = L.drop 128 := List.take_of_length_le (by rw [List.length_drop]; omega)
  have e2 : (L.drop 64).take 64 ++ L.drop 128 = L.drop 64 := by
    have h := List.take_append_drop 64 (L.drop 64)
    rwa [List.drop_drop] at h
  rw [e3, List.drop_zero, List.append_assoc, e2, List.take_append_drop]
end Go.Proofs.Ytonjgbcibjnpoaa.Oq
