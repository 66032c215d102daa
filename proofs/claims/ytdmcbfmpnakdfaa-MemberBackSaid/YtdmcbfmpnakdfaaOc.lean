/- Acts as arguments. -/
import Derived.Test.YtdmcbfmpnakdfaaOb
import Derived.Test.YtdmcbfmpnakdfaaOp
import Derived.Test.YtdmcbfmpnakdfaaMj
namespace Go.Proofs.Ytdmcbfmpnakdfaa.Oa
open Go Go.ChangeShapes Go.WideShapes Go.RowKit Go.Proofs Go.Proofs.Ytdmcbfmpnakdfaa.Eng Go.Proofs.Ytdmcbfmpnakdfaa.Op
variable {H : Type} {enc : TypeId × Value → H} {w : World} {base : Nat} {spare : Nat → Bool} {held : Bool}
def D (a : ActV) : List Value := Segs.den (fun _ => ⟨0, 0, 0⟩) (actSegs a)
theorem sec_cells {n : Nat} {cs : List Value} {x : DataW H × List MemPlace} (h : DataW.trod enc Try.prog w base spare held n 34 cs = some x) : ∃ s : List Nat, cs = bysN 64 s := by
  obtain ⟨l, hl, rfl, hw⟩ := row_ints (n := 64) Try.underlying34 Try.underlying5 (by kernel_rfl) (by kernel_rfl) h
  refine ⟨l.map Int.toNat, ?_⟩
  apply List.ext_getElem?
  intro i
  unfold bysN
  by_cases hi : i < 64
  · have h0 : 0 ≤ l[i]'(by omega) := by
      have h' := hw (l[i]'(by omega)) (List.getElem_mem _)
      simp [Lit.wf, IntKind.min, IntKind.max, IntKind.bits, IntKind.signed] at h'
      omega
    have hi' : i < l.length := by omega
    simp only [List.getElem?_map, List.getElem?_eq_getElem hi', Option.map_some, List.getElem?_range hi, List.getD_eq_getElem?_getD, Option.getD_some]
    congr 2
    omega
  · rw [List.getElem?_eq_none (by simp; omega), List.getElem?_eq_none (by simp; omega)]
set_option maxRecDepth 20000 in
theorem act_cells {n : Nat} {cs : List Value} {x : DataW H × List MemPlace} (h : DataW.trod enc Try.prog w base spare held n 57 cs = some x) : ∃ a, cs = D a ∧ cell1 a.p = true := by
  obtain ⟨xs, m, _, _, hl, hxl, hget⟩ := DataW.trod_struct Try.underlying57 h
  have hc : Try.prog.cellsOf 57 = 68 := by kernel_rfl
  have hc3 : Try.prog.cellsOf 3 = 1 := by kernel_rfl
  have hc34 : Try.prog.cellsOf 34 = 64 := by kernel_rfl
  have hc44 : Try.prog.cellsOf 44 = 1 := by kernel_rfl
  have hc4 : Try.prog.cellsOf 4 = 1 := by kernel_rfl
  have hx5 : xs.length = 5 := hxl
  have g0 := hget 0 _ rfl
  have g1 := hget 1 _ rfl
  have g2 := hget 2 _ rfl
  have g3 := hget 3 _ rfl
  have g4 := hget 4 _ rfl
  rw [List.getElem?_eq_getElem (by omega)] at g0 g1 g2 g3 g4
  obtain ⟨d, e0, _⟩ := DataW.trod_int Try.underlying3 g0
  obtain ⟨i, e1, _⟩ := DataW.trod_int Try.underlying3 g1
  obtain ⟨s, e2⟩ := sec_cells g2
  obtain ⟨on, e4, _⟩ := DataW.trod_bool Try.underlying4 g4
  have e3 : ∃ v, (cs.drop 66).take (Try.prog.cellsOf 44) = [v] ∧ cell1 v = true := by
    rcases DataW.trod_slice Try.underlying44 g3 with ⟨he, _⟩ | ⟨ad, len, cap, _, _, _, _, he, _⟩
    · exact ⟨_, he, rfl⟩
    · exact ⟨_, he, rfl⟩
  obtain ⟨v, e3, hv⟩ := e3
  rw [hc44] at e3
  refine ⟨⟨d, i, s, v, on⟩, ?_, hv⟩
  have h0 : (cs.drop 0).take (Try.prog.cellsOf 3) = [.int .i64 d] := e0
  have h1 : (cs.drop 1).take (Try.prog.cellsOf 3) = [.int .i64 i] := e1
  have h2 : (cs.drop 2).take (Try.prog.cellsOf 34) = bysN 64 s := e2
  have h4 : (cs.drop 67).take (Try.prog.cellsOf 4) = [.bool on] := e4
  rw [hc3] at h0 h1
  rw [hc34] at h2
  rw [hc4] at h4
  have hl : cs.length = 68 := hl.trans hc
  have : cs = (cs.drop 0).take 1 ++ ((cs.drop 1).take 1 ++ ((cs.drop 2).take 64 ++ ((cs.drop 66).take 1 ++ (cs.drop 67).take 1))) := by
    have st : ∀ a b c : Nat, a + b = c → cs.drop a = (cs.drop a).take b ++ cs.drop c := fun a b c e => by
      rw [← e, ← List.drop_drop, List.take_append_drop]
    have lst : (cs.drop 67).take 1 = cs.drop 67 := List.take_of_length_le (by rw [List.length_drop]; omega)
    rw [lst, ← st 66 1 67 rfl, ← st 2 64 66 rfl, ← st 1 1 2 rfl, ← st 0 1 1 rfl]; rfl
  rw [this, h0, h1, h2, e3, h4]
  rfl
end Go.Proofs.Ytdmcbfmpnakdfaa.Oa
