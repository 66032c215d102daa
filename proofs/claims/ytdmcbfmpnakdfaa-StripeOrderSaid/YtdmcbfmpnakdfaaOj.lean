/- Lists of sectors and of acts as arguments; three bytes. -/
import Derived.Test.YtdmcbfmpnakdfaaOa
import Derived.Test.YtdmcbfmpnakdfaaOp
import Derived.Test.YtdmcbfmpnakdfaaRl
namespace Go.Proofs.Ytdmcbfmpnakdfaa.Oa
open Go Go.ChangeShapes Go.WideShapes Go.RowKit Go.Proofs Go.Proofs.Ytdmcbfmpnakdfaa.Eng Go.Proofs.Ytdmcbfmpnakdfaa.Op
set_option maxRecDepth 20000
variable {H : Type} {enc : TypeId × Value → H} {w : World} {base : Nat} {spare : Nat → Bool} {held : Bool}
theorem secs_cells {n : Nat} {cs : List Value} {x : DataW H × List MemPlace} (h : DataW.trod enc Try.prog w base spare held n 34 cs = some x) : ∃ s : List Nat, cs = bysN 64 s ∧ Sec s := by
  obtain ⟨l, hl, rfl, hw⟩ := row_ints (n := 64) Try.underlying34 Try.underlying5 (by kernel_rfl) (by kernel_rfl) h
  have hb : ∀ z ∈ l, 0 ≤ z ∧ z < 256 := fun z hz => by
    have h' := hw z hz
    simp [Lit.wf, IntKind.min, IntKind.max, IntKind.bits, IntKind.signed] at h'
    omega
  refine ⟨l.map Int.toNat, ?_, by simp [hl], fun x hx => ?_⟩
  · apply List.ext_getElem?
    intro i
    unfold bysN
    by_cases hi : i < 64
    · have h0 := hb (l[i]'(by omega)) (List.getElem_mem _)
      have hi' : i < l.length := by omega
      simp only [List.getElem?_map, List.getElem?_eq_getElem hi', Option.map_some, List.getElem?_range hi, List.getD_eq_getElem?_getD, Option.getD_some]
      congr 2
      omega
    · rw [List.getElem?_eq_none (by simp; omega), List.getElem?_eq_none (by simp; omega)]
  · obtain ⟨z, hz, rfl⟩ := List.mem_map.1 hx
    have := hb z hz
    omega
theorem open_secs {r : Reach} {b0 : Nat} {v : Value} {d : DataW H} {p : List MemPlace} (hv : Value.okWide Try.prog w r b0 22 v) (h : DataW.Trod enc Try.prog w base spare held 22 v d p) :
    ∃ (c : Option Nat) (l : List (List Nat)) (s : Spot), (slOk c l ∧ Secs l) ∧ ∀ (Γ : Ctx) (ρ : Ren) (id : Nat), Γ.W = w → ρ id = s → (AV.sc (slA c 64 l.length id)).den ρ = v ∧ ∀ b, secsB c l = some b → BlkSat Γ ρ w id b ∧ b.w = false := by
  rcases open_rows (sz := 64) (fun s : List Nat => bysN 64 s) Sec Try.underlying22 (by kernel_rfl) (fun n cs x h => secs_cells h) hv h with rfl | ⟨b, off, cap, l, c, t', fr, pre, post, rfl, hlc, hcm, hb, hcs, hpre, hW⟩
  · exact ⟨none, [], ⟨0, 0, 0⟩, ⟨rfl, fun _ h => by cases h⟩, fun Γ ρ id _ _ => ⟨rfl, fun b hb => by cases hb⟩⟩
  · refine ⟨some cap, l, ⟨b, off, cap⟩, ⟨⟨hlc, by simp only [maxLen] at hcm; omega⟩, hW⟩, fun Γ ρ id hΓ hρ => ⟨?_, fun bb hbb => ?_⟩⟩
    · show Value.slice (some ⟨(ρ id).b, (ρ id).sh + 0 * 64, none⟩) l.length cap = _
      rw [hρ]; simp
    · injection hbb with hbb
      subst hbb
      refine ⟨⟨fun e he => ?_, fun e he x hx => ?_, ?_, c, t', fr, pre, post, ?_, ?_, ?_, ?_, ?_⟩, rfl⟩
      · obtain ⟨a, ha, rfl⟩ := List.mem_map.1 he
        exact ⟨rfl, rfl⟩
      · obtain ⟨a, ha, rfl⟩ := List.mem_map.1 he
        cases hx
      · rw [hρ, List.length_map]; exact hlc
      · rw [hρ]; exact hb
      · rw [hcs]
        congr 2
        unfold rowDen
        rw [List.flatMap_map]
        simp only [secS, Segs.den, Seg.den, List.append_nil]
      · rw [hρ]; exact hpre
      · rw [hρ, hΓ]; exact (Array.getElem?_eq_some_iff.1 hb).1
      · rw [hΓ]
def DA (a : ActS) : List Value := [.int .i64 a.w, .int .i64 a.c] ++ bysN 64 a.s
theorem i64_wf {z : Int} (h : (Lit.int .i64 z).wf = true) : -2 ^ 63 ≤ z ∧ z < 2 ^ 63 := by
  simp [Lit.wf, IntKind.min, IntKind.max, IntKind.bits, IntKind.signed] at h
  omega
theorem sact_cells {n : Nat} {cs : List Value} {x : DataW H × List MemPlace} (h : DataW.trod enc Try.prog w base spare held n 83 cs = some x) : ∃ a, cs = DA a ∧ ActS.Ok a := by
  obtain ⟨xs, m, _, _, hl, hxl, hget⟩ := DataW.trod_struct Try.underlying83 h
  have hc : Try.prog.cellsOf 83 = 66 := by kernel_rfl
  have hc3 : Try.prog.cellsOf 3 = 1 := by kernel_rfl
  have hc34 : Try.prog.cellsOf 34 = 64 := by kernel_rfl
  have hx5 : xs.length = 3 := hxl
  have g0 := hget 0 _ rfl
  have g1 := hget 1 _ rfl
  have g2 := hget 2 _ rfl
  rw [List.getElem?_eq_getElem (by omega)] at g0 g1 g2
  obtain ⟨d, e0, w0⟩ := DataW.trod_int Try.underlying3 g0
  obtain ⟨i, e1, w1⟩ := DataW.trod_int Try.underlying3 g1
  obtain ⟨s, e2, w2⟩ := secs_cells g2
  refine ⟨⟨d, i, s⟩, ?_, ⟨i64_wf w0.2, i64_wf w1.2, w2⟩⟩
  have h0 : (cs.drop 0).take (Try.prog.cellsOf 3) = [.int .i64 d] := e0
  have h1 : (cs.drop 1).take (Try.prog.cellsOf 3) = [.int .i64 i] := e1
  have h2 : (cs.drop 2).take (Try.prog.cellsOf 34) = bysN 64 s := e2
  rw [hc3] at h0 h1
  rw [hc34] at h2
  have hl : cs.length = 66 := hl.trans hc
  have : cs = (cs.drop 0).take 1 ++ ((cs.drop 1).take 1 ++ (cs.drop 2).take 64) := by
    have st : ∀ a b c : Nat, a + b = c → cs.drop a = (cs.drop a).take b ++ cs.drop c := fun a b c e => by
      rw [← e, ← List.drop_drop, List.take_append_drop]
    have lst : (cs.drop 2).take 64 = cs.drop 2 := List.take_of_length_le (by rw [List.length_drop]; omega)
    rw [lst, ← st 1 1 2 rfl, ← st 0 1 1 rfl]; rfl
  rw [this, h0, h1, h2]
  rfl
theorem open_sacts {r : Reach} {b0 : Nat} {v : Value} {d : DataW H} {p : List MemPlace} (hv : Value.okWide Try.prog w r b0 78 v) (h : DataW.Trod enc Try.prog w base spare held 78 v d p) :
    ∃ (c : Option Nat) (l : List ActS) (s : Spot), (slOk c l ∧ ∀ a ∈ l, ActS.Ok a) ∧ ∀ (Γ : Ctx) (ρ : Ren) (id : Nat), Γ.W = w → ρ id = s → (AV.sc (slA c 66 l.length id)).den ρ = v ∧ ∀ b, actB c l = some b → BlkSat Γ ρ w id b ∧ b.w = false := by
  rcases open_rows (sz := 66) DA ActS.Ok Try.underlying78 (by kernel_rfl) (fun n cs x h => sact_cells h) hv h with rfl | ⟨b, off, cap, l, c, t', fr, pre, post, rfl, hlc, hcm, hb, hcs, hpre, hW⟩
  · exact ⟨none, [], ⟨0, 0, 0⟩, ⟨rfl, fun _ h => by cases h⟩, fun Γ ρ id _ _ => ⟨rfl, fun b hb => by cases hb⟩⟩
  · refine ⟨some cap, l, ⟨b, off, cap⟩, ⟨⟨hlc, by simp only [maxLen] at hcm; omega⟩, hW⟩, fun Γ ρ id hΓ hρ => ⟨?_, fun bb hbb => ?_⟩⟩
    · show Value.slice (some ⟨(ρ id).b, (ρ id).sh + 0 * 66, none⟩) l.length cap = _
      rw [hρ]; simp
    · injection hbb with hbb
      subst hbb
      refine ⟨⟨fun e he => ?_, fun e he x hx => ?_, ?_, c, t', fr, pre, post, ?_, ?_, ?_, ?_, ?_⟩, rfl⟩
      · obtain ⟨a, ha, rfl⟩ := List.mem_map.1 he
        exact ⟨rfl, rfl⟩
      · obtain ⟨a, ha, rfl⟩ := List.mem_map.1 he
        cases hx
      · rw [hρ, List.length_map]; exact hlc
      · rw [hρ]; exact hb
      · rw [hcs]
        congr 2
        unfold rowDen
        rw [List.flatMap_map]
        rfl
      · rw [hρ]; exact hpre
      · rw [hρ, hΓ]; exact (Array.getElem?_eq_some_iff.1 hb).1
      · rw [hΓ]
/-- Three bytes. -/
theorem open_three {r : Reach} {b0 : Nat} {v : Value} {d : DataW H} {p : List MemPlace} (hv : Value.okWide Try.prog w r b0 87 v) (h : DataW.Trod enc Try.prog w base spare held 87 v d p) :
    ∃ x : List Nat, (x.length = 3 ∧ ∀ b ∈ x, b < 256) ∧ ∀ ρ : Ren, (AV.agg [.byt 3 x]).den ρ = v := by
  obtain ⟨l, rfl, hl, hw⟩ := open_row (n := 3) Try.underlying87 Try.underlying5 (by kernel_rfl) (by kernel_rfl) hv h
  have hb : ∀ z ∈ l, 0 ≤ z ∧ z < 256 := fun z hz => by
    have h' := hw z hz
    simp [Lit.wf, IntKind.min, IntKind.max, IntKind.bits, IntKind.signed] at h'
    omega
  refine ⟨l.map Int.toNat, ⟨by simp [hl], fun x hx => ?_⟩, fun ρ => ?_⟩
  · obtain ⟨z, hz, rfl⟩ := List.mem_map.1 hx
    have := hb z hz
    omega
  · show Value.agg _ = _
    congr 2
    simp only [Segs.den, Seg.den, List.append_nil]
    apply List.ext_getElem?
    intro i
    unfold bysN
    by_cases hi : i < 3
    · have h0 := hb (l[i]'(by omega)) (List.getElem_mem _)
      have hi' : i < l.length := by omega
      simp only [List.getElem?_map, List.getElem?_eq_getElem hi', Option.map_some, List.getElem?_range hi, List.getD_eq_getElem?_getD, Option.getD_some]
      congr 2
      omega
    · rw [List.getElem?_eq_none (by simp; omega), List.getElem?_eq_none (by simp; omega)]
/-- A sector, by value. -/
theorem open_sec1 {r : Reach} {b0 : Nat} {v : Value} {d : DataW H} {p : List MemPlace} (hv : Value.okWide Try.prog w r b0 34 v) (h : DataW.Trod enc Try.prog w base spare held 34 v d p) :
    ∃ x : List Nat, (Sec x) ∧ ∀ ρ : Ren, (AV.agg [.byt 64 x]).den ρ = v := by
  obtain ⟨l, rfl, hl, hw⟩ := open_row (n := 64) Try.underlying34 Try.underlying5 (by kernel_rfl) (by kernel_rfl) hv h
  have hb : ∀ z ∈ l, 0 ≤ z ∧ z < 256 := fun z hz => by
    have h' := hw z hz
    simp [Lit.wf, IntKind.min, IntKind.max, IntKind.bits, IntKind.signed] at h'
    omega
  refine ⟨l.map Int.toNat, ⟨by simp [hl], fun x hx => ?_⟩, fun ρ => ?_⟩
  · obtain ⟨z, hz, rfl⟩ := List.mem_map.1 hx
    have := hb z hz
    omega
  · show Value.agg _ = _
    congr 2
    simp only [Segs.den, Seg.den, List.append_nil]
    apply List.ext_getElem?
    intro i
    unfold bysN
    by_cases hi : i < 64
    · have h0 := hb (l[i]'(by omega)) (List.getElem_mem _)
      have hi' : i < l.length := by omega
      simp only [List.getElem?_map, List.getElem?_eq_getElem hi', Option.map_some, List.getElem?_range hi, List.getD_eq_getElem?_getD, Option.getD_some]
      congr 2
      omega
    · rw [List.getElem?_eq_none (by simp; omega), List.getElem?_eq_none (by simp; omega)]
/-- A whole number. -/
theorem open_i64 {r : Reach} {b0 : Nat} {v : Value} {d : DataW H} {p : List MemPlace} (hv : Value.okWide Try.prog w r b0 3 v) (h : DataW.Trod enc Try.prog w base spare held 3 v d p) :
    ∃ z : Int, (-2 ^ 63 ≤ z ∧ z < 2 ^ 63) ∧ ∀ ρ : Ren, (AV.sc (.raw (.int .i64 z))).den ρ = v := by
  obtain ⟨a, rfl, _, _, hw⟩ := open_int Try.underlying3 hv h
  exact ⟨a, i64_wf hw, fun _ => rfl⟩
end Go.Proofs.Ytdmcbfmpnakdfaa.Oa
