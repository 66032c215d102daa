/- Slices of acts, and of bytes, as arguments: as the contracts have them. -/
import Derived.Test.YtdmcbfmpnakdfaaOc
namespace Go.Proofs.Ytdmcbfmpnakdfaa.Oa
open Go Go.ChangeShapes Go.WideShapes Go.RowKit Go.Proofs Go.Proofs.Ytdmcbfmpnakdfaa.Eng Go.Proofs.Ytdmcbfmpnakdfaa.Op
set_option maxRecDepth 20000
variable {H : Type} {enc : TypeId × Value → H} {w : World} {base : Nat} {spare : Nat → Bool} {held : Bool}
theorem actSegs_den (ρ : Ren) (a : ActV) : Segs.den ρ (actSegs a) = D a := rfl
/-- A slice of acts: nil, or a row that is read alone. -/
theorem open_acts {r : Reach} {b0 : Nat} {v : Value} {d : DataW H} {p : List MemPlace} (hv : Value.okWide Try.prog w r b0 43 v) (h : DataW.Trod enc Try.prog w base spare held 43 v d p) :
    ∃ (ar : Ar) (l : List ActV) (s : Spot), ar.ok l ∧ ∀ (Γ : Ctx) (ρ : Ren) (id : Nat), Γ.W = w → ρ id = s → (AV.sc (ar.sv l.length id)).den ρ = v ∧ ∀ b, arB ar l = some b → BlkSat Γ ρ w id b ∧ b.w = false := by
  rcases open_rows (sz := 68) D (fun a => cell1 a.p = true) Try.underlying43 (by kernel_rfl) (fun n cs x h => act_cells h) hv h with rfl | ⟨b, off, cap, l, c, t', fr, pre, post, rfl, hlc, hcm, hb, hcs, hpre, hW⟩
  · exact ⟨.nil, [], ⟨0, 0, 0⟩, rfl, fun Γ ρ id _ _ => ⟨rfl, fun b hb => by cases hb⟩⟩
  · refine ⟨.row, l, ⟨b, off, cap⟩, trivial, fun Γ ρ id hΓ hρ => ⟨?_, fun bb hbb => ?_⟩⟩
    · show Value.slice (some ⟨(ρ id).b, (ρ id).sh + 0 * 68, none⟩) l.length ((ρ id).tot - 0) = _
      rw [hρ]; simp
    · injection hbb with hbb
      subst hbb
      refine ⟨⟨fun e he => ?_, fun e he x hx => ?_, ?_, c, t', fr, pre, post, ?_, ?_, ?_, ?_, ?_⟩, rfl⟩
      · obtain ⟨a, ha, rfl⟩ := List.mem_map.1 he
        refine ⟨rfl, ?_⟩
        have := hW a ha
        simp only [actSegs, Segs.oneB, SV.oneB, this]
        rfl
      · obtain ⟨a, ha, rfl⟩ := List.mem_map.1 he
        cases hx
      · rw [hρ, List.length_map]; exact hlc
      · rw [hρ]; exact hb
      · rw [hcs]
        congr 2
        unfold rowDen
        rw [List.flatMap_map]; rfl
      · rw [hρ]; exact hpre
      · rw [hρ, hΓ]; exact (Array.getElem?_eq_some_iff.1 hb).1
      · rw [hΓ]
end Go.Proofs.Ytdmcbfmpnakdfaa.Oa
