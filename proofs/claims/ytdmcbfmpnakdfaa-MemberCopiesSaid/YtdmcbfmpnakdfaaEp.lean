/- A contract seen from the world: what was there stays. -/
import Derived.Test.YtdmcbfmpnakdfaaEn
import Derived.Below
namespace Go.Proofs.Ytdmcbfmpnakdfaa.Eng
open Go Go.RowKit
/-- The call as a whole: nothing of what was there may be written to. -/
abbrev top (w : World) (n : Nat) (ρ : Ren) : Ctx := ⟨w, fun _ => False, n, ρ⟩
theorem FunT.below {P : Program} {f : FuncId} {args : List AV} {h : LHp} {r : AV} {h' : LHp} (hF : FunT P f args h r h') (hr : r ≠ .junk) (ρ : Ren) (w : World) (hs : Sat (top w h.length ρ) ρ (hpL h) w) :
    Calls P f (AV.dens ρ args).toArray w (fun e w' => (∃ ρ', e = .returned (r.den ρ')) ∧ Below w.heap.size w w') := by
  refine (hF (top w h.length ρ) ρ w rfl hs).mono fun e w' he => ?_
  obtain ⟨ρ', v, h1, h2, h3⟩ := he
  rcases h2 with h2 | h2
  · exact absurd h2 hr
  · exact ⟨⟨ρ', by rw [h1, h2]⟩, h3.os, h3.tape, h3.output, h3.size, fun k hk => h3.frame k hk id⟩
/-- At the top: blocks that are read alone, each a part of what there is. -/
theorem Sat.top {w : World} {n : Nat} {ρ : Ren} {hp : AHeap} (hb : ∀ id b, hp id = some b → BlkSat (top w n ρ) ρ w id b ∧ b.w = false) : Sat (Eng.top w n ρ) ρ hp w where
  blk id b h := (hb id b h).1
  inj i j a b ha _ hw _ := by rw [(hb i a ha).2] at hw; cases hw
  foot i a ha hw _ := by rw [(hb i a ha).2] at hw; cases hw
  frame _ _ _ := rfl
  size := Nat.le_refl _
  os := rfl
  tape := rfl
  output := rfl
  fix _ _ := rfl
end Go.Proofs.Ytdmcbfmpnakdfaa.Eng
