/- The examples of the chapter hold; rows that are none: a closed statement. -/
import Derived.Test.YtdmcbfmpnakdfaaRows
import Derived.Test.YtdmcbfmpnakdfaaRj
import Derived.WalkKit
import Derived.ProofKit
import Derived.OpenShut
import Derived.ShutString
import Derived.ChangeOld
import Derived.Below
import Derived.Carry
import Derived.SizedLaws
import Derived.Lib.SmallJoins
namespace Go.Proofs.Ytdmcbfmpnakdfaa.OwnStripeKnown
open Go Go.RowKit Go.Proofs Go.Proofs.Ytdmcbfmpnakdfaa.Eng
theorem walk (w : World) :
    Calls Try.prog 15 #[] w fun e w' => e = .returned (.bool true) ∧ Below w.heap.size w w' := by
  let ρ : Ren := fun i => [].getD i ⟨0, 0, 0⟩
  have := FunT.below (St.known_str) (by intro h; cases h) ρ w (Sat.top fun id b hb => ?_)
  · exact this.mono fun e w' ⟨⟨ρ', h1⟩, h2⟩ => ⟨h1, h2⟩
  · cases hb
end Go.Proofs.Ytdmcbfmpnakdfaa.OwnStripeKnown
namespace Go.Proofs.Ytdmcbfmpnakdfaa.stripeKnown
open Go.ChangeShapes Go.WideShapes Go.ChangeAt Go.RowKit
open Go.ChangeMaps (open_string shut_string)
set_option linter.unusedVariables false
theorem own : ownKnob Try.prog.godebug = none := by kernel_rfl
theorem Try.laidOut : laidOutB Try.prog = true := by kernel_rfl
set_option maxRecDepth 100000 in
theorem lifted (os : Os) (started : os.Started) (H : Type) (enc : TypeId × Value → H) :
    ReturnsInHanded {} Try.checked os 15 .any (Rows.stripeKnownSpec.pre6 enc Try.prog Try.f15 Rows.stripeKnownRow.domain false) (Rows.stripeKnownSpec.post enc Try.prog Try.f15 false true false false) := by
  refine returnsInHanded_of_change_sized (C := Try.checked) own started (by kernel_rfl) Try.func15
    (ChangeSpec.witness6 (enc := enc) (C := Try.checked) false ⟨#[], #[], []⟩ 8 (by kernel_rfl) (by kernel_rfl) (by kernel_rfl) (by kernel_rfl)) ?_
  intro W base args ds gs before hval0 hW hcnd hsz0 _
  have hval : ∀ (j : Nat) t v, Try.f15.params[j]? = some t → args[j]? = some v → Value.okWide Try.prog W .any base t v := hval0
  have hW' := hW
  have hWlt := hW.lt
  obtain ⟨p, q, hA0, hV, rfl, hfz, hnd⟩ := hW
  have hA : DataW.TrodAll enc Try.prog W 0 (fun _ => true) true Try.f15.params.toList args.toList ds p := hA0
  rw [Try.params15] at hA hval
  obtain ⟨hargs, rfl, rfl⟩ := trodAll_nil hA
  obtain rfl : args = #[] := by cases args; simpa using hargs
  obtain ⟨rfl, rfl⟩ := trodVars_none hV
  refine (OwnStripeKnown.walk W ).mono fun e W' ⟨he, bel⟩ => ?_
  subst he
  exact ⟨_, rfl, _, _, _, [], _, [], hW', trodAll_mk1 (shut_bool Try.underlying4 _), trodAll_mk0, rfl, bel.frame _, fun h => by cases h⟩
theorem over : Rows.stripeKnownRow.holds Try.pinned (OpenSpec.ofChange Rows.stripeKnownSpec) :=
  OpenClaim.holds_of_wide 15 Try.f15 rfl rfl rfl rfl rfl rfl rfl ⟨rfl, rfl, rfl, rfl, rfl⟩ rfl rfl rfl rfl rfl (by kernel_rfl) Try.func15 (by kernel_rfl)
    (of_decide_eq_true (by kernel_rfl)) (by unfold Func.isWrapper; first | (rw [if_pos (by decide +kernel)]; kernel_rfl) | (rw [if_neg (by decide +kernel)]; exact ⟨rfl, rfl⟩))
    (fun os started H enc _ => lifted os started H enc)
theorem proved : Rows.StripeKnownSaid := over
#print axioms proved
end Go.Proofs.Ytdmcbfmpnakdfaa.stripeKnown
namespace Go.Proofs.Ytdmcbfmpnakdfaa
/-- The row, under a short name, for the claim. -/
theorem stripeKnown_holds : Rows.StripeKnownSaid := stripeKnown.proved
end Go.Proofs.Ytdmcbfmpnakdfaa
