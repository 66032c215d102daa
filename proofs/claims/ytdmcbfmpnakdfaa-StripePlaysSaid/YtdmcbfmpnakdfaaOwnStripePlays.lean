/- Whatever is done to a row, all that is told is what the document says: of any number of columns, any acts, no condition. -/
import Derived.Test.YtdmcbfmpnakdfaaRows
import Derived.Test.YtdmcbfmpnakdfaaXD
import Derived.Test.YtdmcbfmpnakdfaaXE
import Derived.WalkKit
import Derived.ProofKit
import Derived.OpenShut
import Derived.ShutString
import Derived.ChangeOld
import Derived.Below
import Derived.Carry
import Derived.SizedLaws
import Derived.Lib.SmallJoins
namespace Go.Proofs.Ytdmcbfmpnakdfaa.OwnStripePlays
open Go Go.RowKit Go.Proofs Go.Proofs.Ytdmcbfmpnakdfaa.Eng
theorem walk (w : World) (z_0 : Int) (v_0 : Value) (ok_0 : -2 ^ 63 ≤ z_0 ∧ z_0 < 2 ^ 63) (h_0 : ∀ ρ : Ren, (AV.sc (.raw (.int .i64 z_0))).den ρ = v_0) (c_1 : Option Nat) (l_1 : List Oa.ActS) (s_1 : Spot) (v_1 : Value) (ok_1 : Oa.slOk c_1 l_1 ∧ ∀ a ∈ l_1, Oa.ActS.Ok a) (h_1 : ∀ (Γ : Ctx) (ρ : Ren) (id : Nat), Γ.W = w → ρ id = s_1 → (AV.sc (Oa.slA c_1 66 l_1.length id)).den ρ = v_1 ∧ ∀ b, Oa.actB c_1 l_1 = some b → BlkSat Γ ρ w id b ∧ b.w = false) :
    Calls Try.prog 14 #[v_0, v_1] w fun e w' => e = .returned (.bool true) ∧ Below w.heap.size w w' := by
  let ρ : Ren := fun i => [s_1].getD i ⟨0, 0, 0⟩
  have g_0 := h_0 ρ
  have g_1 := h_1 (top w 1 ρ) ρ 0 rfl rfl
  have := FunT.below (St.plays_ok z_0 c_1 l_1 ok_1) (by intro h; cases h) ρ w (Sat.top fun id b hb => ?_)
  · simp only [AV.dens, g_0, g_1.1] at this
    exact this.mono fun e w' ⟨⟨ρ', h1⟩, h2⟩ => ⟨h1, h2⟩
  · match id, hb with
    | 0, hb => exact g_1.2 b hb
    | _ + 1, hb => cases hb
end Go.Proofs.Ytdmcbfmpnakdfaa.OwnStripePlays
namespace Go.Proofs.Ytdmcbfmpnakdfaa.stripePlays
open Go.ChangeShapes Go.WideShapes Go.ChangeAt Go.RowKit
open Go.ChangeMaps (open_string shut_string)
set_option linter.unusedVariables false
theorem own : ownKnob Try.prog.godebug = none := by kernel_rfl
theorem Try.laidOut : laidOutB Try.prog = true := by kernel_rfl
set_option maxRecDepth 100000 in
theorem lifted (os : Os) (started : os.Started) (H : Type) (enc : TypeId × Value → H) :
    ReturnsInHanded {} Try.checked os 14 .any (Rows.stripePlaysSpec.pre6 enc Try.prog Try.f14 Rows.stripePlaysRow.domain false) (Rows.stripePlaysSpec.post enc Try.prog Try.f14 false true false false) := by
  refine returnsInHanded_of_change_sized (C := Try.checked) own started (by kernel_rfl) Try.func14
    (ChangeSpec.witness6 (enc := enc) (C := Try.checked) false ⟨#[], #[.int .i64 0, .slice none 0 0], []⟩ 8 (by kernel_rfl) (by kernel_rfl) (by kernel_rfl) (by kernel_rfl)) ?_
  intro W base args ds gs before hval0 hW hcnd hsz0 _
  have hval : ∀ (j : Nat) t v, Try.f14.params[j]? = some t → args[j]? = some v → Value.okWide Try.prog W .any base t v := hval0
  have hW' := hW
  have hWlt := hW.lt
  obtain ⟨p, q, hA0, hV, rfl, hfz, hnd⟩ := hW
  have hA : DataW.TrodAll enc Try.prog W 0 (fun _ => true) true Try.f14.params.toList args.toList ds p := hA0
  rw [Try.params14] at hA hval
  obtain ⟨v0, vs0, d0, ds0, p0, q0, hargs, rfl, rfl, h0, r0⟩ := trodAll_cons hA
  obtain ⟨v1, vs1, d1, ds1, p1, q1, rfl, rfl, rfl, h1, r1⟩ := trodAll_cons r0
  obtain ⟨rfl, rfl, rfl⟩ := trodAll_nil r1
  obtain rfl : args = #[v0, v1] := by cases args; simp_all
  obtain ⟨rfl, rfl⟩ := trodVars_none hV
  have k0 := h0
  have l0 : ∀ x ∈ p0, x.block < W.heap.size := fun x hx => hWlt x (by simp [hx])
  have k1 := h1
  have l1 : ∀ x ∈ p1, x.block < W.heap.size := fun x hx => hWlt x (by simp [hx])
  obtain ⟨z_0, ok_0, g_0⟩ := Oa.open_i64 (hval 0 3 v0 rfl rfl) h0
  obtain ⟨c_1, l_1, s_1, ok_1, g_1⟩ := Oa.open_sacts (hval 1 78 v1 rfl rfl) h1
  refine (OwnStripePlays.walk W z_0 v0 ok_0 g_0 c_1 l_1 s_1 v1 ok_1 g_1).mono fun e W' ⟨he, bel⟩ => ?_
  subst he
  exact ⟨_, rfl, _, _, _, [], _, [], hW', trodAll_mk1 (shut_bool Try.underlying4 _), (trodAll_cons_mk (Below.trod Try.laidOut (by kernel_rfl) (of_decide_eq_true (by kernel_rfl)) k0 bel l0) (trodAll_cons_mk (Below.trod Try.laidOut (by kernel_rfl) (of_decide_eq_true (by kernel_rfl)) k1 bel l1) trodAll_mk0)), rfl, bel.frame _, fun h => by cases h⟩
theorem over : Rows.stripePlaysRow.holds Try.pinned (OpenSpec.ofChange Rows.stripePlaysSpec) :=
  OpenClaim.holds_of_wide 14 Try.f14 rfl rfl rfl rfl rfl rfl rfl ⟨rfl, rfl, rfl, rfl, rfl⟩ rfl rfl rfl rfl rfl (by kernel_rfl) Try.func14 (by kernel_rfl)
    (of_decide_eq_true (by kernel_rfl)) (by unfold Func.isWrapper; first | (rw [if_pos (by decide +kernel)]; kernel_rfl) | (rw [if_neg (by decide +kernel)]; exact ⟨rfl, rfl⟩))
    (fun os started H enc _ => lifted os started H enc)
theorem proved : Rows.StripePlaysSaid := over
#print axioms proved
end Go.Proofs.Ytdmcbfmpnakdfaa.stripePlays
namespace Go.Proofs.Ytdmcbfmpnakdfaa
/-- The row, under a short name, for the claim. -/
theorem stripePlays_holds : Rows.StripePlaysSaid := stripePlays.proved
end Go.Proofs.Ytdmcbfmpnakdfaa
