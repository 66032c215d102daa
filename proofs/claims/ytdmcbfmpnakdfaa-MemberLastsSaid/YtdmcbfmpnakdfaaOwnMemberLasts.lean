/- Behind Flush no crash changes what is seen; what a crash leaves in a sector was durable there or is one of the unflushed writes; picks that all are not 0 lose nothing: of any acts, any picks, no condition. -/
import Derived.Test.YtdmcbfmpnakdfaaRows
import Derived.Test.YtdmcbfmpnakdfaaMo
import Derived.Test.YtdmcbfmpnakdfaaOe
import Derived.WalkKit
import Derived.ProofKit
import Derived.OpenShut
import Derived.ShutString
import Derived.ChangeOld
import Derived.Below
import Derived.Carry
import Derived.SizedLaws
import Derived.Lib.SmallJoins
namespace Go.Proofs.Ytdmcbfmpnakdfaa.OwnMemberLasts
open Go Go.RowKit Go.Proofs Go.Proofs.Ytdmcbfmpnakdfaa.Eng
theorem walk (w : World) (c_0 : Ar) (l_0 : List ActV) (s_0 : Spot) (v_0 : Value) (ok_0 : c_0.ok l_0) (h_0 : ∀ (Γ : Ctx) (ρ : Ren) (id : Nat), Γ.W = w → ρ id = s_0 → (AV.sc (c_0.sv l_0.length id)).den ρ = v_0 ∧ ∀ b, arB c_0 l_0 = some b → BlkSat Γ ρ w id b ∧ b.w = false) (c_1 : Ar) (l_1 : List ActV) (s_1 : Spot) (v_1 : Value) (ok_1 : c_1.ok l_1) (h_1 : ∀ (Γ : Ctx) (ρ : Ren) (id : Nat), Γ.W = w → ρ id = s_1 → (AV.sc (c_1.sv l_1.length id)).den ρ = v_1 ∧ ∀ b, arB c_1 l_1 = some b → BlkSat Γ ρ w id b ∧ b.w = false) (c_2 : Ar) (l_2 : List Int) (s_2 : Spot) (v_2 : Value) (ok_2 : c_2.ok l_2) (h_2 : ∀ (Γ : Ctx) (ρ : Ren) (id : Nat), Γ.W = w → ρ id = s_2 → (AV.sc (pkS c_2 l_2 id)).den ρ = v_2 ∧ ∀ b, pkB c_2 l_2 = some b → BlkSat Γ ρ w id b ∧ b.w = false) :
    Calls Try.prog 5 #[v_0, v_1, v_2] w fun e w' => e = .returned (.bool true) ∧ Below w.heap.size w w' := by
  let ρ : Ren := fun i => [s_0, s_1, s_2].getD i ⟨0, 0, 0⟩
  have g_0 := h_0 (top w 3 ρ) ρ 0 rfl rfl
  have g_1 := h_1 (top w 3 ρ) ρ 1 rfl rfl
  have g_2 := h_2 (top w 3 ρ) ρ 2 rfl rfl
  have := FunT.below (lasts_ok c_0 c_1 c_2 l_0 l_1 l_2 ok_0 ok_1 ok_2) (by intro h; cases h) ρ w (Sat.top fun id b hb => ?_)
  · simp only [AV.dens, g_0.1, g_1.1, g_2.1] at this
    exact this.mono fun e w' ⟨⟨ρ', h1⟩, h2⟩ => ⟨h1, h2⟩
  · match id, hb with
    | 0, hb => exact g_0.2 b hb
    | 1, hb => exact g_1.2 b hb
    | 2, hb => exact g_2.2 b hb
    | _ + 3, hb => cases hb
end Go.Proofs.Ytdmcbfmpnakdfaa.OwnMemberLasts
namespace Go.Proofs.Ytdmcbfmpnakdfaa.memberLasts
open Go.ChangeShapes Go.WideShapes Go.ChangeAt Go.RowKit
open Go.ChangeMaps (open_string shut_string)
set_option linter.unusedVariables false
theorem own : ownKnob Try.prog.godebug = none := by kernel_rfl
theorem Try.laidOut : laidOutB Try.prog = true := by kernel_rfl
set_option maxRecDepth 100000 in
theorem lifted (os : Os) (started : os.Started) (H : Type) (enc : TypeId × Value → H) :
    ReturnsInHanded {} Try.checked os 5 .any (Rows.memberLastsSpec.pre6 enc Try.prog Try.f5 Rows.memberLastsRow.domain false) (Rows.memberLastsSpec.post enc Try.prog Try.f5 false true false false) := by
  refine returnsInHanded_of_change_sized (C := Try.checked) own started (by kernel_rfl) Try.func5
    (ChangeSpec.witness6 (enc := enc) (C := Try.checked) false ⟨#[], #[.slice none 0 0, .slice none 0 0, .slice none 0 0], []⟩ 8 (by kernel_rfl) (by kernel_rfl) (by kernel_rfl) (by kernel_rfl)) ?_
  intro W base args ds gs before hval0 hW hcnd hsz0 _
  have hval : ∀ (j : Nat) t v, Try.f5.params[j]? = some t → args[j]? = some v → Value.okWide Try.prog W .any base t v := hval0
  have hW' := hW
  have hWlt := hW.lt
  obtain ⟨p, q, hA0, hV, rfl, hfz, hnd⟩ := hW
  have hA : DataW.TrodAll enc Try.prog W 0 (fun _ => true) true Try.f5.params.toList args.toList ds p := hA0
  rw [Try.params5] at hA hval
  obtain ⟨v0, vs0, d0, ds0, p0, q0, hargs, rfl, rfl, h0, r0⟩ := trodAll_cons hA
  obtain ⟨v1, vs1, d1, ds1, p1, q1, rfl, rfl, rfl, h1, r1⟩ := trodAll_cons r0
  obtain ⟨v2, vs2, d2, ds2, p2, q2, rfl, rfl, rfl, h2, r2⟩ := trodAll_cons r1
  obtain ⟨rfl, rfl, rfl⟩ := trodAll_nil r2
  obtain rfl : args = #[v0, v1, v2] := by cases args; simp_all
  obtain ⟨rfl, rfl⟩ := trodVars_none hV
  have k0 := h0
  have l0 : ∀ x ∈ p0, x.block < W.heap.size := fun x hx => hWlt x (by simp [hx])
  have k1 := h1
  have l1 : ∀ x ∈ p1, x.block < W.heap.size := fun x hx => hWlt x (by simp [hx])
  have k2 := h2
  have l2 : ∀ x ∈ p2, x.block < W.heap.size := fun x hx => hWlt x (by simp [hx])
  obtain ⟨c_0, l_0, s_0, ok_0, g_0⟩ := Oa.open_acts (hval 0 43 v0 rfl rfl) h0
  obtain ⟨c_1, l_1, s_1, ok_1, g_1⟩ := Oa.open_acts (hval 1 43 v1 rfl rfl) h1
  obtain ⟨c_2, l_2, s_2, ok_2, g_2⟩ := Oa.open_bytes (hval 2 44 v2 rfl rfl) h2
  refine (OwnMemberLasts.walk W c_0 l_0 s_0 v0 ok_0 g_0 c_1 l_1 s_1 v1 ok_1 g_1 c_2 l_2 s_2 v2 ok_2 g_2).mono fun e W' ⟨he, bel⟩ => ?_
  subst he
  exact ⟨_, rfl, _, _, _, [], _, [], hW', trodAll_mk1 (shut_bool Try.underlying4 _), (trodAll_cons_mk (Below.trod Try.laidOut (by kernel_rfl) (of_decide_eq_true (by kernel_rfl)) k0 bel l0) (trodAll_cons_mk (Below.trod Try.laidOut (by kernel_rfl) (of_decide_eq_true (by kernel_rfl)) k1 bel l1) (trodAll_cons_mk (Below.trod Try.laidOut (by kernel_rfl) (of_decide_eq_true (by kernel_rfl)) k2 bel l2) trodAll_mk0))), rfl, bel.frame _, fun h => by cases h⟩
theorem over : Rows.memberLastsRow.holds Try.pinned (OpenSpec.ofChange Rows.memberLastsSpec) :=
  OpenClaim.holds_of_wide 5 Try.f5 rfl rfl rfl rfl rfl rfl rfl ⟨rfl, rfl, rfl, rfl, rfl⟩ rfl rfl rfl rfl rfl (by kernel_rfl) Try.func5 (by kernel_rfl)
    (of_decide_eq_true (by kernel_rfl)) (by unfold Func.isWrapper; first | (rw [if_pos (by decide +kernel)]; kernel_rfl) | (rw [if_neg (by decide +kernel)]; exact ⟨rfl, rfl⟩))
    (fun os started H enc _ => lifted os started H enc)
theorem proved : Rows.MemberLastsSaid := over
#print axioms proved
end Go.Proofs.Ytdmcbfmpnakdfaa.memberLasts
namespace Go.Proofs.Ytdmcbfmpnakdfaa
/-- The row, under a short name, for the claim. -/
theorem memberLasts_holds : Rows.MemberLastsSaid := memberLasts.proved
end Go.Proofs.Ytdmcbfmpnakdfaa
