/- Whatever was done to a member, its copy goes on as it does, and neither knows of what is done to the other: of any acts, no condition. -/
import Derived.Test.YtdmcbfmpnakdfaaRows
import Derived.Test.YtdmcbfmpnakdfaaZE
import Derived.Test.YtdmcbfmpnakdfaaZO
import Derived.WalkKit
import Derived.ProofKit
import Derived.OpenShut
import Derived.ShutString
import Derived.ChangeOld
import Derived.Below
import Derived.Carry
import Derived.SizedLaws
import Derived.Lib.SmallJoins
namespace Go.Proofs.Ytdmcbfmpnakdfaa.OwnMemberCopies
open Go Go.RowKit Go.Proofs Go.Proofs.Ytdmcbfmpnakdfaa.Eng
theorem walk (w : World) (c_0 : Ar) (l_0 : List ActV) (s_0 : Spot) (R_0 : List (Nat × Obj)) (pks_0 : ActV → List Int) (v_0 : Value) (ok_0 : c_0.ok l_0) (pk_0 : ∀ x ∈ l_0, PkOk R_0 x.p (pks_0 x)) (len_0 : ∀ x ∈ l_0, (pks_0 x).length ≤ 2 ^ 47 - 4096) (h_0 : ∀ (Γ : Ctx) (ρ : Ren) (id id2 : Nat), Γ.W = w → (∀ b, ¬ Γ.F b) → ρ id = s_0 → ρ id2 = s_0 → (AV.sc (c_0.sv l_0.length id)).den ρ = v_0 ∧ (∀ b, arB c_0 l_0 = some b → BlkSat Γ ρ w id b ∧ b.w = false) ∧ ∀ b, famO c_0 R_0 = some b → BlkSat Γ ρ w id2 b ∧ b.w = false) (c_1 : Ar) (l_1 : List ActV) (s_1 : Spot) (R_1 : List (Nat × Obj)) (pks_1 : ActV → List Int) (v_1 : Value) (ok_1 : c_1.ok l_1) (pk_1 : ∀ x ∈ l_1, PkOk R_1 x.p (pks_1 x)) (len_1 : ∀ x ∈ l_1, (pks_1 x).length ≤ 2 ^ 47 - 4096) (h_1 : ∀ (Γ : Ctx) (ρ : Ren) (id id2 : Nat), Γ.W = w → (∀ b, ¬ Γ.F b) → ρ id = s_1 → ρ id2 = s_1 → (AV.sc (c_1.sv l_1.length id)).den ρ = v_1 ∧ (∀ b, arB c_1 l_1 = some b → BlkSat Γ ρ w id b ∧ b.w = false) ∧ ∀ b, famO c_1 R_1 = some b → BlkSat Γ ρ w id2 b ∧ b.w = false) :
    Calls Try.prog 9 #[v_0, v_1] w fun e w' => e = .returned (.bool true) ∧ Below w.heap.size w w' := by
  let ρ : Ren := fun i => [s_0, s_0, s_1, s_1].getD i ⟨0, 0, 0⟩
  have g_0 := h_0 (top w 4 ρ) ρ 0 1 rfl (fun _ h => h) rfl rfl
  have g_1 := h_1 (top w 4 ρ) ρ 2 3 rfl (fun _ h => h) rfl rfl
  have := FunT.below (Rm.copies_ok c_0 c_1 l_0 l_1 R_0 R_1 pks_0 pks_1 ok_0 ok_1 pk_0 len_0 pk_1 len_1) (by intro h; cases h) ρ w (Sat.top fun id b hb => ?_)
  · simp only [AV.dens, g_0.1, g_1.1] at this
    exact this.mono fun e w' ⟨⟨ρ', h1⟩, h2⟩ => ⟨h1, h2⟩
  · match id, hb with
    | 0, hb => exact g_0.2.1 b hb
    | 1, hb => exact g_0.2.2 b hb
    | 2, hb => exact g_1.2.1 b hb
    | 3, hb => exact g_1.2.2 b hb
    | _ + 4, hb => cases hb
end Go.Proofs.Ytdmcbfmpnakdfaa.OwnMemberCopies
namespace Go.Proofs.Ytdmcbfmpnakdfaa.memberCopies
open Go.ChangeShapes Go.WideShapes Go.ChangeAt Go.RowKit
open Go.ChangeMaps (open_string shut_string)
set_option linter.unusedVariables false
theorem own : ownKnob Try.prog.godebug = none := by kernel_rfl
theorem Try.laidOut : laidOutB Try.prog = true := by kernel_rfl
set_option maxRecDepth 100000 in
theorem lifted (os : Os) (started : os.Started) (H : Type) (enc : TypeId × Value → H) :
    ReturnsInHanded {} Try.checked os 9 .any (Rows.memberCopiesSpec.pre6 enc Try.prog Try.f9 Rows.memberCopiesRow.domain false) (Rows.memberCopiesSpec.post enc Try.prog Try.f9 false true false false) := by
  refine returnsInHanded_of_change_sized (C := Try.checked) own started (by kernel_rfl) Try.func9
    (ChangeSpec.witness6 (enc := enc) (C := Try.checked) false ⟨#[], #[.slice none 0 0, .slice none 0 0], []⟩ 8 (by kernel_rfl) (by kernel_rfl) (by kernel_rfl) (by kernel_rfl)) ?_
  intro W base args ds gs before hval0 hW hcnd hsz0 _
  have hval : ∀ (j : Nat) t v, Try.f9.params[j]? = some t → args[j]? = some v → Value.okWide Try.prog W .any base t v := hval0
  have hW' := hW
  have hWlt := hW.lt
  obtain ⟨p, q, hA0, hV, rfl, hfz, hnd⟩ := hW
  have hA : DataW.TrodAll enc Try.prog W 0 (fun _ => true) true Try.f9.params.toList args.toList ds p := hA0
  rw [Try.params9] at hA hval
  obtain ⟨v0, vs0, d0, ds0, p0, q0, hargs, rfl, rfl, h0, r0⟩ := trodAll_cons hA
  obtain ⟨v1, vs1, d1, ds1, p1, q1, rfl, rfl, rfl, h1, r1⟩ := trodAll_cons r0
  obtain ⟨rfl, rfl, rfl⟩ := trodAll_nil r1
  obtain rfl : args = #[v0, v1] := by cases args; simp_all
  obtain ⟨rfl, rfl⟩ := trodVars_none hV
  have k0 := h0
  have l0 : ∀ x ∈ p0, x.block < W.heap.size := fun x hx => hWlt x (by simp [hx])
  have k1 := h1
  have l1 : ∀ x ∈ p1, x.block < W.heap.size := fun x hx => hWlt x (by simp [hx])
  obtain ⟨c_0, l_0, s_0, R_0, pks_0, ok_0, pk_0, len_0, g_0⟩ := Oa.open_actsG (hval 0 43 v0 rfl rfl) h0 (fun m hm => by have := List.all_eq_true.1 hsz0 m (DataW.weights_mem_each (j := 0) rfl rfl m hm); simpa using this)
  obtain ⟨c_1, l_1, s_1, R_1, pks_1, ok_1, pk_1, len_1, g_1⟩ := Oa.open_actsG (hval 1 43 v1 rfl rfl) h1 (fun m hm => by have := List.all_eq_true.1 hsz0 m (DataW.weights_mem_each (j := 1) rfl rfl m hm); simpa using this)
  refine (OwnMemberCopies.walk W c_0 l_0 s_0 R_0 pks_0 v0 ok_0 pk_0 len_0 g_0 c_1 l_1 s_1 R_1 pks_1 v1 ok_1 pk_1 len_1 g_1).mono fun e W' ⟨he, bel⟩ => ?_
  subst he
  exact ⟨_, rfl, _, _, _, [], _, [], hW', trodAll_mk1 (shut_bool Try.underlying4 _), (trodAll_cons_mk (Below.trod Try.laidOut (by kernel_rfl) (of_decide_eq_true (by kernel_rfl)) k0 bel l0) (trodAll_cons_mk (Below.trod Try.laidOut (by kernel_rfl) (of_decide_eq_true (by kernel_rfl)) k1 bel l1) trodAll_mk0)), rfl, bel.frame _, fun h => by cases h⟩
theorem over : Rows.memberCopiesRow.holds Try.pinned (OpenSpec.ofChange Rows.memberCopiesSpec) :=
  OpenClaim.holds_of_wide 9 Try.f9 rfl rfl rfl rfl rfl rfl rfl ⟨rfl, rfl, rfl, rfl, rfl⟩ rfl rfl rfl rfl rfl (by kernel_rfl) Try.func9 (by kernel_rfl)
    (of_decide_eq_true (by kernel_rfl)) (by unfold Func.isWrapper; first | (rw [if_pos (by decide +kernel)]; kernel_rfl) | (rw [if_neg (by decide +kernel)]; exact ⟨rfl, rfl⟩))
    (fun os started H enc _ => lifted os started H enc)
theorem proved : Rows.MemberCopiesSaid := over
#print axioms proved
end Go.Proofs.Ytdmcbfmpnakdfaa.memberCopies
namespace Go.Proofs.Ytdmcbfmpnakdfaa
/-- The row, under a short name, for the claim. -/
theorem memberCopies_holds : Rows.MemberCopiesSaid := memberCopies.proved
end Go.Proofs.Ytdmcbfmpnakdfaa
