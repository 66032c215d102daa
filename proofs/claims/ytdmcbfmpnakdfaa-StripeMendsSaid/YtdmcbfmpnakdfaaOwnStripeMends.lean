/- Of a right row any two columns can be lost, and what stood there overwritten: Mend makes it what it was; three are too many, and nothing is changed: of any data, any three bytes, any sector, no condition. -/
import Derived.Test.YtdmcbfmpnakdfaaRows
import Derived.Test.YtdmcbfmpnakdfaaRo
import Derived.Test.YtdmcbfmpnakdfaaOj
import Derived.WalkKit
import Derived.ProofKit
import Derived.OpenShut
import Derived.ShutString
import Derived.ChangeOld
import Derived.Below
import Derived.Carry
import Derived.SizedLaws
import Derived.Lib.SmallJoins
namespace Go.Proofs.Ytdmcbfmpnakdfaa.OwnStripeMends
open Go Go.RowKit Go.Proofs Go.Proofs.Ytdmcbfmpnakdfaa.Eng
theorem walk (w : World) (c_0 : Option Nat) (l_0 : List (List Nat)) (s_0 : Spot) (v_0 : Value) (ok_0 : Oa.slOk c_0 l_0 ∧ Eng.Secs l_0) (h_0 : ∀ (Γ : Ctx) (ρ : Ren) (id : Nat), Γ.W = w → ρ id = s_0 → (AV.sc (Oa.slA c_0 64 l_0.length id)).den ρ = v_0 ∧ ∀ b, Oa.secsB c_0 l_0 = some b → BlkSat Γ ρ w id b ∧ b.w = false) (x_1 : List Nat) (v_1 : Value) (ok_1 : x_1.length = 3 ∧ ∀ b ∈ x_1, b < 256) (h_1 : ∀ ρ : Ren, (AV.agg [.byt 3 x_1]).den ρ = v_1) (x_2 : List Nat) (v_2 : Value) (ok_2 : Eng.Sec x_2) (h_2 : ∀ ρ : Ren, (AV.agg [.byt 64 x_2]).den ρ = v_2) :
    Calls Try.prog 12 #[v_0, v_1, v_2] w fun e w' => e = .returned (.bool true) ∧ Below w.heap.size w w' := by
  let ρ : Ren := fun i => [s_0].getD i ⟨0, 0, 0⟩
  have g_0 := h_0 (top w 1 ρ) ρ 0 rfl rfl
  have g_1 := h_1 ρ
  have g_2 := h_2 ρ
  have := FunT.below (St.mends_ok c_0 l_0 x_1 x_2 ok_0 ok_1 ok_2) (by intro h; cases h) ρ w (Sat.top fun id b hb => ?_)
  · simp only [AV.dens, g_0.1, g_1, g_2] at this
    exact this.mono fun e w' ⟨⟨ρ', h1⟩, h2⟩ => ⟨h1, h2⟩
  · match id, hb with
    | 0, hb => exact g_0.2 b hb
    | _ + 1, hb => cases hb
end Go.Proofs.Ytdmcbfmpnakdfaa.OwnStripeMends
namespace Go.Proofs.Ytdmcbfmpnakdfaa.stripeMends
open Go.ChangeShapes Go.WideShapes Go.ChangeAt Go.RowKit
open Go.ChangeMaps (open_string shut_string)
set_option linter.unusedVariables false
theorem own : ownKnob Try.prog.godebug = none := by kernel_rfl
theorem Try.laidOut : laidOutB Try.prog = true := by kernel_rfl
set_option maxRecDepth 100000 in
theorem lifted (os : Os) (started : os.Started) (H : Type) (enc : TypeId × Value → H) :
    ReturnsInHanded {} Try.checked os 12 .any (Rows.stripeMendsSpec.pre6 enc Try.prog Try.f12 Rows.stripeMendsRow.domain false) (Rows.stripeMendsSpec.post enc Try.prog Try.f12 false true false false) := by
  refine returnsInHanded_of_change_sized (C := Try.checked) own started (by kernel_rfl) Try.func12
    (ChangeSpec.witness6 (enc := enc) (C := Try.checked) false ⟨#[], #[.slice none 0 0, .agg #[.int .u8 0, .int .u8 0, .int .u8 0], .agg (Array.replicate 64 (.int .u8 0))], []⟩ 8 (by kernel_rfl) (by kernel_rfl) (by kernel_rfl) (by kernel_rfl)) ?_
  intro W base args ds gs before hval0 hW hcnd hsz0 _
  have hval : ∀ (j : Nat) t v, Try.f12.params[j]? = some t → args[j]? = some v → Value.okWide Try.prog W .any base t v := hval0
  have hW' := hW
  have hWlt := hW.lt
  obtain ⟨p, q, hA0, hV, rfl, hfz, hnd⟩ := hW
  have hA : DataW.TrodAll enc Try.prog W 0 (fun _ => true) true Try.f12.params.toList args.toList ds p := hA0
  rw [Try.params12] at hA hval
  obtain ⟨v0, vs0, d0, ds0, p0, q0, hargs, rfl, rfl, h0, r0⟩ := trodAll_cons hA
  obtain ⟨v1, vs1, d1, ds1, p1, q1, rfl, rfl, rfl, h1, r1⟩ := trodAll_cons r0
  obtain ⟨v2, vs2, d2, ds2, p2, q2, rfl, rfl, rfl, h2, r2⟩ := trodAll_cons r1
  obtain ⟨rfl, rfl, rfl⟩ := trodAll_nil r2
  obtain rfl : args = #[v0, v1, v2] := by cases args; simp_all
  obtain ⟨rfl, rfl⟩ := trodVars_none hV
  have k0 := h0
  have l0 : ∀ x ∈ p0, x.block < W.heap.size := fun x hx => hWlt x (by simp [hx])
  have k1 := h1
  have l1 : ∀ x ∈ p1, x.block < W.heap.size := fun x hx => hWlt x (by simp [hx])
  have k2 := h2
  have l2 : ∀ x ∈ p2, x.block < W.heap.size := fun x hx => hWlt x (by simp [hx])
  obtain ⟨c_0, l_0, s_0, ok_0, g_0⟩ := Oa.open_secs (hval 0 22 v0 rfl rfl) h0
  obtain ⟨x_1, ok_1, g_1⟩ := Oa.open_three (hval 1 87 v1 rfl rfl) h1
  obtain ⟨x_2, ok_2, g_2⟩ := Oa.open_sec1 (hval 2 34 v2 rfl rfl) h2
  refine (OwnStripeMends.walk W c_0 l_0 s_0 v0 ok_0 g_0 x_1 v1 ok_1 g_1 x_2 v2 ok_2 g_2).mono fun e W' ⟨he, bel⟩ => ?_
  subst he
  exact ⟨_, rfl, _, _, _, [], _, [], hW', trodAll_mk1 (shut_bool Try.underlying4 _), (trodAll_cons_mk (Below.trod Try.laidOut (by kernel_rfl) (of_decide_eq_true (by kernel_rfl)) k0 bel l0) (trodAll_cons_mk (Below.trod Try.laidOut (by kernel_rfl) (of_decide_eq_true (by kernel_rfl)) k1 bel l1) (trodAll_cons_mk (Below.trod Try.laidOut (by kernel_rfl) (of_decide_eq_true (by kernel_rfl)) k2 bel l2) trodAll_mk0))), rfl, bel.frame _, fun h => by cases h⟩
theorem over : Rows.stripeMendsRow.holds Try.pinned (OpenSpec.ofChange Rows.stripeMendsSpec) :=
  OpenClaim.holds_of_wide 12 Try.f12 rfl rfl rfl rfl rfl rfl rfl ⟨rfl, rfl, rfl, rfl, rfl⟩ rfl rfl rfl rfl rfl (by kernel_rfl) Try.func12 (by kernel_rfl)
    (of_decide_eq_true (by kernel_rfl)) (by unfold Func.isWrapper; first | (rw [if_pos (by decide +kernel)]; kernel_rfl) | (rw [if_neg (by decide +kernel)]; exact ⟨rfl, rfl⟩))
    (fun os started H enc _ => lifted os started H enc)
theorem proved : Rows.StripeMendsSaid := over
#print axioms proved
end Go.Proofs.Ytdmcbfmpnakdfaa.stripeMends
namespace Go.Proofs.Ytdmcbfmpnakdfaa
/-- The row, under a short name, for the claim. -/
theorem stripeMends_holds : Rows.StripeMendsSaid := stripeMends.proved
end Go.Proofs.Ytdmcbfmpnakdfaa
