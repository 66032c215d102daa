/- The laws' arguments; StripeStays, walked whole. -/
import Derived.Test.YtdmcbfmpnakdfaaRk
namespace Go.Proofs.Ytdmcbfmpnakdfaa.Oa
open Go Go.Proofs.Ytdmcbfmpnakdfaa.Eng
/-- A slice that may be nil (none), or of a capacity. -/
def slA (c : Option Nat) (sz n id : Nat) : SV := match c with
  | none => nilS
  | some k => .sl id 0 sz n (some k)
def secsB (c : Option Nat) (l : List (List Nat)) : Option ABlk := match c with
  | none => none
  | some _ => rowS l
def slOk {α : Type} (c : Option Nat) (l : List α) : Prop := match c with
  | none => l = []
  | some k => l.length ≤ k ∧ k < 2 ^ 63
/-- An act. -/
structure ActS where
  w : Int
  c : Int
  s : List Nat
def actS (a : ActS) : Segs := [.one (.raw (.int .i64 a.w)), .one (.raw (.int .i64 a.c)), .byt 64 a.s]
abbrev rowA (l : List ActS) : Option ABlk := some (.row .ro 83 66 (l.map actS) [])
def actB (c : Option Nat) (l : List ActS) : Option ABlk := match c with
  | none => none
  | some _ => rowA l
structure ActS.Ok (a : ActS) : Prop where
  w : -2 ^ 63 ≤ a.w ∧ a.w < 2 ^ 63
  c : -2 ^ 63 ≤ a.c ∧ a.c < 2 ^ 63
  s : Sec a.s
end Go.Proofs.Ytdmcbfmpnakdfaa.Oa
namespace Go.Proofs.Ytdmcbfmpnakdfaa.Eng.St
open Go Go.RowKit Go.Shelf Go.Proofs Go.Proofs.Ytdmcbfmpnakdfaa.Gf Go.Proofs.Ytdmcbfmpnakdfaa.Rf Go.Proofs.Ytdmcbfmpnakdfaa.Oa
set_option maxRecDepth 20000
set_option maxHeartbeats 8000000
theorem col_pos {n : Nat} {c : Int} (hn : 0 < n) (h : ¬ c.tmod n < 0) : c.tmod n = ((c % (n : Int)).toNat : Int) := by
  have h0 := Int.emod_nonneg c (show (n : Int) ≠ 0 by omega)
  have h1 := Int.emod_lt_of_pos c (show (0 : Int) < n by omega)
  have := @Int.tmod_eq_emod c n
  split at this <;> simp at this <;> omega
theorem col_neg {n : Nat} {c : Int} (hn : 0 < n) (h : c.tmod n < 0) : c.tmod n + n = ((c % (n : Int)).toNat : Int) := by
  have h0 := Int.emod_nonneg c (show (n : Int) ≠ 0 by omega)
  have h1 := Int.emod_lt_of_pos c (show (0 : Int) < n by omega)
  have := @Int.tmod_eq_emod c n
  split at this <;> simp at this <;> omega
/-- A column, counted modulo how many there are. -/
def colOf (n : Nat) (c : Int) : Nat := (c % (n : Int)).toNat
theorem colOf_lt {n : Nat} (hn : 0 < n) (c : Int) : colOf n c < n := by
  have h0 := Int.emod_nonneg c (show (n : Int) ≠ 0 by omega)
  have h1 := Int.emod_lt_of_pos c (show (0 : Int) < n by omega)
  unfold colOf; omega
theorem col_rem {n : Nat} (hn : 0 < n) (hb : n < 2 ^ 62) (c : Int) : arithI .rem .i64 c (n : Nat) = some (c.tmod n) := by
  obtain ⟨m, rfl⟩ : ∃ m, n = m + 1 := ⟨n - 1, by omega⟩
  rfl
theorem col_add {n : Nat} {c : Int} (hn : 0 < n) (hb : n < 2 ^ 62) (h : c.tmod n < 0) : arithI .add .i64 (c.tmod n) (n : Nat) = some ((colOf n c : Nat) : Int) := by
  have h1 := col_neg hn h
  have h2 := colOf_lt hn c
  show some (IntKind.i64.wrap _) = _
  rw [h1]
  unfold colOf at h2 ⊢
  rw [IntWalk.i64_in _ ⟨by omega, by omega⟩]
theorem act_at {l : List ActS} {k : Nat} (hk : k < l.length) : (l.map actS)[0 + (k : Int).toNat]? = some (actS l[k]) := by
  simp [hk]
theorem rig_bad (c : Option Nat) (T : List (List Nat)) (hc : slOk c T) (hT : Secs T) (hn : ¬ (2 ≤ T.length ∧ T.length ≤ 62)) : FunT Try.prog 58 [.sc (slA c 64 T.length 0)] [secsB c T] nilP [secsB c T] := by
  cases c with
  | none =>
    obtain rfl : T = [] := hc
    have n0 := new_bad 2 (by decide)
    refine FunT.ev tabOk mixed Try.func58 rfl ?_
    conv => whnf
    repeat (first | (refine ⟨(by kernel_rfl : chkR _ _ _ _ = true), ?_⟩; conv => whnf) | (refine EvOr.go ?_; conv => whnf))
    refine ⟨2, rfl, ?_⟩
    conv => whnf
    repeat (first | (refine ⟨(by kernel_rfl : chkR _ _ _ _ = true), ?_⟩; conv => whnf) | (refine EvOr.go ?_; conv => whnf))
    refine CallG.use n0 c50 [] [] ?_ ?_ ?_ ?_ ?_ ?_; rfl; rfl; kernel_rfl; rfl; rfl
    conv => whnf
    repeat (first | (refine ⟨(by kernel_rfl : chkR _ _ _ _ = true), ?_⟩; conv => whnf) | (refine EvOr.go ?_; conv => whnf))
    refine CallG.use of_nil c22 [] [] ?_ ?_ ?_ ?_ ?_ ?_; rfl; rfl; kernel_rfl; rfl; rfl
    conv => whnf
    repeat (first | (refine ⟨(by kernel_rfl : chkR _ _ _ _ = true), ?_⟩; conv => whnf) | (refine EvOr.go ?_; conv => whnf))
    repeat (intro c hc; simp [] at hc; subst hc; (conv => whnf); repeat (first | (refine ⟨(by kernel_rfl : chkR _ _ _ _ = true), ?_⟩; (conv => whnf)) | (refine EvOr.go ?_; (conv => whnf))))
    exact retQ.one rfl (.inr rfl) rfl (Nat.le_of_ble_eq_true rfl) rfl
  | some k =>
    have hb : T.length ≤ k ∧ k < 2 ^ 63 := hc
    have e1 : arithI .add .i64 (T.length : Nat) 2 = some (IntKind.i64.wrap ((T.length : Nat) + 2)) := rfl
    have n0 := new_bad (IntKind.i64.wrap ((T.length : Nat) + 2)) (by rw [IntKind.wrap_i64]; omega)
    have o0 := of_ok T T.length (some k) hT (Nat.le_refl _)
    generalize ofE T.length = e at *
    generalize ofP T T.length = p at *
    generalize ofQ T T.length = q at *
    show FunT Try.prog 58 [.sc (.sl 0 0 64 T.length (some k))] [rowS T] nilP [rowS T]
    refine FunT.ev tabOk mixed Try.func58 rfl ?_
    conv => whnf
    repeat (first | (refine ⟨(by kernel_rfl : chkR _ _ _ _ = true), ?_⟩; conv => whnf) | (refine EvOr.go ?_; conv => whnf))
    refine ⟨_, e1, ?_⟩
    conv => whnf
    repeat (first | (refine ⟨(by kernel_rfl : chkR _ _ _ _ = true), ?_⟩; conv => whnf) | (refine EvOr.go ?_; conv => whnf))
    refine CallG.use n0 c50 [] [] ?_ ?_ ?_ ?_ ?_ ?_; rfl; rfl; kernel_rfl; rfl; rfl
    conv => whnf
    repeat (first | (refine ⟨(by kernel_rfl : chkR _ _ _ _ = true), ?_⟩; conv => whnf) | (refine EvOr.go ?_; conv => whnf))
    refine CallG.use o0 c22 [0] [] ?_ ?_ ?_ ?_ ?_ ?_; rfl; rfl; kernel_rfl; rfl; rfl
    conv => whnf
    repeat (first | (refine ⟨(by kernel_rfl : chkR _ _ _ _ = true), ?_⟩; conv => whnf) | (refine EvOr.go ?_; conv => whnf))
    repeat (intro c hc; simp [] at hc; subst hc; (conv => whnf); repeat (first | (refine ⟨(by kernel_rfl : chkR _ _ _ _ = true), ?_⟩; (conv => whnf)) | (refine EvOr.go ?_; (conv => whnf))))
    exact retQ.one rfl (.inr rfl) rfl (Nat.le_of_ble_eq_true rfl) rfl
end Go.Proofs.Ytdmcbfmpnakdfaa.Eng.St
