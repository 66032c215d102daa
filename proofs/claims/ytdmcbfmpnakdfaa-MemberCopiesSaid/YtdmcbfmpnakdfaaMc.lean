/- A member: an image copied; which writes are kept. -/
import Derived.Test.YtdmcbfmpnakdfaaMb
namespace Go.Proofs.Ytdmcbfmpnakdfaa.Eng
open Go Go.Proofs
set_option maxRecDepth 20000
set_option maxHeartbeats 4000000
theorem cloneFn : CloneFn Try.prog 125 := ⟨Try.f125, Try.func125, by kernel_rfl, by kernel_rfl, by kernel_rfl, by kernel_rfl⟩
theorem clone_ok (M : Img) : FunT Try.prog 90 [.sc (.mp 0)] [imB M] (.sc (.mp 1)) [imB M, imB M] := by
  refine FunT.ev tabOk mixed Try.func90 rfl ?_
  conv => whnf
  repeat (first | (refine ⟨(by kernel_rfl : chkR _ _ _ _ = true), ?_⟩; conv => whnf) | (refine EvOr.go ?_; conv => whnf))
  refine .inr (clone_use rfl rfl cloneFn rfl rfl rfl ?_)
  conv => whnf
  repeat (first | (refine ⟨(by kernel_rfl : chkR _ _ _ _ = true), ?_⟩; conv => whnf) | (refine EvOr.go ?_; conv => whnf))
  exact retQ.one rfl (.inr rfl) rfl (Nat.le_of_ble_eq_true rfl) rfl
def noPick : Nat → Bool := fun _ => false
def allPick : Nat → Bool := fun _ => true
theorem keepF_ok (k : Nat) : FunT Try.prog 88 [iv (k : Nat)] [] (bv (allPick k)) [] := by
  refine FunT.ev tabOk mixed Try.func88 rfl ?_
  conv => whnf
  repeat (first | (refine ⟨(by kernel_rfl : chkR _ _ _ _ = true), ?_⟩; conv => whnf) | (refine EvOr.go ?_; conv => whnf))
  exact retQ.one rfl (.inr rfl) rfl (Nat.le_of_ble_eq_true rfl) rfl
/-- Which of the log's writes a crash keeps. -/
def picked (pk : List Int) (k : Nat) : Bool := decide (k < pk.length) && pk.getD k 0 != 0
/-- Picks: a slice of bytes; or none. -/
abbrev pkR (pk : List Int) : Option ABlk := some (.row .ro 5 1 (pk.map fun b => [.one (.raw (.int .u8 b))]) [])
abbrev boxR (pk : List Int) (id : Nat) : Option ABlk := some (.row .one 44 1 [[.one (.sl id 0 1 pk.length none)]] [id])
abbrev boxN (a : Option Addr) (cp : Nat) : Option ABlk := some (.row .one 44 1 [[.one (.raw (.slice a 0 cp))]] [])
theorem keepR_ok (pk : List Int) (k : Nat) : FunT Try.prog 93 [iv (k : Nat), .sc (.ptr 0 0 1 0)] [boxR pk 1, pkR pk] (bv (picked pk k)) [boxR pk 1, pkR pk] := by
  refine FunT.ev tabOk mixed Try.func93 rfl ?_
  conv => whnf
  repeat (first | (refine ⟨(by kernel_rfl : chkR _ _ _ _ = true), ?_⟩; conv => whnf) | (refine EvOr.go ?_; conv => whnf))
  intro c hc
  cases c
  · conv => whnf
    repeat (first | (refine ⟨(by kernel_rfl : chkR _ _ _ _ = true), ?_⟩; conv => whnf) | (refine EvOr.go ?_; conv => whnf))
    refine retQ.one rfl (.inr rfl) ?_ (Nat.le_of_ble_eq_true rfl) rfl
    have : picked pk k = false := by unfold picked; simp at hc; rw [decide_eq_false (by omega)]; rfl
    rw [this]; rfl
  · conv => whnf
    repeat (first | (refine ⟨(by kernel_rfl : chkR _ _ _ _ = true), ?_⟩; conv => whnf) | (refine EvOr.go ?_; conv => whnf))
    have hk : k < pk.length := by simpa using hc
    refine ⟨⟨by omega, by omega⟩, ?_⟩
    conv => whnf
    repeat (first | (refine ⟨(by kernel_rfl : chkR _ _ _ _ = true), ?_⟩; conv => whnf) | (refine EvOr.go ?_; conv => whnf))
    refine ⟨_, by rw [Nat.zero_add, Int.toNat_natCast, List.getElem?_map, List.getElem?_eq_getElem hk]; rfl, ?_⟩
    conv => whnf
    repeat (first | (refine ⟨(by kernel_rfl : chkR _ _ _ _ = true), ?_⟩; conv => whnf) | (refine EvOr.go ?_; conv => whnf))
    intro c hc
    have : picked pk k = c := by
      unfold picked
      rw [decide_eq_true hk, hc]
      simp [hk]
    cases c
    · conv => whnf
      repeat (first | (refine ⟨(by kernel_rfl : chkR _ _ _ _ = true), ?_⟩; conv => whnf) | (refine EvOr.go ?_; conv => whnf))
      refine retQ.one rfl (.inr rfl) ?_ (Nat.le_of_ble_eq_true rfl) rfl
      rw [this]; rfl
    · conv => whnf
      repeat (first | (refine ⟨(by kernel_rfl : chkR _ _ _ _ = true), ?_⟩; conv => whnf) | (refine EvOr.go ?_; conv => whnf))
      refine retQ.one rfl (.inr rfl) ?_ (Nat.le_of_ble_eq_true rfl) rfl
      rw [this]; rfl
theorem keepN_ok (a : Option Addr) (cp k : Nat) : FunT Try.prog 93 [iv (k : Nat), .sc (.ptr 0 0 1 0)] [boxN a cp] (bv (noPick k)) [boxN a cp] := by
  refine FunT.ev tabOk mixed Try.func93 rfl ?_
  conv => whnf
  repeat (first | (refine ⟨(by kernel_rfl : chkR _ _ _ _ = true), ?_⟩; conv => whnf) | (refine EvOr.go ?_; conv => whnf))
  intro c hc
  obtain rfl : c = false := by first | (rw [hc]; rfl) | (rw [hc]; simp; done) | (rw [hc]; simp; omega) | (simp at hc; omega)
  conv => whnf
  repeat (first | (refine ⟨(by kernel_rfl : chkR _ _ _ _ = true), ?_⟩; conv => whnf) | (refine EvOr.go ?_; conv => whnf))
  exact retQ.one rfl (.inr rfl) rfl (Nat.le_of_ble_eq_true rfl) rfl
theorem inc_nat {k : Nat} (hk : k < 2 ^ 62) : arithI .add .i64 (k : Int) 1 = some ((k + 1 : Nat) : Int) := by
  show some (IntKind.i64.wrap ((k : Int) + 1)) = _
  rw [IntWalk.i64_in _ ⟨by omega, by omega⟩]
  push_cast; rfl
theorem log_get {Ml : Img} {J : List Segs} {k : Nat} (hk : k < Ml.length) : (Ml.map encW ++ J)[0 + (k : Int).toNat]? = some (encW Ml[k]) := by
  rw [Nat.zero_add, Int.toNat_natCast, List.getElem?_append_left (by simpa using hk)]
  simp [hk]
def kept (D W : Img) (keep : Nat → Bool) : Nat → Img
  | 0 => D
  | k + 1 => match W[k]? with
    | some p => if keep k then putI (kept D W keep k) p.1 p.2 else kept D W keep k
    | none => kept D W keep k
theorem kept_succ {D W : Img} {keep : Nat → Bool} {k : Nat} (hk : k < W.length) : kept D W keep (k + 1) = if keep k then putI (kept D W keep k) W[k].1 W[k].2 else kept D W keep k := by
  simp only [kept, List.getElem?_eq_getElem hk]
/-- A member behind its log is settled. -/
abbrev crashed (M : Mem) (keep : Nat → Bool) : Mem := { M with seen := kept M.dur M.log keep M.log.length, dur := kept M.dur M.log keep M.log.length, log := [] }
abbrev hM4 (M : Mem) (lg : Lg) (mk : Mk) : LHp := [some (memB M lg mk), imB M.seen, imB M.dur, logB M lg, none]
abbrev cB (M : Mem) (mk : Mk) (keep : Nat → Bool) (a : Nat) : Option ABlk := some (memG (crashed M keep) .nil mk a 2 3 4)
abbrev cD (M : Mem) (keep : Nat → Bool) : Option ABlk := imB (kept M.dur M.log keep M.log.length)
end Go.Proofs.Ytdmcbfmpnakdfaa.Eng
