/- Lists of numbers that may be nil; sums and differences of naturals. -/
import Derived.Test.YtdmcbfmpnakdfaaQe
import Derived.IntWalk
namespace Go.Proofs.Ytdmcbfmpnakdfaa.Eng
open Go Go.Proofs Go.Proofs.Ytdmcbfmpnakdfaa.Gf
/-- A list that is nil, or a row. -/
def nrS (o : List Int) (id : Nat) : SV := match o with
  | [] => nilS
  | o => .sl id 0 1 o.length none
def nrB (o : List Int) : Option ABlk := match o with
  | [] => none
  | o => rowI o
theorem nr_row {T : List Int} (id : Nat) (h : 0 < T.length) : nrS T id = .sl id 0 1 T.length none ∧ nrB T = rowI T := by
  cases T with
  | nil => cases h
  | cons a r => exact ⟨rfl, rfl⟩
theorem add_nat {a b : Nat} (ha : a < 2 ^ 61) (hb : b < 2 ^ 61) : arithI .add .i64 (a : Nat) (b : Nat) = some ((a + b : Nat) : Int) := by
  show some (IntKind.i64.wrap _) = _
  rw [IntWalk.i64_in _ ⟨by omega, by omega⟩]
  push_cast; rfl
theorem subn {a b : Nat} (h : b ≤ a) (ha : a < 2 ^ 61) : arithI .sub .i64 (a : Nat) (b : Nat) = some ((a - b : Nat) : Int) := by
  show some (IntKind.i64.wrap _) = _
  rw [IntWalk.i64_in _ ⟨by omega, by omega⟩]
  congr 1; omega
end Go.Proofs.Ytdmcbfmpnakdfaa.Eng
