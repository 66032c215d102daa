/-
  No cell of these rows narrows 'for every input' (looked for: loops, veiled, ifaces, maps, wideKeys, modest, calm, conditions, laid).
  DERIVED. THE GIVEN ROWS OF THIS SEAT. 8 by the template 'for every input the law returns true; each argument reads behind the call as it read before'; 0 by the template 'total and deterministic' (their statements: YtdcanfjpnohhjaaTotals.lean).
  GIVEN WITH THE SEED: the statements are not yours to turn. If you find one false, say at which input.
  Laid BY PROGRAM, IN A SANDBOX (cutbox-rows.mjs): the forced cells as the released guide's own fill.sh prints them over the translation 8a91f5082e1040e0… (all of the seat's roots in one cut). By AI agents, Wed Nov 11 2026. No macro, syntax, notation, axiom, sorry.
-/
import Derived.Test.YtdcanfjpnohhjaaChecked
import GoSem.Claim
import GoSem.ClaimJoined
import GoSem.ClaimMapViews
import Derived.JoinedTies
import Derived.KernelRfl
namespace Go.Proofs.Ytdcanfjpnohhjaa
/- THE CELL 'sum', in the pinned program and in every row, IS THE sha256 OF THE DUMP (.gsa) THAT YtdcanfjpnohhjaaProg.lean LOADS. Nothing in Lean hashes anything: it is a label: what it is worth is what the hold of that sum in a sandbox is worth. -/
noncomputable def Try.pinned : Pinned := { name := "ytdcanfjpnohhjaa", sum := "8a91f5082e1040e0aa400c72a7de150a1695655c8f943c893adcb2da39b9bfca", checked := Try.checked }
namespace Rows
def none {H : Type} : Left H := { results := [], args := [] }

/-- 'casematelaw01.GfField': WHATEVER THE INPUT: true; the input reads as it did. -/
def gfFieldSpec : ChangeSpec := { name := "gfField", fn := fun _ => fun
  | [d1, d2, d3] => { results := [.lit (.bool true)], args := [d1, d2, d3] }
  | _ => none }
def gfFieldRow : OpenClaim := { program := "ytdcanfjpnohhjaa", sum := "8a91f5082e1040e0aa400c72a7de150a1695655c8f943c893adcb2da39b9bfca", func := "casemate/casematelaw01.GfField", spec := "gfField", apart := false }
def GfFieldSaid : Prop := gfFieldRow.holds Try.pinned (OpenSpec.ofChange gfFieldSpec)

/-- ITS FALSE NEIGHBOUR: 'it returns false'. Refute it at one input. -/
def gfFieldWrong : ChangeSpec := { name := "gfField", fn := fun _ => fun
  | [d1, d2, d3] => { results := [.lit (.bool false)], args := [d1, d2, d3] }
  | _ => none }
def GfFieldWrongFalsely : Prop := gfFieldRow.holds Try.pinned (OpenSpec.ofChange gfFieldWrong)

/-- 'casematelaw01.GfSquares': WHATEVER THE INPUT: true; the input reads as it did. -/
def gfSquaresSpec : ChangeSpec := { name := "gfSquares", fn := fun _ => fun
  | [d1, d2] => { results := [.lit (.bool true)], args := [d1, d2] }
  | _ => none }
def gfSquaresRow : OpenClaim := { program := "ytdcanfjpnohhjaa", sum := "8a91f5082e1040e0aa400c72a7de150a1695655c8f943c893adcb2da39b9bfca", func := "casemate/casematelaw01.GfSquares", spec := "gfSquares", apart := false }
def GfSquaresSaid : Prop := gfSquaresRow.holds Try.pinned (OpenSpec.ofChange gfSquaresSpec)

/-- ITS FALSE NEIGHBOUR: 'it returns false'. Refute it at one input. -/
def gfSquaresWrong : ChangeSpec := { name := "gfSquares", fn := fun _ => fun
  | [d1, d2] => { results := [.lit (.bool false)], args := [d1, d2] }
  | _ => none }
def GfSquaresWrongFalsely : Prop := gfSquaresRow.holds Try.pinned (OpenSpec.ofChange gfSquaresWrong)

/-- 'casematelaw01.GfPowers': WHATEVER THE INPUT: true; the input reads as it did. -/
def gfPowersSpec : ChangeSpec := { name := "gfPowers", fn := fun _ => fun
  | [d1, d2] => { results := [.lit (.bool true)], args := [d1, d2] }
  | _ => none }
def gfPowersRow : OpenClaim := { program := "ytdcanfjpnohhjaa", sum := "8a91f5082e1040e0aa400c72a7de150a1695655c8f943c893adcb2da39b9bfca", func := "casemate/casematelaw01.GfPowers", spec := "gfPowers", apart := false }
def GfPowersSaid : Prop := gfPowersRow.holds Try.pinned (OpenSpec.ofChange gfPowersSpec)

/-- ITS FALSE NEIGHBOUR: 'it returns false'. Refute it at one input. -/
def gfPowersWrong : ChangeSpec := { name := "gfPowers", fn := fun _ => fun
  | [d1, d2] => { results := [.lit (.bool false)], args := [d1, d2] }
  | _ => none }
def GfPowersWrongFalsely : Prop := gfPowersRow.holds Try.pinned (OpenSpec.ofChange gfPowersWrong)

/-- 'casematelaw01.GfCircle': WHATEVER THE INPUT: true; the input reads as it did. -/
def gfCircleSpec : ChangeSpec := { name := "gfCircle", fn := fun _ => fun
  | [d1, d2, d3] => { results := [.lit (.bool true)], args := [d1, d2, d3] }
  | _ => none }
def gfCircleRow : OpenClaim := { program := "ytdcanfjpnohhjaa", sum := "8a91f5082e1040e0aa400c72a7de150a1695655c8f943c893adcb2da39b9bfca", func := "casemate/casematelaw01.GfCircle", spec := "gfCircle", apart := false }
def GfCircleSaid : Prop := gfCircleRow.holds Try.pinned (OpenSpec.ofChange gfCircleSpec)

/-- ITS FALSE NEIGHBOUR: 'it returns false'. Refute it at one input. -/
def gfCircleWrong : ChangeSpec := { name := "gfCircle", fn := fun _ => fun
  | [d1, d2, d3] => { results := [.lit (.bool false)], args := [d1, d2, d3] }
  | _ => none }
def GfCircleWrongFalsely : Prop := gfCircleRow.holds Try.pinned (OpenSpec.ofChange gfCircleWrong)

/-- 'casematelaw01.GfMuls': WHATEVER THE INPUT: true; the input reads as it did. -/
def gfMulsSpec : ChangeSpec := { name := "gfMuls", fn := fun _ => fun
  | [d1, d2] => { results := [.lit (.bool true)], args := [d1, d2] }
  | _ => none }
def gfMulsRow : OpenClaim := { program := "ytdcanfjpnohhjaa", sum := "8a91f5082e1040e0aa400c72a7de150a1695655c8f943c893adcb2da39b9bfca", func := "casemate/casematelaw01.GfMuls", spec := "gfMuls", apart := false }
def GfMulsSaid : Prop := gfMulsRow.holds Try.pinned (OpenSpec.ofChange gfMulsSpec)

/-- ITS FALSE NEIGHBOUR: 'it returns false'. Refute it at one input. -/
def gfMulsWrong : ChangeSpec := { name := "gfMuls", fn := fun _ => fun
  | [d1, d2] => { results := [.lit (.bool false)], args := [d1, d2] }
  | _ => none }
def GfMulsWrongFalsely : Prop := gfMulsRow.holds Try.pinned (OpenSpec.ofChange gfMulsWrong)

/-- 'casematelaw01.GfKnown': WHATEVER THE INPUT: true; the input reads as it did. -/
def gfKnownSpec : ChangeSpec := { name := "gfKnown", fn := fun _ => fun
  | [] => { results := [.lit (.bool true)], args := [] }
  | _ => none }
def gfKnownRow : OpenClaim := { program := "ytdcanfjpnohhjaa", sum := "8a91f5082e1040e0aa400c72a7de150a1695655c8f943c893adcb2da39b9bfca", func := "casemate/casematelaw01.GfKnown", spec := "gfKnown", apart := false }
def GfKnownSaid : Prop := gfKnownRow.holds Try.pinned (OpenSpec.ofChange gfKnownSpec)

/-- ITS FALSE NEIGHBOUR: 'it returns false'. Refute it at one input. -/
def gfKnownWrong : ChangeSpec := { name := "gfKnown", fn := fun _ => fun
  | [] => { results := [.lit (.bool false)], args := [] }
  | _ => none }
def GfKnownWrongFalsely : Prop := gfKnownRow.holds Try.pinned (OpenSpec.ofChange gfKnownWrong)

/-- 'casematelaw01.GfInverse': WHATEVER THE INPUT: true; the input reads as it did. -/
def gfInverseSpec : ChangeSpec := { name := "gfInverse", fn := fun _ => fun
  | [d1, d2] => { results := [.lit (.bool true)], args := [d1, d2] }
  | _ => none }
def gfInverseRow : OpenClaim := { program := "ytdcanfjpnohhjaa", sum := "8a91f5082e1040e0aa400c72a7de150a1695655c8f943c893adcb2da39b9bfca", func := "casemate/casematelaw01.GfInverse", spec := "gfInverse", apart := false }
def GfInverseSaid : Prop := gfInverseRow.holds Try.pinned (OpenSpec.ofChange gfInverseSpec)

/-- ITS FALSE NEIGHBOUR: 'it returns false'. Refute it at one input. -/
def gfInverseWrong : ChangeSpec := { name := "gfInverse", fn := fun _ => fun
  | [d1, d2] => { results := [.lit (.bool false)], args := [d1, d2] }
  | _ => none }
def GfInverseWrongFalsely : Prop := gfInverseRow.holds Try.pinned (OpenSpec.ofChange gfInverseWrong)

/-- 'casematelaw01.GfTwo': WHATEVER THE INPUT: true; the input reads as it did. -/
def gfTwoSpec : ChangeSpec := { name := "gfTwo", fn := fun _ => fun
  | [d] => { results := [.lit (.bool true)], args := [d] }
  | _ => none }
def gfTwoRow : OpenClaim := { program := "ytdcanfjpnohhjaa", sum := "8a91f5082e1040e0aa400c72a7de150a1695655c8f943c893adcb2da39b9bfca", func := "casemate/casematelaw01.GfTwo", spec := "gfTwo", apart := false }
def GfTwoSaid : Prop := gfTwoRow.holds Try.pinned (OpenSpec.ofChange gfTwoSpec)

/-- ITS FALSE NEIGHBOUR: 'it returns false'. Refute it at one input. -/
def gfTwoWrong : ChangeSpec := { name := "gfTwo", fn := fun _ => fun
  | [d] => { results := [.lit (.bool false)], args := [d] }
  | _ => none }
def GfTwoWrongFalsely : Prop := gfTwoRow.holds Try.pinned (OpenSpec.ofChange gfTwoWrong)

/- THE SECOND FORM. 'bulk': how many values and letters a reading holds, each counted each time it is reached (what is shared counts as often as it is met; a slice's spare places count too). A statement '..UptoSaid' is the law's where the arguments, and the package variables that the reading takes, are together of bulk at most 1048576: NARROWER than '..Said'. Prove '..Said' where nothing that the law and all that it calls make is longer than what came in: it says more and counts as full. Else prove '..UptoSaid'. A law counts once. -/
mutual
def uptoBulk {H : Type} : DataW H → Nat
  | .lit (.string bytes) => bytes.length + 1
  | .lit _ => 1
  | .nil => 1
  | .ptr d => uptoBulk d + 1
  | .slice elems spare => uptoBulkAll elems + uptoBulkAll spare + 1
  | .agg parts => uptoBulkAll parts + 1
  | .iface _ d => uptoBulk d + 1
  | .map entries => uptoBulkEntries entries + 1
  | .held _ => 1
def uptoBulkAll {H : Type} : List (DataW H) → Nat
  | [] => 0
  | d :: r => uptoBulk d + uptoBulkAll r
def uptoBulkEntries {H : Type} : List (Lit × DataW H) → Nat
  | [] => 0
  | x :: r => uptoBulkEntry x + uptoBulkEntries r
def uptoBulkEntry {H : Type} : Lit × DataW H → Nat
  | (.string bytes, d) => bytes.length + uptoBulk d + 1
  | (_, d) => uptoBulk d + 1
 end
def uptoSmall : (H : Type) → List (DataW H) → Bool := fun _ ds => decide (uptoBulkAll ds ≤ 1048576)
def OpenSpec.upto (s : _root_.Go.ChangeSpec) : _root_.Go.OpenSpec := { _root_.Go.OpenSpec.ofChange s with cond := some uptoSmall }

/-- 'casematelaw01.GfField', WHERE WHAT IT READS IS OF BULK AT MOST 1048576: true; the input reads as it did. -/
def gfFieldUptoRow : OpenClaim := { program := "ytdcanfjpnohhjaa", sum := "8a91f5082e1040e0aa400c72a7de150a1695655c8f943c893adcb2da39b9bfca", func := "casemate/casematelaw01.GfField", spec := "gfField", apart := false, narrowed := true }
def GfFieldUptoSaid : Prop := gfFieldUptoRow.holds Try.pinned (OpenSpec.upto gfFieldSpec)

/-- 'casematelaw01.GfSquares', WHERE WHAT IT READS IS OF BULK AT MOST 1048576: true; the input reads as it did. -/
def gfSquaresUptoRow : OpenClaim := { program := "ytdcanfjpnohhjaa", sum := "8a91f5082e1040e0aa400c72a7de150a1695655c8f943c893adcb2da39b9bfca", func := "casemate/casematelaw01.GfSquares", spec := "gfSquares", apart := false, narrowed := true }
def GfSquaresUptoSaid : Prop := gfSquaresUptoRow.holds Try.pinned (OpenSpec.upto gfSquaresSpec)

/-- 'casematelaw01.GfPowers', WHERE WHAT IT READS IS OF BULK AT MOST 1048576: true; the input reads as it did. -/
def gfPowersUptoRow : OpenClaim := { program := "ytdcanfjpnohhjaa", sum := "8a91f5082e1040e0aa400c72a7de150a1695655c8f943c893adcb2da39b9bfca", func := "casemate/casematelaw01.GfPowers", spec := "gfPowers", apart := false, narrowed := true }
def GfPowersUptoSaid : Prop := gfPowersUptoRow.holds Try.pinned (OpenSpec.upto gfPowersSpec)

/-- 'casematelaw01.GfCircle', WHERE WHAT IT READS IS OF BULK AT MOST 1048576: true; the input reads as it did. -/
def gfCircleUptoRow : OpenClaim := { program := "ytdcanfjpnohhjaa", sum := "8a91f5082e1040e0aa400c72a7de150a1695655c8f943c893adcb2da39b9bfca", func := "casemate/casematelaw01.GfCircle", spec := "gfCircle", apart := false, narrowed := true }
def GfCircleUptoSaid : Prop := gfCircleUptoRow.holds Try.pinned (OpenSpec.upto gfCircleSpec)

/-- 'casematelaw01.GfMuls', WHERE WHAT IT READS IS OF BULK AT MOST 1048576: true; the input reads as it did. -/
def gfMulsUptoRow : OpenClaim := { program := "ytdcanfjpnohhjaa", sum := "8a91f5082e1040e0aa400c72a7de150a1695655c8f943c893adcb2da39b9bfca", func := "casemate/casematelaw01.GfMuls", spec := "gfMuls", apart := false, narrowed := true }
def GfMulsUptoSaid : Prop := gfMulsUptoRow.holds Try.pinned (OpenSpec.upto gfMulsSpec)

/-- 'casematelaw01.GfKnown', WHERE WHAT IT READS IS OF BULK AT MOST 1048576: true; the input reads as it did. -/
def gfKnownUptoRow : OpenClaim := { program := "ytdcanfjpnohhjaa", sum := "8a91f5082e1040e0aa400c72a7de150a1695655c8f943c893adcb2da39b9bfca", func := "casemate/casematelaw01.GfKnown", spec := "gfKnown", apart := false, narrowed := true }
def GfKnownUptoSaid : Prop := gfKnownUptoRow.holds Try.pinned (OpenSpec.upto gfKnownSpec)

/-- 'casematelaw01.GfInverse', WHERE WHAT IT READS IS OF BULK AT MOST 1048576: true; the input reads as it did. -/
def gfInverseUptoRow : OpenClaim := { program := "ytdcanfjpnohhjaa", sum := "8a91f5082e1040e0aa400c72a7de150a1695655c8f943c893adcb2da39b9bfca", func := "casemate/casematelaw01.GfInverse", spec := "gfInverse", apart := false, narrowed := true }
def GfInverseUptoSaid : Prop := gfInverseUptoRow.holds Try.pinned (OpenSpec.upto gfInverseSpec)

/-- 'casematelaw01.GfTwo', WHERE WHAT IT READS IS OF BULK AT MOST 1048576: true; the input reads as it did. -/
def gfTwoUptoRow : OpenClaim := { program := "ytdcanfjpnohhjaa", sum := "8a91f5082e1040e0aa400c72a7de150a1695655c8f943c893adcb2da39b9bfca", func := "casemate/casematelaw01.GfTwo", spec := "gfTwo", apart := false, narrowed := true }
def GfTwoUptoSaid : Prop := gfTwoUptoRow.holds Try.pinned (OpenSpec.upto gfTwoSpec)

end Rows
end Go.Proofs.Ytdcanfjpnohhjaa
