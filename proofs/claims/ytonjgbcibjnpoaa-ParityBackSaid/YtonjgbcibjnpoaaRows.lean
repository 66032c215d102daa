/-
  No cell of these rows narrows 'for every input' (looked for: loops, veiled, ifaces, maps, wideKeys, modest, calm, conditions, laid).
  DERIVED. THE GIVEN ROWS OF THIS SEAT. 7 by the template 'for every input the law returns true; each argument reads behind the call as it read before'; 0 by the template 'total and deterministic' (their statements: YtonjgbcibjnpoaaTotals.lean).
  GIVEN WITH THE SEED: the statements are not yours to turn. If you find one false, say at which input.
  Laid BY PROGRAM, IN A SANDBOX (cutbox-rows.mjs): the forced cells as the released guide's own fill.sh prints them over the translation 1aa448f20bd0f7f0… (all of the seat's roots in one cut). By AI agents, Wed Nov 11 2026. No macro, syntax, notation, axiom, sorry.
-/
import Derived.Test.YtonjgbcibjnpoaaChecked
import GoSem.Claim
import GoSem.ClaimJoined
import GoSem.ClaimMapViews
import Derived.JoinedTies
import Derived.KernelRfl
namespace Go.Proofs.Ytonjgbcibjnpoaa
/- THE CELL 'sum', in the pinned program and in every row, IS THE sha256 OF THE DUMP (.gsa) THAT YtonjgbcibjnpoaaProg.lean LOADS. Nothing in Lean hashes anything: it is a label: what it is worth is what the hold of that sum in a sandbox is worth. -/
noncomputable def Try.pinned : Pinned := { name := "ytonjgbcibjnpoaa", sum := "1aa448f20bd0f7f0a1eda6e94c105733e3584034ff0693993ac6a20ff7706c58", checked := Try.checked }
namespace Rows
def none {H : Type} : Left H := { results := [], args := [] }

/-- 'casematelaw02.ParityChange': WHATEVER THE INPUT: true; the input reads as it did. -/
def parityChangeSpec : ChangeSpec := { name := "parityChange", fn := fun _ => fun
  | [d1, d2, d3] => { results := [.lit (.bool true)], args := [d1, d2, d3] }
  | _ => none }
def parityChangeRow : OpenClaim := { program := "ytonjgbcibjnpoaa", sum := "1aa448f20bd0f7f0a1eda6e94c105733e3584034ff0693993ac6a20ff7706c58", func := "casemate/casematelaw02.ParityChange", spec := "parityChange", apart := false }
def ParityChangeSaid : Prop := parityChangeRow.holds Try.pinned (OpenSpec.ofChange parityChangeSpec)

/-- ITS FALSE NEIGHBOUR: 'it returns false'. Refute it at one input. -/
def parityChangeWrong : ChangeSpec := { name := "parityChange", fn := fun _ => fun
  | [d1, d2, d3] => { results := [.lit (.bool false)], args := [d1, d2, d3] }
  | _ => none }
def ParityChangeWrongFalsely : Prop := parityChangeRow.holds Try.pinned (OpenSpec.ofChange parityChangeWrong)

/-- 'casematelaw02.ParityAdds': WHATEVER THE INPUT: true; the input reads as it did. -/
def parityAddsSpec : ChangeSpec := { name := "parityAdds", fn := fun _ => fun
  | [d1, d2] => { results := [.lit (.bool true)], args := [d1, d2] }
  | _ => none }
def parityAddsRow : OpenClaim := { program := "ytonjgbcibjnpoaa", sum := "1aa448f20bd0f7f0a1eda6e94c105733e3584034ff0693993ac6a20ff7706c58", func := "casemate/casematelaw02.ParityAdds", spec := "parityAdds", apart := false }
def ParityAddsSaid : Prop := parityAddsRow.holds Try.pinned (OpenSpec.ofChange parityAddsSpec)

/-- ITS FALSE NEIGHBOUR: 'it returns false'. Refute it at one input. -/
def parityAddsWrong : ChangeSpec := { name := "parityAdds", fn := fun _ => fun
  | [d1, d2] => { results := [.lit (.bool false)], args := [d1, d2] }
  | _ => none }
def ParityAddsWrongFalsely : Prop := parityAddsRow.holds Try.pinned (OpenSpec.ofChange parityAddsWrong)

/-- 'casematelaw02.ParityOf': WHATEVER THE INPUT: true; the input reads as it did. -/
def parityOfSpec : ChangeSpec := { name := "parityOf", fn := fun _ => fun
  | [d] => { results := [.lit (.bool true)], args := [d] }
  | _ => none }
def parityOfRow : OpenClaim := { program := "ytonjgbcibjnpoaa", sum := "1aa448f20bd0f7f0a1eda6e94c105733e3584034ff0693993ac6a20ff7706c58", func := "casemate/casematelaw02.ParityOf", spec := "parityOf", apart := false }
def ParityOfSaid : Prop := parityOfRow.holds Try.pinned (OpenSpec.ofChange parityOfSpec)

/-- ITS FALSE NEIGHBOUR: 'it returns false'. Refute it at one input. -/
def parityOfWrong : ChangeSpec := { name := "parityOf", fn := fun _ => fun
  | [d] => { results := [.lit (.bool false)], args := [d] }
  | _ => none }
def ParityOfWrongFalsely : Prop := parityOfRow.holds Try.pinned (OpenSpec.ofChange parityOfWrong)

/-- 'casematelaw02.ParityTold': WHATEVER THE INPUT: true; the input reads as it did. -/
def parityToldSpec : ChangeSpec := { name := "parityTold", fn := fun _ => fun
  | [d1, d2, d3] => { results := [.lit (.bool true)], args := [d1, d2, d3] }
  | _ => none }
def parityToldRow : OpenClaim := { program := "ytonjgbcibjnpoaa", sum := "1aa448f20bd0f7f0a1eda6e94c105733e3584034ff0693993ac6a20ff7706c58", func := "casemate/casematelaw02.ParityTold", spec := "parityTold", apart := false }
def ParityToldSaid : Prop := parityToldRow.holds Try.pinned (OpenSpec.ofChange parityToldSpec)

/-- ITS FALSE NEIGHBOUR: 'it returns false'. Refute it at one input. -/
def parityToldWrong : ChangeSpec := { name := "parityTold", fn := fun _ => fun
  | [d1, d2, d3] => { results := [.lit (.bool false)], args := [d1, d2, d3] }
  | _ => none }
def ParityToldWrongFalsely : Prop := parityToldRow.holds Try.pinned (OpenSpec.ofChange parityToldWrong)

/-- 'casematelaw02.ParityFix': WHATEVER THE INPUT: true; the input reads as it did. -/
def parityFixSpec : ChangeSpec := { name := "parityFix", fn := fun _ => fun
  | [d1, d2] => { results := [.lit (.bool true)], args := [d1, d2] }
  | _ => none }
def parityFixRow : OpenClaim := { program := "ytonjgbcibjnpoaa", sum := "1aa448f20bd0f7f0a1eda6e94c105733e3584034ff0693993ac6a20ff7706c58", func := "casemate/casematelaw02.ParityFix", spec := "parityFix", unfollowed := true, recurses := true, apart := false }
def ParityFixSaid : Prop := parityFixRow.holds Try.pinned (OpenSpec.ofChange parityFixSpec)

/-- ITS FALSE NEIGHBOUR: 'it returns false'. Refute it at one input. -/
def parityFixWrong : ChangeSpec := { name := "parityFix", fn := fun _ => fun
  | [d1, d2] => { results := [.lit (.bool false)], args := [d1, d2] }
  | _ => none }
def ParityFixWrongFalsely : Prop := parityFixRow.holds Try.pinned (OpenSpec.ofChange parityFixWrong)

/-- 'casematelaw02.ParityBack': WHATEVER THE INPUT: true; the input reads as it did. -/
def parityBackSpec : ChangeSpec := { name := "parityBack", fn := fun _ => fun
  | [d1, d2, d3] => { results := [.lit (.bool true)], args := [d1, d2, d3] }
  | _ => none }
def parityBackRow : OpenClaim := { program := "ytonjgbcibjnpoaa", sum := "1aa448f20bd0f7f0a1eda6e94c105733e3584034ff0693993ac6a20ff7706c58", func := "casemate/casematelaw02.ParityBack", spec := "parityBack", unfollowed := true, recurses := true, apart := false }
def ParityBackSaid : Prop := parityBackRow.holds Try.pinned (OpenSpec.ofChange parityBackSpec)

/-- ITS FALSE NEIGHBOUR: 'it returns false'. Refute it at one input. -/
def parityBackWrong : ChangeSpec := { name := "parityBack", fn := fun _ => fun
  | [d1, d2, d3] => { results := [.lit (.bool false)], args := [d1, d2, d3] }
  | _ => none }
def ParityBackWrongFalsely : Prop := parityBackRow.holds Try.pinned (OpenSpec.ofChange parityBackWrong)

/-- 'casematelaw02.ParityKnown': WHATEVER THE INPUT: true; the input reads as it did. -/
def parityKnownSpec : ChangeSpec := { name := "parityKnown", fn := fun _ => fun
  | [] => { results := [.lit (.bool true)], args := [] }
  | _ => none }
def parityKnownRow : OpenClaim := { program := "ytonjgbcibjnpoaa", sum := "1aa448f20bd0f7f0a1eda6e94c105733e3584034ff0693993ac6a20ff7706c58", func := "casemate/casematelaw02.ParityKnown", spec := "parityKnown", unfollowed := true, recurses := true, apart := false }
def ParityKnownSaid : Prop := parityKnownRow.holds Try.pinned (OpenSpec.ofChange parityKnownSpec)

/-- ITS FALSE NEIGHBOUR: 'it returns false'. Refute it at one input. -/
def parityKnownWrong : ChangeSpec := { name := "parityKnown", fn := fun _ => fun
  | [] => { results := [.lit (.bool false)], args := [] }
  | _ => none }
def ParityKnownWrongFalsely : Prop := parityKnownRow.holds Try.pinned (OpenSpec.ofChange parityKnownWrong)

/- THE SECOND FORM. 'bulk': how many values and letters a reading holds, each counted each time it is reached (what is shared counts as often as it is met; a slice's spare places count too). A statement '..UptoSaid' is the law's where the arguments, and the package variables that the reading takes, are together of bulk at most 1048576: NARROWER than '..Said'. Prove '..Said' where nothing that the law and all that it calls make is longer than what came in: it says more and counts as full. Else prove '..UptoSaid'. A law counts once. -/
mutual
def uptoBulk {H : Type} : DataW H → Nat
  | .lit (.string bytes) => bytes.length + 1
  | .lit _ => 1
  | .nil => 1
  | .ptr d => uptoBulk d + 1
  | .slice elems spare => uptoBulkAll elems + uptoBulkAll spare + 1
  | .agg parts => uptoBulkAll parts + 1
  | .iface _ d => uptoBulk d + 1
  | .map entries => uptoBulkEntries entries + 1
  | .held _ => 1
def uptoBulkAll {H : Type} : List (DataW H) → Nat
  | [] => 0
  | d :: r => uptoBulk d + uptoBulkAll r
def uptoBulkEntries {H : Type} : List (Lit × DataW H) → Nat
  | [] => 0
  | x :: r => uptoBulkEntry x + uptoBulkEntries r
def uptoBulkEntry {H : Type} : Lit × DataW H → Nat
  | (.string bytes, d) => bytes.length + uptoBulk d + 1
  | (_, d) => uptoBulk d + 1
 end
def uptoSmall : (H : Type) → List (DataW H) → Bool := fun _ ds => decide (uptoBulkAll ds ≤ 1048576)
def OpenSpec.upto (s : _root_.Go.ChangeSpec) : _root_.Go.OpenSpec := { _root_.Go.OpenSpec.ofChange s with cond := some uptoSmall }

/-- 'casematelaw02.ParityChange', WHERE WHAT IT READS IS OF BULK AT MOST 1048576: true; the input reads as it did. -/
def parityChangeUptoRow : OpenClaim := { program := "ytonjgbcibjnpoaa", sum := "1aa448f20bd0f7f0a1eda6e94c105733e3584034ff0693993ac6a20ff7706c58", func := "casemate/casematelaw02.ParityChange", spec := "parityChange", apart := false, narrowed := true }
def ParityChangeUptoSaid : Prop := parityChangeUptoRow.holds Try.pinned (OpenSpec.upto parityChangeSpec)

/-- 'casematelaw02.ParityAdds', WHERE WHAT IT READS IS OF BULK AT MOST 1048576: true; the input reads as it did. -/
def parityAddsUptoRow : OpenClaim := { program := "ytonjgbcibjnpoaa", sum := "1aa448f20bd0f7f0a1eda6e94c105733e3584034ff0693993ac6a20ff7706c58", func := "casemate/casematelaw02.ParityAdds", spec := "parityAdds", apart := false, narrowed := true }
def ParityAddsUptoSaid : Prop := parityAddsUptoRow.holds Try.pinned (OpenSpec.upto parityAddsSpec)

/-- 'casematelaw02.ParityOf', WHERE WHAT IT READS IS OF BULK AT MOST 1048576: true; the input reads as it did. -/
def parityOfUptoRow : OpenClaim := { program := "ytonjgbcibjnpoaa", sum := "1aa448f20bd0f7f0a1eda6e94c105733e3584034ff0693993ac6a20ff7706c58", func := "casemate/casematelaw02.ParityOf", spec := "parityOf", apart := false, narrowed := true }
def ParityOfUptoSaid : Prop := parityOfUptoRow.holds Try.pinned (OpenSpec.upto parityOfSpec)

/-- 'casematelaw02.ParityTold', WHERE WHAT IT READS IS OF BULK AT MOST 1048576: true; the input reads as it did. -/
def parityToldUptoRow : OpenClaim := { program := "ytonjgbcibjnpoaa", sum := "1aa448f20bd0f7f0a1eda6e94c105733e3584034ff0693993ac6a20ff7706c58", func := "casemate/casematelaw02.ParityTold", spec := "parityTold", apart := false, narrowed := true }
def ParityToldUptoSaid : Prop := parityToldUptoRow.holds Try.pinned (OpenSpec.upto parityToldSpec)

/-- 'casematelaw02.ParityFix', WHERE WHAT IT READS IS OF BULK AT MOST 1048576: true; the input reads as it did. -/
def parityFixUptoRow : OpenClaim := { program := "ytonjgbcibjnpoaa", sum := "1aa448f20bd0f7f0a1eda6e94c105733e3584034ff0693993ac6a20ff7706c58", func := "casemate/casematelaw02.ParityFix", spec := "parityFix", unfollowed := true, recurses := true, apart := false, narrowed := true }
def ParityFixUptoSaid : Prop := parityFixUptoRow.holds Try.pinned (OpenSpec.upto parityFixSpec)

/-- 'casematelaw02.ParityBack', WHERE WHAT IT READS IS OF BULK AT MOST 1048576: true; the input reads as it did. -/
def parityBackUptoRow : OpenClaim := { program := "ytonjgbcibjnpoaa", sum := "1aa448f20bd0f7f0a1eda6e94c105733e3584034ff0693993ac6a20ff7706c58", func := "casemate/casematelaw02.ParityBack", spec := "parityBack", unfollowed := true, recurses := true, apart := false, narrowed := true }
def ParityBackUptoSaid : Prop := parityBackUptoRow.holds Try.pinned (OpenSpec.upto parityBackSpec)

/-- 'casematelaw02.ParityKnown', WHERE WHAT IT READS IS OF BULK AT MOST 1048576: true; the input reads as it did. -/
def parityKnownUptoRow : OpenClaim := { program := "ytonjgbcibjnpoaa", sum := "1aa448f20bd0f7f0a1eda6e94c105733e3584034ff0693993ac6a20ff7706c58", func := "casemate/casematelaw02.ParityKnown", spec := "parityKnown", unfollowed := true, recurses := true, apart := false, narrowed := true }
def ParityKnownUptoSaid : Prop := parityKnownUptoRow.holds Try.pinned (OpenSpec.upto parityKnownSpec)

end Rows
end Go.Proofs.Ytonjgbcibjnpoaa
