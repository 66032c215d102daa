/-
  No cell of these rows narrows 'for every input' (looked for: loops, veiled, ifaces, maps, wideKeys, modest, calm, conditions, laid).
  DERIVED. THE GIVEN ROWS OF THIS SEAT. 6 by the template 'for every input the law returns true; each argument reads behind the call as it read before'; 0 by the template 'total and deterministic' (their statements: YthmdpcdcbfndiaaTotals.lean).
  GIVEN WITH THE SEED: the statements are not yours to turn. If you find one false, say at which input.
  Laid BY PROGRAM, IN A SANDBOX (cutbox-rows.mjs): the forced cells as the released guide's own fill.sh prints them over the translation 3dc1ccc16dd79c72… (all of the seat's roots in one cut). By AI agents, Wed Nov 11 2026. No macro, syntax, notation, axiom, sorry.
-/
import Derived.Test.YthmdpcdcbfndiaaChecked
import GoSem.Claim
import GoSem.ClaimJoined
import GoSem.ClaimMapViews
import Derived.JoinedTies
import Derived.KernelRfl
namespace Go.Proofs.Ythmdpcdcbfndiaa
/- THE CELL 'sum', in the pinned program and in every row, IS THE sha256 OF THE DUMP (.gsa) THAT YthmdpcdcbfndiaaProg.lean LOADS. Nothing in Lean hashes anything: it is a label: what it is worth is what the hold of that sum in a sandbox is worth. -/
noncomputable def Try.pinned : Pinned := { name := "ythmdpcdcbfndiaa", sum := "3dc1ccc16dd79c7270f8a0fe3b7ba9d1ec70cf7792cad4210abe6db5a71ee68f", checked := Try.checked }
namespace Rows
def none {H : Type} : Left H := { results := [], args := [] }

/-- 'casematelaw14.GeomCounts': WHATEVER THE INPUT: true; the input reads as it did. -/
def geomCountsSpec : ChangeSpec := { name := "geomCounts", fn := fun _ => fun
  | [d] => { results := [.lit (.bool true)], args := [d] }
  | _ => none }
def geomCountsRow : OpenClaim := { program := "ythmdpcdcbfndiaa", sum := "3dc1ccc16dd79c7270f8a0fe3b7ba9d1ec70cf7792cad4210abe6db5a71ee68f", func := "casemate/casematelaw14.GeomCounts", spec := "geomCounts", apart := false }
def GeomCountsSaid : Prop := geomCountsRow.holds Try.pinned (OpenSpec.ofChange geomCountsSpec)

/-- ITS FALSE NEIGHBOUR: 'it returns false'. Refute it at one input. -/
def geomCountsWrong : ChangeSpec := { name := "geomCounts", fn := fun _ => fun
  | [d] => { results := [.lit (.bool false)], args := [d] }
  | _ => none }
def GeomCountsWrongFalsely : Prop := geomCountsRow.holds Try.pinned (OpenSpec.ofChange geomCountsWrong)

/-- 'casematelaw14.GeomRoom': WHATEVER THE INPUT: true; the input reads as it did. -/
def geomRoomSpec : ChangeSpec := { name := "geomRoom", fn := fun _ => fun
  | [d] => { results := [.lit (.bool true)], args := [d] }
  | _ => none }
def geomRoomRow : OpenClaim := { program := "ythmdpcdcbfndiaa", sum := "3dc1ccc16dd79c7270f8a0fe3b7ba9d1ec70cf7792cad4210abe6db5a71ee68f", func := "casemate/casematelaw14.GeomRoom", spec := "geomRoom", apart := false }
def GeomRoomSaid : Prop := geomRoomRow.holds Try.pinned (OpenSpec.ofChange geomRoomSpec)

/-- ITS FALSE NEIGHBOUR: 'it returns false'. Refute it at one input. -/
def geomRoomWrong : ChangeSpec := { name := "geomRoom", fn := fun _ => fun
  | [d] => { results := [.lit (.bool false)], args := [d] }
  | _ => none }
def GeomRoomWrongFalsely : Prop := geomRoomRow.holds Try.pinned (OpenSpec.ofChange geomRoomWrong)

/-- 'casematelaw14.GeomGrows': WHATEVER THE INPUT: true; the input reads as it did. -/
def geomGrowsSpec : ChangeSpec := { name := "geomGrows", fn := fun _ => fun
  | [d] => { results := [.lit (.bool true)], args := [d] }
  | _ => none }
def geomGrowsRow : OpenClaim := { program := "ythmdpcdcbfndiaa", sum := "3dc1ccc16dd79c7270f8a0fe3b7ba9d1ec70cf7792cad4210abe6db5a71ee68f", func := "casemate/casematelaw14.GeomGrows", spec := "geomGrows", apart := false }
def GeomGrowsSaid : Prop := geomGrowsRow.holds Try.pinned (OpenSpec.ofChange geomGrowsSpec)

/-- ITS FALSE NEIGHBOUR: 'it returns false'. Refute it at one input. -/
def geomGrowsWrong : ChangeSpec := { name := "geomGrows", fn := fun _ => fun
  | [d] => { results := [.lit (.bool false)], args := [d] }
  | _ => none }
def GeomGrowsWrongFalsely : Prop := geomGrowsRow.holds Try.pinned (OpenSpec.ofChange geomGrowsWrong)

/-- 'casematelaw14.GeomPlaces': WHATEVER THE INPUT: true; the input reads as it did. -/
def geomPlacesSpec : ChangeSpec := { name := "geomPlaces", fn := fun _ => fun
  | [d1, d2, d3] => { results := [.lit (.bool true)], args := [d1, d2, d3] }
  | _ => none }
def geomPlacesRow : OpenClaim := { program := "ythmdpcdcbfndiaa", sum := "3dc1ccc16dd79c7270f8a0fe3b7ba9d1ec70cf7792cad4210abe6db5a71ee68f", func := "casemate/casematelaw14.GeomPlaces", spec := "geomPlaces", unfollowed := true, recurses := true, apart := false }
def GeomPlacesSaid : Prop := geomPlacesRow.holds Try.pinned (OpenSpec.ofChange geomPlacesSpec)

/-- ITS FALSE NEIGHBOUR: 'it returns false'. Refute it at one input. -/
def geomPlacesWrong : ChangeSpec := { name := "geomPlaces", fn := fun _ => fun
  | [d1, d2, d3] => { results := [.lit (.bool false)], args := [d1, d2, d3] }
  | _ => none }
def GeomPlacesWrongFalsely : Prop := geomPlacesRow.holds Try.pinned (OpenSpec.ofChange geomPlacesWrong)

/-- 'casematelaw14.GeomBack': WHATEVER THE INPUT: true; the input reads as it did. -/
def geomBackSpec : ChangeSpec := { name := "geomBack", fn := fun _ => fun
  | [d1, d2, d3] => { results := [.lit (.bool true)], args := [d1, d2, d3] }
  | _ => none }
def geomBackRow : OpenClaim := { program := "ythmdpcdcbfndiaa", sum := "3dc1ccc16dd79c7270f8a0fe3b7ba9d1ec70cf7792cad4210abe6db5a71ee68f", func := "casemate/casematelaw14.GeomBack", spec := "geomBack", unfollowed := true, recurses := true, apart := false }
def GeomBackSaid : Prop := geomBackRow.holds Try.pinned (OpenSpec.ofChange geomBackSpec)

/-- ITS FALSE NEIGHBOUR: 'it returns false'. Refute it at one input. -/
def geomBackWrong : ChangeSpec := { name := "geomBack", fn := fun _ => fun
  | [d1, d2, d3] => { results := [.lit (.bool false)], args := [d1, d2, d3] }
  | _ => none }
def GeomBackWrongFalsely : Prop := geomBackRow.holds Try.pinned (OpenSpec.ofChange geomBackWrong)

/-- 'casematelaw14.GeomKnown': WHATEVER THE INPUT: true; the input reads as it did. -/
def geomKnownSpec : ChangeSpec := { name := "geomKnown", fn := fun _ => fun
  | [] => { results := [.lit (.bool true)], args := [] }
  | _ => none }
def geomKnownRow : OpenClaim := { program := "ythmdpcdcbfndiaa", sum := "3dc1ccc16dd79c7270f8a0fe3b7ba9d1ec70cf7792cad4210abe6db5a71ee68f", func := "casemate/casematelaw14.GeomKnown", spec := "geomKnown", unfollowed := true, recurses := true, apart := false }
def GeomKnownSaid : Prop := geomKnownRow.holds Try.pinned (OpenSpec.ofChange geomKnownSpec)

/-- ITS FALSE NEIGHBOUR: 'it returns false'. Refute it at one input. -/
def geomKnownWrong : ChangeSpec := { name := "geomKnown", fn := fun _ => fun
  | [] => { results := [.lit (.bool false)], args := [] }
  | _ => none }
def GeomKnownWrongFalsely : Prop := geomKnownRow.holds Try.pinned (OpenSpec.ofChange geomKnownWrong)

/- THE SECOND FORM. 'bulk': how many values and letters a reading holds, each counted each time it is reached (what is shared counts as often as it is met; a slice's spare places count too). A statement '..UptoSaid' is the law's where the arguments, and the package variables that the reading takes, are together of bulk at most 1048576: NARROWER than '..Said'. Prove '..Said' where nothing that the law and all that it calls make is longer than what came in: it says more and counts as full. Else prove '..UptoSaid'. A law counts once. -/
mutual
def uptoBulk {H : Type} : DataW H → Nat
  | .lit (.string bytes) => bytes.length + 1
  | .lit _ => 1
  | .nil => 1
  | .ptr d => uptoBulk d + 1
  | .slice elems spare => uptoBulkAll elems + uptoBulkAll spare + 1
  | .agg parts => uptoBulkAll parts + 1
  | .iface _ d => uptoBulk d + 1
  | .map entries => uptoBulkEntries entries + 1
  | .held _ => 1
def uptoBulkAll {H : Type} : List (DataW H) → Nat
  | [] => 0
  | d :: r => uptoBulk d + uptoBulkAll r
def uptoBulkEntries {H : Type} : List (Lit × DataW H) → Nat
  | [] => 0
  | x :: r => uptoBulkEntry x + uptoBulkEntries r
def uptoBulkEntry {H : Type} : Lit × DataW H → Nat
  | (.string bytes, d) => bytes.length + uptoBulk d + 1
  | (_, d) => uptoBulk d + 1
 end
def uptoSmall : (H : Type) → List (DataW H) → Bool := fun _ ds => decide (uptoBulkAll ds ≤ 1048576)
def OpenSpec.upto (s : _root_.Go.ChangeSpec) : _root_.Go.OpenSpec := { _root_.Go.OpenSpec.ofChange s with cond := some uptoSmall }

/-- 'casematelaw14.GeomCounts', WHERE WHAT IT READS IS OF BULK AT MOST 1048576: true; the input reads as it did. -/
def geomCountsUptoRow : OpenClaim := { program := "ythmdpcdcbfndiaa", sum := "3dc1ccc16dd79c7270f8a0fe3b7ba9d1ec70cf7792cad4210abe6db5a71ee68f", func := "casemate/casematelaw14.GeomCounts", spec := "geomCounts", apart := false, narrowed := true }
def GeomCountsUptoSaid : Prop := geomCountsUptoRow.holds Try.pinned (OpenSpec.upto geomCountsSpec)

/-- 'casematelaw14.GeomRoom', WHERE WHAT IT READS IS OF BULK AT MOST 1048576: true; the input reads as it did. -/
def geomRoomUptoRow : OpenClaim := { program := "ythmdpcdcbfndiaa", sum := "3dc1ccc16dd79c7270f8a0fe3b7ba9d1ec70cf7792cad4210abe6db5a71ee68f", func := "casemate/casematelaw14.GeomRoom", spec := "geomRoom", apart := false, narrowed := true }
def GeomRoomUptoSaid : Prop := geomRoomUptoRow.holds Try.pinned (OpenSpec.upto geomRoomSpec)

/-- 'casematelaw14.GeomGrows', WHERE WHAT IT READS IS OF BULK AT MOST 1048576: true; the input reads as it did. -/
def geomGrowsUptoRow : OpenClaim := { program := "ythmdpcdcbfndiaa", sum := "3dc1ccc16dd79c7270f8a0fe3b7ba9d1ec70cf7792cad4210abe6db5a71ee68f", func := "casemate/casematelaw14.GeomGrows", spec := "geomGrows", apart := false, narrowed := true }
def GeomGrowsUptoSaid : Prop := geomGrowsUptoRow.holds Try.pinned (OpenSpec.upto geomGrowsSpec)

/-- 'casematelaw14.GeomPlaces', WHERE WHAT IT READS IS OF BULK AT MOST 1048576: true; the input reads as it did. -/
def geomPlacesUptoRow : OpenClaim := { program := "ythmdpcdcbfndiaa", sum := "3dc1ccc16dd79c7270f8a0fe3b7ba9d1ec70cf7792cad4210abe6db5a71ee68f", func := "casemate/casematelaw14.GeomPlaces", spec := "geomPlaces", unfollowed := true, recurses := true, apart := false, narrowed := true }
def GeomPlacesUptoSaid : Prop := geomPlacesUptoRow.holds Try.pinned (OpenSpec.upto geomPlacesSpec)

/-- 'casematelaw14.GeomBack', WHERE WHAT IT READS IS OF BULK AT MOST 1048576: true; the input reads as it did. -/
def geomBackUptoRow : OpenClaim := { program := "ythmdpcdcbfndiaa", sum := "3dc1ccc16dd79c7270f8a0fe3b7ba9d1ec70cf7792cad4210abe6db5a71ee68f", func := "casemate/casematelaw14.GeomBack", spec := "geomBack", unfollowed := true, recurses := true, apart := false, narrowed := true }
def GeomBackUptoSaid : Prop := geomBackUptoRow.holds Try.pinned (OpenSpec.upto geomBackSpec)

/-- 'casematelaw14.GeomKnown', WHERE WHAT IT READS IS OF BULK AT MOST 1048576: true; the input reads as it did. -/
def geomKnownUptoRow : OpenClaim := { program := "ythmdpcdcbfndiaa", sum := "3dc1ccc16dd79c7270f8a0fe3b7ba9d1ec70cf7792cad4210abe6db5a71ee68f", func := "casemate/casematelaw14.GeomKnown", spec := "geomKnown", unfollowed := true, recurses := true, apart := false, narrowed := true }
def GeomKnownUptoSaid : Prop := geomKnownUptoRow.holds Try.pinned (OpenSpec.upto geomKnownSpec)

end Rows
end Go.Proofs.Ythmdpcdcbfndiaa
