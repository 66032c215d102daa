/-
  No cell of these rows narrows 'for every input' (looked for: loops, veiled, ifaces, maps, wideKeys, modest, calm, conditions, laid).
  DERIVED. THE GIVEN ROWS OF THIS SEAT. 13 by the template 'for every input the law returns true; each argument reads behind the call as it read before'; 0 by the template 'total and deterministic' (their statements: YtdmcbfmpnakdfaaTotals.lean).
  GIVEN WITH THE SEED: the statements are not yours to turn. If you find one false, say at which input.
  Laid BY PROGRAM, IN A SANDBOX (cutbox-rows.mjs): the forced cells as the released guide's own fill.sh prints them over the translation f20454fab5623129… (all of the seat's roots in one cut). By AI agents, Wed Nov 11 2026. No macro, syntax, notation, axiom, sorry.
-/
import Derived.Test.YtdmcbfmpnakdfaaChecked
import GoSem.Claim
import GoSem.ClaimJoined
import GoSem.ClaimMapViews
import Derived.JoinedTies
import Derived.KernelRfl
namespace Go.Proofs.Ytdmcbfmpnakdfaa
/- THE CELL 'sum', in the pinned program and in every row, IS THE sha256 OF THE DUMP (.gsa) THAT YtdmcbfmpnakdfaaProg.lean LOADS. Nothing in Lean hashes anything: it is a label: what it is worth is what the hold of that sum in a sandbox is worth. -/
noncomputable def Try.pinned : Pinned := { name := "ytdmcbfmpnakdfaa", sum := "f20454fab562312950d73cec50dcb25b700a6bf9bd89d63ac4c619cad6818a31", checked := Try.checked }
namespace Rows
def none {H : Type} : Left H := { results := [], args := [] }

/-- 'casematelaw02.ParityFix': WHATEVER THE INPUT: true; the input reads as it did. -/
def parityFixSpec : ChangeSpec := { name := "parityFix", fn := fun _ => fun
  | [d1, d2] => { results := [.lit (.bool true)], args := [d1, d2] }
  | _ => none }
def parityFixRow : OpenClaim := { program := "ytdmcbfmpnakdfaa", sum := "f20454fab562312950d73cec50dcb25b700a6bf9bd89d63ac4c619cad6818a31", func := "casemate/casematelaw02.ParityFix", spec := "parityFix", unfollowed := true, recurses := true, apart := false }
def ParityFixSaid : Prop := parityFixRow.holds Try.pinned (OpenSpec.ofChange parityFixSpec)

/-- ITS FALSE NEIGHBOUR: 'it returns false'. Refute it at one input. -/
def parityFixWrong : ChangeSpec := { name := "parityFix", fn := fun _ => fun
  | [d1, d2] => { results := [.lit (.bool false)], args := [d1, d2] }
  | _ => none }
def ParityFixWrongFalsely : Prop := parityFixRow.holds Try.pinned (OpenSpec.ofChange parityFixWrong)

/-- 'casematelaw02.ParityKnown': WHATEVER THE INPUT: true; the input reads as it did. -/
def parityKnownSpec : ChangeSpec := { name := "parityKnown", fn := fun _ => fun
  | [] => { results := [.lit (.bool true)], args := [] }
  | _ => none }
def parityKnownRow : OpenClaim := { program := "ytdmcbfmpnakdfaa", sum := "f20454fab562312950d73cec50dcb25b700a6bf9bd89d63ac4c619cad6818a31", func := "casemate/casematelaw02.ParityKnown", spec := "parityKnown", unfollowed := true, recurses := true, apart := false }
def ParityKnownSaid : Prop := parityKnownRow.holds Try.pinned (OpenSpec.ofChange parityKnownSpec)

/-- ITS FALSE NEIGHBOUR: 'it returns false'. Refute it at one input. -/
def parityKnownWrong : ChangeSpec := { name := "parityKnown", fn := fun _ => fun
  | [] => { results := [.lit (.bool false)], args := [] }
  | _ => none }
def ParityKnownWrongFalsely : Prop := parityKnownRow.holds Try.pinned (OpenSpec.ofChange parityKnownWrong)

/-- 'casematelaw11.MemberLasts': WHATEVER THE INPUT: true; the input reads as it did. -/
def memberLastsSpec : ChangeSpec := { name := "memberLasts", fn := fun _ => fun
  | [d1, d2, d3] => { results := [.lit (.bool true)], args := [d1, d2, d3] }
  | _ => none }
def memberLastsRow : OpenClaim := { program := "ytdmcbfmpnakdfaa", sum := "f20454fab562312950d73cec50dcb25b700a6bf9bd89d63ac4c619cad6818a31", func := "casemate/casematelaw11.MemberLasts", spec := "memberLasts", inPlace := ["maps.clone"], unfollowed := true, recurses := true, apart := false }
def MemberLastsSaid : Prop := memberLastsRow.holds Try.pinned (OpenSpec.ofChange memberLastsSpec)

/-- ITS FALSE NEIGHBOUR: 'it returns false'. Refute it at one input. -/
def memberLastsWrong : ChangeSpec := { name := "memberLasts", fn := fun _ => fun
  | [d1, d2, d3] => { results := [.lit (.bool false)], args := [d1, d2, d3] }
  | _ => none }
def MemberLastsWrongFalsely : Prop := memberLastsRow.holds Try.pinned (OpenSpec.ofChange memberLastsWrong)

/-- 'casematelaw11.MemberFails': WHATEVER THE INPUT: true; the input reads as it did. -/
def memberFailsSpec : ChangeSpec := { name := "memberFails", fn := fun _ => fun
  | [d1, d2] => { results := [.lit (.bool true)], args := [d1, d2] }
  | _ => none }
def memberFailsRow : OpenClaim := { program := "ytdmcbfmpnakdfaa", sum := "f20454fab562312950d73cec50dcb25b700a6bf9bd89d63ac4c619cad6818a31", func := "casemate/casematelaw11.MemberFails", spec := "memberFails", inPlace := ["maps.clone"], unfollowed := true, recurses := true, apart := false }
def MemberFailsSaid : Prop := memberFailsRow.holds Try.pinned (OpenSpec.ofChange memberFailsSpec)

/-- ITS FALSE NEIGHBOUR: 'it returns false'. Refute it at one input. -/
def memberFailsWrong : ChangeSpec := { name := "memberFails", fn := fun _ => fun
  | [d1, d2] => { results := [.lit (.bool false)], args := [d1, d2] }
  | _ => none }
def MemberFailsWrongFalsely : Prop := memberFailsRow.holds Try.pinned (OpenSpec.ofChange memberFailsWrong)

/-- 'casematelaw11.MemberPlays': WHATEVER THE INPUT: true; the input reads as it did. -/
def memberPlaysSpec : ChangeSpec := { name := "memberPlays", fn := fun _ => fun
  | [d1, d2, d3] => { results := [.lit (.bool true)], args := [d1, d2, d3] }
  | _ => none }
def memberPlaysRow : OpenClaim := { program := "ytdmcbfmpnakdfaa", sum := "f20454fab562312950d73cec50dcb25b700a6bf9bd89d63ac4c619cad6818a31", func := "casemate/casematelaw11.MemberPlays", spec := "memberPlays", inPlace := ["maps.clone"], unfollowed := true, recurses := true, apart := false }
def MemberPlaysSaid : Prop := memberPlaysRow.holds Try.pinned (OpenSpec.ofChange memberPlaysSpec)

/-- ITS FALSE NEIGHBOUR: 'it returns false'. Refute it at one input. -/
def memberPlaysWrong : ChangeSpec := { name := "memberPlays", fn := fun _ => fun
  | [d1, d2, d3] => { results := [.lit (.bool false)], args := [d1, d2, d3] }
  | _ => none }
def MemberPlaysWrongFalsely : Prop := memberPlaysRow.holds Try.pinned (OpenSpec.ofChange memberPlaysWrong)

/-- 'casematelaw11.MemberBack': WHATEVER THE INPUT: true; the input reads as it did. -/
def memberBackSpec : ChangeSpec := { name := "memberBack", fn := fun _ => fun
  | [d1, d2] => { results := [.lit (.bool true)], args := [d1, d2] }
  | _ => none }
def memberBackRow : OpenClaim := { program := "ytdmcbfmpnakdfaa", sum := "f20454fab562312950d73cec50dcb25b700a6bf9bd89d63ac4c619cad6818a31", func := "casemate/casematelaw11.MemberBack", spec := "memberBack", inPlace := ["maps.clone"], unfollowed := true, recurses := true, apart := false }
def MemberBackSaid : Prop := memberBackRow.holds Try.pinned (OpenSpec.ofChange memberBackSpec)

/-- ITS FALSE NEIGHBOUR: 'it returns false'. Refute it at one input. -/
def memberBackWrong : ChangeSpec := { name := "memberBack", fn := fun _ => fun
  | [d1, d2] => { results := [.lit (.bool false)], args := [d1, d2] }
  | _ => none }
def MemberBackWrongFalsely : Prop := memberBackRow.holds Try.pinned (OpenSpec.ofChange memberBackWrong)

/-- 'casematelaw11.MemberCopies': WHATEVER THE INPUT: true; the input reads as it did. -/
def memberCopiesSpec : ChangeSpec := { name := "memberCopies", fn := fun _ => fun
  | [d1, d2] => { results := [.lit (.bool true)], args := [d1, d2] }
  | _ => none }
def memberCopiesRow : OpenClaim := { program := "ytdmcbfmpnakdfaa", sum := "f20454fab562312950d73cec50dcb25b700a6bf9bd89d63ac4c619cad6818a31", func := "casemate/casematelaw11.MemberCopies", spec := "memberCopies", inPlace := ["maps.clone"], unfollowed := true, recurses := true, apart := false }
def MemberCopiesSaid : Prop := memberCopiesRow.holds Try.pinned (OpenSpec.ofChange memberCopiesSpec)

/-- ITS FALSE NEIGHBOUR: 'it returns false'. Refute it at one input. -/
def memberCopiesWrong : ChangeSpec := { name := "memberCopies", fn := fun _ => fun
  | [d1, d2] => { results := [.lit (.bool false)], args := [d1, d2] }
  | _ => none }
def MemberCopiesWrongFalsely : Prop := memberCopiesRow.holds Try.pinned (OpenSpec.ofChange memberCopiesWrong)

/-- 'casematelaw11.MemberKnown': WHATEVER THE INPUT: true; the input reads as it did. -/
def memberKnownSpec : ChangeSpec := { name := "memberKnown", fn := fun _ => fun
  | [] => { results := [.lit (.bool true)], args := [] }
  | _ => none }
def memberKnownRow : OpenClaim := { program := "ytdmcbfmpnakdfaa", sum := "f20454fab562312950d73cec50dcb25b700a6bf9bd89d63ac4c619cad6818a31", func := "casemate/casematelaw11.MemberKnown", spec := "memberKnown", inPlace := ["maps.clone"], unfollowed := true, recurses := true, apart := false }
def MemberKnownSaid : Prop := memberKnownRow.holds Try.pinned (OpenSpec.ofChange memberKnownSpec)

/-- ITS FALSE NEIGHBOUR: 'it returns false'. Refute it at one input. -/
def memberKnownWrong : ChangeSpec := { name := "memberKnown", fn := fun _ => fun
  | [] => { results := [.lit (.bool false)], args := [] }
  | _ => none }
def MemberKnownWrongFalsely : Prop := memberKnownRow.holds Try.pinned (OpenSpec.ofChange memberKnownWrong)

/-- 'casematelaw16.StripeOrder': WHATEVER THE INPUT: true; the input reads as it did. -/
def stripeOrderSpec : ChangeSpec := { name := "stripeOrder", fn := fun _ => fun
  | [d1, d2] => { results := [.lit (.bool true)], args := [d1, d2] }
  | _ => none }
def stripeOrderRow : OpenClaim := { program := "ytdmcbfmpnakdfaa", sum := "f20454fab562312950d73cec50dcb25b700a6bf9bd89d63ac4c619cad6818a31", func := "casemate/casematelaw16.StripeOrder", spec := "stripeOrder", unfollowed := true, recurses := true, apart := false }
def StripeOrderSaid : Prop := stripeOrderRow.holds Try.pinned (OpenSpec.ofChange stripeOrderSpec)

/-- ITS FALSE NEIGHBOUR: 'it returns false'. Refute it at one input. -/
def stripeOrderWrong : ChangeSpec := { name := "stripeOrder", fn := fun _ => fun
  | [d1, d2] => { results := [.lit (.bool false)], args := [d1, d2] }
  | _ => none }
def StripeOrderWrongFalsely : Prop := stripeOrderRow.holds Try.pinned (OpenSpec.ofChange stripeOrderWrong)

/-- 'casematelaw16.StripeMends': WHATEVER THE INPUT: true; the input reads as it did. -/
def stripeMendsSpec : ChangeSpec := { name := "stripeMends", fn := fun _ => fun
  | [d1, d2, d3] => { results := [.lit (.bool true)], args := [d1, d2, d3] }
  | _ => none }
def stripeMendsRow : OpenClaim := { program := "ytdmcbfmpnakdfaa", sum := "f20454fab562312950d73cec50dcb25b700a6bf9bd89d63ac4c619cad6818a31", func := "casemate/casematelaw16.StripeMends", spec := "stripeMends", unfollowed := true, recurses := true, apart := false }
def StripeMendsSaid : Prop := stripeMendsRow.holds Try.pinned (OpenSpec.ofChange stripeMendsSpec)

/-- ITS FALSE NEIGHBOUR: 'it returns false'. Refute it at one input. -/
def stripeMendsWrong : ChangeSpec := { name := "stripeMends", fn := fun _ => fun
  | [d1, d2, d3] => { results := [.lit (.bool false)], args := [d1, d2, d3] }
  | _ => none }
def StripeMendsWrongFalsely : Prop := stripeMendsRow.holds Try.pinned (OpenSpec.ofChange stripeMendsWrong)

/-- 'casematelaw16.StripeStays': WHATEVER THE INPUT: true; the input reads as it did. -/
def stripeStaysSpec : ChangeSpec := { name := "stripeStays", fn := fun _ => fun
  | [d1, d2] => { results := [.lit (.bool true)], args := [d1, d2] }
  | _ => none }
def stripeStaysRow : OpenClaim := { program := "ytdmcbfmpnakdfaa", sum := "f20454fab562312950d73cec50dcb25b700a6bf9bd89d63ac4c619cad6818a31", func := "casemate/casematelaw16.StripeStays", spec := "stripeStays", unfollowed := true, recurses := true, apart := false }
def StripeStaysSaid : Prop := stripeStaysRow.holds Try.pinned (OpenSpec.ofChange stripeStaysSpec)

/-- ITS FALSE NEIGHBOUR: 'it returns false'. Refute it at one input. -/
def stripeStaysWrong : ChangeSpec := { name := "stripeStays", fn := fun _ => fun
  | [d1, d2] => { results := [.lit (.bool false)], args := [d1, d2] }
  | _ => none }
def StripeStaysWrongFalsely : Prop := stripeStaysRow.holds Try.pinned (OpenSpec.ofChange stripeStaysWrong)

/-- 'casematelaw16.StripePlays': WHATEVER THE INPUT: true; the input reads as it did. -/
def stripePlaysSpec : ChangeSpec := { name := "stripePlays", fn := fun _ => fun
  | [d1, d2] => { results := [.lit (.bool true)], args := [d1, d2] }
  | _ => none }
def stripePlaysRow : OpenClaim := { program := "ytdmcbfmpnakdfaa", sum := "f20454fab562312950d73cec50dcb25b700a6bf9bd89d63ac4c619cad6818a31", func := "casemate/casematelaw16.StripePlays", spec := "stripePlays", unfollowed := true, recurses := true, apart := false }
def StripePlaysSaid : Prop := stripePlaysRow.holds Try.pinned (OpenSpec.ofChange stripePlaysSpec)

/-- ITS FALSE NEIGHBOUR: 'it returns false'. Refute it at one input. -/
def stripePlaysWrong : ChangeSpec := { name := "stripePlays", fn := fun _ => fun
  | [d1, d2] => { results := [.lit (.bool false)], args := [d1, d2] }
  | _ => none }
def StripePlaysWrongFalsely : Prop := stripePlaysRow.holds Try.pinned (OpenSpec.ofChange stripePlaysWrong)

/-- 'casematelaw16.StripeKnown': WHATEVER THE INPUT: true; the input reads as it did. -/
def stripeKnownSpec : ChangeSpec := { name := "stripeKnown", fn := fun _ => fun
  | [] => { results := [.lit (.bool true)], args := [] }
  | _ => none }
def stripeKnownRow : OpenClaim := { program := "ytdmcbfmpnakdfaa", sum := "f20454fab562312950d73cec50dcb25b700a6bf9bd89d63ac4c619cad6818a31", func := "casemate/casematelaw16.StripeKnown", spec := "stripeKnown", unfollowed := true, recurses := true, apart := false }
def StripeKnownSaid : Prop := stripeKnownRow.holds Try.pinned (OpenSpec.ofChange stripeKnownSpec)

/-- ITS FALSE NEIGHBOUR: 'it returns false'. Refute it at one input. -/
def stripeKnownWrong : ChangeSpec := { name := "stripeKnown", fn := fun _ => fun
  | [] => { results := [.lit (.bool false)], args := [] }
  | _ => none }
def StripeKnownWrongFalsely : Prop := stripeKnownRow.holds Try.pinned (OpenSpec.ofChange stripeKnownWrong)

/- THE SECOND FORM. 'bulk': how many values and letters a reading holds, each counted each time it is reached (what is shared counts as often as it is met; a slice's spare places count too). A statement '..UptoSaid' is the law's where the arguments, and the package variables that the reading takes, are together of bulk at most 1048576: NARROWER than '..Said'. Prove '..Said' where nothing that the law and all that it calls make is longer than what came in: it says more and counts as full. Else prove '..UptoSaid'. A law counts once. -/
mutual
def uptoBulk {H : Type} : DataW H → Nat
  | .lit (.string bytes) => bytes.length + 1
  | .lit _ => 1
  | .nil => 1
  | .ptr d => uptoBulk d + 1
  | .slice elems spare => uptoBulkAll elems + uptoBulkAll spare + 1
  | .agg parts => uptoBulkAll parts + 1
  | .iface _ d => uptoBulk d + 1
  | .map entries => uptoBulkEntries entries + 1
  | .held _ => 1
def uptoBulkAll {H : Type} : List (DataW H) → Nat
  | [] => 0
  | d :: r => uptoBulk d + uptoBulkAll r
def uptoBulkEntries {H : Type} : List (Lit × DataW H) → Nat
  | [] => 0
  | x :: r => uptoBulkEntry x + uptoBulkEntries r
def uptoBulkEntry {H : Type} : Lit × DataW H → Nat
  | (.string bytes, d) => bytes.length + uptoBulk d + 1
  | (_, d) => uptoBulk d + 1
 end
def uptoSmall : (H : Type) → List (DataW H) → Bool := fun _ ds => decide (uptoBulkAll ds ≤ 1048576)
def OpenSpec.upto (s : _root_.Go.ChangeSpec) : _root_.Go.OpenSpec := { _root_.Go.OpenSpec.ofChange s with cond := some uptoSmall }

/-- 'casematelaw02.ParityFix', WHERE WHAT IT READS IS OF BULK AT MOST 1048576: true; the input reads as it did. -/
def parityFixUptoRow : OpenClaim := { program := "ytdmcbfmpnakdfaa", sum := "f20454fab562312950d73cec50dcb25b700a6bf9bd89d63ac4c619cad6818a31", func := "casemate/casematelaw02.ParityFix", spec := "parityFix", unfollowed := true, recurses := true, apart := false, narrowed := true }
def ParityFixUptoSaid : Prop := parityFixUptoRow.holds Try.pinned (OpenSpec.upto parityFixSpec)

/-- 'casematelaw02.ParityKnown', WHERE WHAT IT READS IS OF BULK AT MOST 1048576: true; the input reads as it did. -/
def parityKnownUptoRow : OpenClaim := { program := "ytdmcbfmpnakdfaa", sum := "f20454fab562312950d73cec50dcb25b700a6bf9bd89d63ac4c619cad6818a31", func := "casemate/casematelaw02.ParityKnown", spec := "parityKnown", unfollowed := true, recurses := true, apart := false, narrowed := true }
def ParityKnownUptoSaid : Prop := parityKnownUptoRow.holds Try.pinned (OpenSpec.upto parityKnownSpec)

/-- 'casematelaw11.MemberLasts', WHERE WHAT IT READS IS OF BULK AT MOST 1048576: true; the input reads as it did. -/
def memberLastsUptoRow : OpenClaim := { program := "ytdmcbfmpnakdfaa", sum := "f20454fab562312950d73cec50dcb25b700a6bf9bd89d63ac4c619cad6818a31", func := "casemate/casematelaw11.MemberLasts", spec := "memberLasts", inPlace := ["maps.clone"], unfollowed := true, recurses := true, apart := false, narrowed := true }
def MemberLastsUptoSaid : Prop := memberLastsUptoRow.holds Try.pinned (OpenSpec.upto memberLastsSpec)

/-- 'casematelaw11.MemberFails', WHERE WHAT IT READS IS OF BULK AT MOST 1048576: true; the input reads as it did. -/
def memberFailsUptoRow : OpenClaim := { program := "ytdmcbfmpnakdfaa", sum := "f20454fab562312950d73cec50dcb25b700a6bf9bd89d63ac4c619cad6818a31", func := "casemate/casematelaw11.MemberFails", spec := "memberFails", inPlace := ["maps.clone"], unfollowed := true, recurses := true, apart := false, narrowed := true }
def MemberFailsUptoSaid : Prop := memberFailsUptoRow.holds Try.pinned (OpenSpec.upto memberFailsSpec)

/-- 'casematelaw11.MemberPlays', WHERE WHAT IT READS IS OF BULK AT MOST 1048576: true; the input reads as it did. -/
def memberPlaysUptoRow : OpenClaim := { program := "ytdmcbfmpnakdfaa", sum := "f20454fab562312950d73cec50dcb25b700a6bf9bd89d63ac4c619cad6818a31", func := "casemate/casematelaw11.MemberPlays", spec := "memberPlays", inPlace := ["maps.clone"], unfollowed := true, recurses := true, apart := false, narrowed := true }
def MemberPlaysUptoSaid : Prop := memberPlaysUptoRow.holds Try.pinned (OpenSpec.upto memberPlaysSpec)

/-- 'casematelaw11.MemberBack', WHERE WHAT IT READS IS OF BULK AT MOST 1048576: true; the input reads as it did. -/
def memberBackUptoRow : OpenClaim := { program := "ytdmcbfmpnakdfaa", sum := "f20454fab562312950d73cec50dcb25b700a6bf9bd89d63ac4c619cad6818a31", func := "casemate/casematelaw11.MemberBack", spec := "memberBack", inPlace := ["maps.clone"], unfollowed := true, recurses := true, apart := false, narrowed := true }
def MemberBackUptoSaid : Prop := memberBackUptoRow.holds Try.pinned (OpenSpec.upto memberBackSpec)

/-- 'casematelaw11.MemberCopies', WHERE WHAT IT READS IS OF BULK AT MOST 1048576: true; the input reads as it did. -/
def memberCopiesUptoRow : OpenClaim := { program := "ytdmcbfmpnakdfaa", sum := "f20454fab562312950d73cec50dcb25b700a6bf9bd89d63ac4c619cad6818a31", func := "casemate/casematelaw11.MemberCopies", spec := "memberCopies", inPlace := ["maps.clone"], unfollowed := true, recurses := true, apart := false, narrowed := true }
def MemberCopiesUptoSaid : Prop := memberCopiesUptoRow.holds Try.pinned (OpenSpec.upto memberCopiesSpec)

/-- 'casematelaw11.MemberKnown', WHERE WHAT IT READS IS OF BULK AT MOST 1048576: true; the input reads as it did. -/
def memberKnownUptoRow : OpenClaim := { program := "ytdmcbfmpnakdfaa", sum := "f20454fab562312950d73cec50dcb25b700a6bf9bd89d63ac4c619cad6818a31", func := "casemate/casematelaw11.MemberKnown", spec := "memberKnown", inPlace := ["maps.clone"], unfollowed := true, recurses := true, apart := false, narrowed := true }
def MemberKnownUptoSaid : Prop := memberKnownUptoRow.holds Try.pinned (OpenSpec.upto memberKnownSpec)

/-- 'casematelaw16.StripeOrder', WHERE WHAT IT READS IS OF BULK AT MOST 1048576: true; the input reads as it did. -/
def stripeOrderUptoRow : OpenClaim := { program := "ytdmcbfmpnakdfaa", sum := "f20454fab562312950d73cec50dcb25b700a6bf9bd89d63ac4c619cad6818a31", func := "casemate/casematelaw16.StripeOrder", spec := "stripeOrder", unfollowed := true, recurses := true, apart := false, narrowed := true }
def StripeOrderUptoSaid : Prop := stripeOrderUptoRow.holds Try.pinned (OpenSpec.upto stripeOrderSpec)

/-- 'casematelaw16.StripeMends', WHERE WHAT IT READS IS OF BULK AT MOST 1048576: true; the input reads as it did. -/
def stripeMendsUptoRow : OpenClaim := { program := "ytdmcbfmpnakdfaa", sum := "f20454fab562312950d73cec50dcb25b700a6bf9bd89d63ac4c619cad6818a31", func := "casemate/casematelaw16.StripeMends", spec := "stripeMends", unfollowed := true, recurses := true, apart := false, narrowed := true }
def StripeMendsUptoSaid : Prop := stripeMendsUptoRow.holds Try.pinned (OpenSpec.upto stripeMendsSpec)

/-- 'casematelaw16.StripeStays', WHERE WHAT IT READS IS OF BULK AT MOST 1048576: true; the input reads as it did. -/
def stripeStaysUptoRow : OpenClaim := { program := "ytdmcbfmpnakdfaa", sum := "f20454fab562312950d73cec50dcb25b700a6bf9bd89d63ac4c619cad6818a31", func := "casemate/casematelaw16.StripeStays", spec := "stripeStays", unfollowed := true, recurses := true, apart := false, narrowed := true }
def StripeStaysUptoSaid : Prop := stripeStaysUptoRow.holds Try.pinned (OpenSpec.upto stripeStaysSpec)

/-- 'casematelaw16.StripePlays', WHERE WHAT IT READS IS OF BULK AT MOST 1048576: true; the input reads as it did. -/
def stripePlaysUptoRow : OpenClaim := { program := "ytdmcbfmpnakdfaa", sum := "f20454fab562312950d73cec50dcb25b700a6bf9bd89d63ac4c619cad6818a31", func := "casemate/casematelaw16.StripePlays", spec := "stripePlays", unfollowed := true, recurses := true, apart := false, narrowed := true }
def StripePlaysUptoSaid : Prop := stripePlaysUptoRow.holds Try.pinned (OpenSpec.upto stripePlaysSpec)

/-- 'casematelaw16.StripeKnown', WHERE WHAT IT READS IS OF BULK AT MOST 1048576: true; the input reads as it did. -/
def stripeKnownUptoRow : OpenClaim := { program := "ytdmcbfmpnakdfaa", sum := "f20454fab562312950d73cec50dcb25b700a6bf9bd89d63ac4c619cad6818a31", func := "casemate/casematelaw16.StripeKnown", spec := "stripeKnown", unfollowed := true, recurses := true, apart := false, narrowed := true }
def StripeKnownUptoSaid : Prop := stripeKnownUptoRow.holds Try.pinned (OpenSpec.upto stripeKnownSpec)

end Rows
end Go.Proofs.Ytdmcbfmpnakdfaa
