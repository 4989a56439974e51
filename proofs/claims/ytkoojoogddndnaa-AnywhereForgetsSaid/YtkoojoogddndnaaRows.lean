/-
  NARROWER THAN 'FOR EVERY INPUT', by the rows' own cells (each row's printed sentence says how): AnywhereForgets: loops.
  DERIVED. THE GIVEN ROWS OF THIS SEAT. 7 by the template 'for every input the law returns true; each argument reads behind the call as it read before'; 0 by the template 'total and deterministic' (their statements: YtkoojoogddndnaaTotals.lean).
  GIVEN WITH THE SEED: the statements are not yours to turn. If you find one false, say at which input.
  Laid BY PROGRAM, IN A SANDBOX (cutbox-rows.mjs): the forced cells as the released guide's own fill.sh prints them over the translation a72f162657e6ccd7… (all of the seat's roots in one cut). By AI agents, Wed Nov 11 2026. No macro, syntax, notation, axiom, sorry.
-/
import Derived.Test.YtkoojoogddndnaaChecked
import GoSem.Claim
import GoSem.ClaimJoined
import GoSem.ClaimMapViews
import Derived.JoinedTies
import Derived.KernelRfl
namespace Go.Proofs.Ytkoojoogddndnaa
/- THE CELL 'sum', in the pinned program and in every row, IS THE sha256 OF THE DUMP (.gsa) THAT YtkoojoogddndnaaProg.lean LOADS. Nothing in Lean hashes anything: it is a label: what it is worth is what the hold of that sum in a sandbox is worth. -/
noncomputable def Try.pinned : Pinned := { name := "ytkoojoogddndnaa", sum := "a72f162657e6ccd7a66e1290c74cb1055927fc13acbb629664a58b5866fa049c", checked := Try.checked }
namespace Rows
def none {H : Type} : Left H := { results := [], args := [] }

/-- 'unicodetextlaw31.AnywhereSyncs': WHATEVER THE INPUT: true; the input reads as it did. -/
def anywhereSyncsSpec : ChangeSpec := { name := "anywhereSyncs", fn := fun _ => fun
  | [d] => { results := [.lit (.bool true)], args := [d] }
  | _ => none }
def anywhereSyncsRow : OpenClaim := { program := "ytkoojoogddndnaa", sum := "a72f162657e6ccd7a66e1290c74cb1055927fc13acbb629664a58b5866fa049c", func := "unicodetext/unicodetextlaw31.AnywhereSyncs", spec := "anywhereSyncs", unfollowed := true, recurses := true, apart := false }
def AnywhereSyncsSaid : Prop := anywhereSyncsRow.holds Try.pinned (OpenSpec.ofChange anywhereSyncsSpec)

/-- ITS FALSE NEIGHBOUR: 'it returns false'. Refute it at one input. -/
def anywhereSyncsWrong : ChangeSpec := { name := "anywhereSyncs", fn := fun _ => fun
  | [d] => { results := [.lit (.bool false)], args := [d] }
  | _ => none }
def AnywhereSyncsWrongFalsely : Prop := anywhereSyncsRow.holds Try.pinned (OpenSpec.ofChange anywhereSyncsWrong)

/-- 'unicodetextlaw31.AnywhereStarts': WHATEVER THE INPUT: true; the input reads as it did. -/
def anywhereStartsSpec : ChangeSpec := { name := "anywhereStarts", fn := fun _ => fun
  | [d1, d2, d3] => { results := [.lit (.bool true)], args := [d1, d2, d3] }
  | _ => none }
def anywhereStartsRow : OpenClaim := { program := "ytkoojoogddndnaa", sum := "a72f162657e6ccd7a66e1290c74cb1055927fc13acbb629664a58b5866fa049c", func := "unicodetext/unicodetextlaw31.AnywhereStarts", spec := "anywhereStarts", unfollowed := true, recurses := true, apart := false }
def AnywhereStartsSaid : Prop := anywhereStartsRow.holds Try.pinned (OpenSpec.ofChange anywhereStartsSpec)

/-- ITS FALSE NEIGHBOUR: 'it returns false'. Refute it at one input. -/
def anywhereStartsWrong : ChangeSpec := { name := "anywhereStarts", fn := fun _ => fun
  | [d1, d2, d3] => { results := [.lit (.bool false)], args := [d1, d2, d3] }
  | _ => none }
def AnywhereStartsWrongFalsely : Prop := anywhereStartsRow.holds Try.pinned (OpenSpec.ofChange anywhereStartsWrong)

/-- 'unicodetextlaw31.AnywhereWalks': WHATEVER THE INPUT: true; the input reads as it did. -/
def anywhereWalksSpec : ChangeSpec := { name := "anywhereWalks", fn := fun _ => fun
  | [d1, d2, d3] => { results := [.lit (.bool true)], args := [d1, d2, d3] }
  | _ => none }
def anywhereWalksRow : OpenClaim := { program := "ytkoojoogddndnaa", sum := "a72f162657e6ccd7a66e1290c74cb1055927fc13acbb629664a58b5866fa049c", func := "unicodetext/unicodetextlaw31.AnywhereWalks", spec := "anywhereWalks", unfollowed := true, recurses := true, apart := false }
def AnywhereWalksSaid : Prop := anywhereWalksRow.holds Try.pinned (OpenSpec.ofChange anywhereWalksSpec)

/-- ITS FALSE NEIGHBOUR: 'it returns false'. Refute it at one input. -/
def anywhereWalksWrong : ChangeSpec := { name := "anywhereWalks", fn := fun _ => fun
  | [d1, d2, d3] => { results := [.lit (.bool false)], args := [d1, d2, d3] }
  | _ => none }
def AnywhereWalksWrongFalsely : Prop := anywhereWalksRow.holds Try.pinned (OpenSpec.ofChange anywhereWalksWrong)

/-- 'unicodetextlaw31.AnywhereReads': WHATEVER THE INPUT: true; the input reads as it did. -/
def anywhereReadsSpec : ChangeSpec := { name := "anywhereReads", fn := fun _ => fun
  | [d1, d2, d3] => { results := [.lit (.bool true)], args := [d1, d2, d3] }
  | _ => none }
def anywhereReadsRow : OpenClaim := { program := "ytkoojoogddndnaa", sum := "a72f162657e6ccd7a66e1290c74cb1055927fc13acbb629664a58b5866fa049c", func := "unicodetext/unicodetextlaw31.AnywhereReads", spec := "anywhereReads", unfollowed := true, recurses := true, apart := false }
def AnywhereReadsSaid : Prop := anywhereReadsRow.holds Try.pinned (OpenSpec.ofChange anywhereReadsSpec)

/-- ITS FALSE NEIGHBOUR: 'it returns false'. Refute it at one input. -/
def anywhereReadsWrong : ChangeSpec := { name := "anywhereReads", fn := fun _ => fun
  | [d1, d2, d3] => { results := [.lit (.bool false)], args := [d1, d2, d3] }
  | _ => none }
def AnywhereReadsWrongFalsely : Prop := anywhereReadsRow.holds Try.pinned (OpenSpec.ofChange anywhereReadsWrong)

/-- 'unicodetextlaw31.AnywhereVisits': WHATEVER THE INPUT: true; the input reads as it did. -/
def anywhereVisitsSpec : ChangeSpec := { name := "anywhereVisits", fn := fun _ => fun
  | [d1, d2, d3] => { results := [.lit (.bool true)], args := [d1, d2, d3] }
  | _ => none }
def anywhereVisitsRow : OpenClaim := { program := "ytkoojoogddndnaa", sum := "a72f162657e6ccd7a66e1290c74cb1055927fc13acbb629664a58b5866fa049c", func := "unicodetext/unicodetextlaw31.AnywhereVisits", spec := "anywhereVisits", unfollowed := true, recurses := true, apart := false }
def AnywhereVisitsSaid : Prop := anywhereVisitsRow.holds Try.pinned (OpenSpec.ofChange anywhereVisitsSpec)

/-- ITS FALSE NEIGHBOUR: 'it returns false'. Refute it at one input. -/
def anywhereVisitsWrong : ChangeSpec := { name := "anywhereVisits", fn := fun _ => fun
  | [d1, d2, d3] => { results := [.lit (.bool false)], args := [d1, d2, d3] }
  | _ => none }
def AnywhereVisitsWrongFalsely : Prop := anywhereVisitsRow.holds Try.pinned (OpenSpec.ofChange anywhereVisitsWrong)

/-- 'unicodetextlaw31.AnywhereParts': WHATEVER THE INPUT: true; the input reads as it did. -/
def anywherePartsSpec : ChangeSpec := { name := "anywhereParts", fn := fun _ => fun
  | [d1, d2, d3] => { results := [.lit (.bool true)], args := [d1, d2, d3] }
  | _ => none }
def anywherePartsRow : OpenClaim := { program := "ytkoojoogddndnaa", sum := "a72f162657e6ccd7a66e1290c74cb1055927fc13acbb629664a58b5866fa049c", func := "unicodetext/unicodetextlaw31.AnywhereParts", spec := "anywhereParts", unfollowed := true, recurses := true, apart := false }
def AnywherePartsSaid : Prop := anywherePartsRow.holds Try.pinned (OpenSpec.ofChange anywherePartsSpec)

/-- ITS FALSE NEIGHBOUR: 'it returns false'. Refute it at one input. -/
def anywherePartsWrong : ChangeSpec := { name := "anywhereParts", fn := fun _ => fun
  | [d1, d2, d3] => { results := [.lit (.bool false)], args := [d1, d2, d3] }
  | _ => none }
def AnywherePartsWrongFalsely : Prop := anywherePartsRow.holds Try.pinned (OpenSpec.ofChange anywherePartsWrong)

/-- 'unicodetextlaw31.AnywhereForgets': WHATEVER THE INPUT: true; the input reads as it did. -/
def anywhereForgetsSpec : ChangeSpec := { name := "anywhereForgets", fn := fun _ => fun
  | [d1, d2, d3] => { results := [.lit (.bool true)], args := [d1, d2, d3] }
  | _ => none }
def anywhereForgetsRow : OpenClaim := { program := "ytkoojoogddndnaa", sum := "a72f162657e6ccd7a66e1290c74cb1055927fc13acbb629664a58b5866fa049c", func := "unicodetext/unicodetextlaw31.AnywhereForgets", spec := "anywhereForgets", unfollowed := true, recurses := true, loops := true, apart := false }
def AnywhereForgetsSaid : Prop := anywhereForgetsRow.holds Try.pinned (OpenSpec.ofChange anywhereForgetsSpec)

/-- ITS FALSE NEIGHBOUR: 'it returns false'. Refute it at one input. -/
def anywhereForgetsWrong : ChangeSpec := { name := "anywhereForgets", fn := fun _ => fun
  | [d1, d2, d3] => { results := [.lit (.bool false)], args := [d1, d2, d3] }
  | _ => none }
def AnywhereForgetsWrongFalsely : Prop := anywhereForgetsRow.holds Try.pinned (OpenSpec.ofChange anywhereForgetsWrong)

/- THE SECOND FORM. 'bulk': how many values and letters a reading holds, each counted each time it is reached (what is shared counts as often as it is met; a slice's spare places count too). A statement '..UptoSaid' is the law's where the arguments, and the package variables that the reading takes, are together of bulk at most 1048576: NARROWER than '..Said'. Prove '..Said' where nothing that the law and all that it calls make is longer than what came in: it says more and counts as full. Else prove '..UptoSaid'. A law counts once. -/
mutual
def uptoBulk {H : Type} : DataW H → Nat
  | .lit (.string bytes) => bytes.length + 1
  | .lit _ => 1
  | .nil => 1
  | .ptr d => uptoBulk d + 1
  | .slice elems spare => uptoBulkAll elems + uptoBulkAll spare + 1
  | .agg parts => uptoBulkAll parts + 1
  | .iface _ d => uptoBulk d + 1
  | .map entries => uptoBulkEntries entries + 1
  | .held _ => 1
def uptoBulkAll {H : Type} : List (DataW H) → Nat
  | [] => 0
  | d :: r => uptoBulk d + uptoBulkAll r
def uptoBulkEntries {H : Type} : List (Lit × DataW H) → Nat
  | [] => 0
  | x :: r => uptoBulkEntry x + uptoBulkEntries r
def uptoBulkEntry {H : Type} : Lit × DataW H → Nat
  | (.string bytes, d) => bytes.length + uptoBulk d + 1
  | (_, d) => uptoBulk d + 1
 end
def uptoSmall : (H : Type) → List (DataW H) → Bool := fun _ ds => decide (uptoBulkAll ds ≤ 1048576)
def OpenSpec.upto (s : _root_.Go.ChangeSpec) : _root_.Go.OpenSpec := { _root_.Go.OpenSpec.ofChange s with cond := some uptoSmall }

/-- 'unicodetextlaw31.AnywhereSyncs', WHERE WHAT IT READS IS OF BULK AT MOST 1048576: true; the input reads as it did. -/
def anywhereSyncsUptoRow : OpenClaim := { program := "ytkoojoogddndnaa", sum := "a72f162657e6ccd7a66e1290c74cb1055927fc13acbb629664a58b5866fa049c", func := "unicodetext/unicodetextlaw31.AnywhereSyncs", spec := "anywhereSyncs", unfollowed := true, recurses := true, apart := false, narrowed := true }
def AnywhereSyncsUptoSaid : Prop := anywhereSyncsUptoRow.holds Try.pinned (OpenSpec.upto anywhereSyncsSpec)

/-- 'unicodetextlaw31.AnywhereStarts', WHERE WHAT IT READS IS OF BULK AT MOST 1048576: true; the input reads as it did. -/
def anywhereStartsUptoRow : OpenClaim := { program := "ytkoojoogddndnaa", sum := "a72f162657e6ccd7a66e1290c74cb1055927fc13acbb629664a58b5866fa049c", func := "unicodetext/unicodetextlaw31.AnywhereStarts", spec := "anywhereStarts", unfollowed := true, recurses := true, apart := false, narrowed := true }
def AnywhereStartsUptoSaid : Prop := anywhereStartsUptoRow.holds Try.pinned (OpenSpec.upto anywhereStartsSpec)

/-- 'unicodetextlaw31.AnywhereWalks', WHERE WHAT IT READS IS OF BULK AT MOST 1048576: true; the input reads as it did. -/
def anywhereWalksUptoRow : OpenClaim := { program := "ytkoojoogddndnaa", sum := "a72f162657e6ccd7a66e1290c74cb1055927fc13acbb629664a58b5866fa049c", func := "unicodetext/unicodetextlaw31.AnywhereWalks", spec := "anywhereWalks", unfollowed := true, recurses := true, apart := false, narrowed := true }
def AnywhereWalksUptoSaid : Prop := anywhereWalksUptoRow.holds Try.pinned (OpenSpec.upto anywhereWalksSpec)

/-- 'unicodetextlaw31.AnywhereReads', WHERE WHAT IT READS IS OF BULK AT MOST 1048576: true; the input reads as it did. -/
def anywhereReadsUptoRow : OpenClaim := { program := "ytkoojoogddndnaa", sum := "a72f162657e6ccd7a66e1290c74cb1055927fc13acbb629664a58b5866fa049c", func := "unicodetext/unicodetextlaw31.AnywhereReads", spec := "anywhereReads", unfollowed := true, recurses := true, apart := false, narrowed := true }
def AnywhereReadsUptoSaid : Prop := anywhereReadsUptoRow.holds Try.pinned (OpenSpec.upto anywhereReadsSpec)

/-- 'unicodetextlaw31.AnywhereVisits', WHERE WHAT IT READS IS OF BULK AT MOST 1048576: true; the input reads as it did. -/
def anywhereVisitsUptoRow : OpenClaim := { program := "ytkoojoogddndnaa", sum := "a72f162657e6ccd7a66e1290c74cb1055927fc13acbb629664a58b5866fa049c", func := "unicodetext/unicodetextlaw31.AnywhereVisits", spec := "anywhereVisits", unfollowed := true, recurses := true, apart := false, narrowed := true }
def AnywhereVisitsUptoSaid : Prop := anywhereVisitsUptoRow.holds Try.pinned (OpenSpec.upto anywhereVisitsSpec)

/-- 'unicodetextlaw31.AnywhereParts', WHERE WHAT IT READS IS OF BULK AT MOST 1048576: true; the input reads as it did. -/
def anywherePartsUptoRow : OpenClaim := { program := "ytkoojoogddndnaa", sum := "a72f162657e6ccd7a66e1290c74cb1055927fc13acbb629664a58b5866fa049c", func := "unicodetext/unicodetextlaw31.AnywhereParts", spec := "anywhereParts", unfollowed := true, recurses := true, apart := false, narrowed := true }
def AnywherePartsUptoSaid : Prop := anywherePartsUptoRow.holds Try.pinned (OpenSpec.upto anywherePartsSpec)

/-- 'unicodetextlaw31.AnywhereForgets', WHERE WHAT IT READS IS OF BULK AT MOST 1048576: true; the input reads as it did. -/
def anywhereForgetsUptoRow : OpenClaim := { program := "ytkoojoogddndnaa", sum := "a72f162657e6ccd7a66e1290c74cb1055927fc13acbb629664a58b5866fa049c", func := "unicodetext/unicodetextlaw31.AnywhereForgets", spec := "anywhereForgets", unfollowed := true, recurses := true, loops := true, apart := false, narrowed := true }
def AnywhereForgetsUptoSaid : Prop := anywhereForgetsUptoRow.holds Try.pinned (OpenSpec.upto anywhereForgetsSpec)

end Rows
end Go.Proofs.Ytkoojoogddndnaa
