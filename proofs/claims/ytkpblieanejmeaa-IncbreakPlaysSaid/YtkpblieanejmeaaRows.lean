/-
  No cell of these rows narrows 'for every input' (looked for: loops, veiled, ifaces, maps, wideKeys, modest, calm, conditions, laid).
  DERIVED. THE GIVEN ROWS OF THIS SEAT. 6 by the template 'for every input the law returns true; each argument reads behind the call as it read before'; 0 by the template 'total and deterministic' (their statements: YtkpblieanejmeaaTotals.lean).
  GIVEN WITH THE SEED: the statements are not yours to turn. If you find one false, say at which input.
  Laid BY PROGRAM, IN A SANDBOX (cutbox-rows.mjs): the forced cells as the released guide's own fill.sh prints them over the translation e79302ecfaee96b0… (all of the seat's roots in one cut). By AI agents, Wed Nov 11 2026. No macro, syntax, notation, axiom, sorry.
-/
import Derived.Test.YtkpblieanejmeaaChecked
import GoSem.Claim
import GoSem.ClaimJoined
import GoSem.ClaimMapViews
import Derived.JoinedTies
import Derived.KernelRfl
namespace Go.Proofs.Ytkpblieanejmeaa
/- THE CELL 'sum', in the pinned program and in every row, IS THE sha256 OF THE DUMP (.gsa) THAT YtkpblieanejmeaaProg.lean LOADS. Nothing in Lean hashes anything: it is a label: what it is worth is what the hold of that sum in a sandbox is worth. -/
noncomputable def Try.pinned : Pinned := { name := "ytkpblieanejmeaa", sum := "e79302ecfaee96b0269ed6ac67a67e0cc878024a9dba0508c2927009d9bccf0d", checked := Try.checked }
namespace Rows
def none {H : Type} : Left H := { results := [], args := [] }

/-- 'unicodetextlaw54.IncbreakPlays': WHATEVER THE INPUT: true; the input reads as it did. -/
def incbreakPlaysSpec : ChangeSpec := { name := "incbreakPlays", fn := fun _ => fun
  | [d1, d2] => { results := [.lit (.bool true)], args := [d1, d2] }
  | _ => none }
def incbreakPlaysRow : OpenClaim := { program := "ytkpblieanejmeaa", sum := "e79302ecfaee96b0269ed6ac67a67e0cc878024a9dba0508c2927009d9bccf0d", func := "unicodetext/unicodetextlaw54.IncbreakPlays", spec := "incbreakPlays", unfollowed := true, recurses := true, apart := false }
def IncbreakPlaysSaid : Prop := incbreakPlaysRow.holds Try.pinned (OpenSpec.ofChange incbreakPlaysSpec)

/-- ITS FALSE NEIGHBOUR: 'it returns false'. Refute it at one input. -/
def incbreakPlaysWrong : ChangeSpec := { name := "incbreakPlays", fn := fun _ => fun
  | [d1, d2] => { results := [.lit (.bool false)], args := [d1, d2] }
  | _ => none }
def IncbreakPlaysWrongFalsely : Prop := incbreakPlaysRow.holds Try.pinned (OpenSpec.ofChange incbreakPlaysWrong)

/-- 'unicodetextlaw54.IncbreakAgain': WHATEVER THE INPUT: true; the input reads as it did. -/
def incbreakAgainSpec : ChangeSpec := { name := "incbreakAgain", fn := fun _ => fun
  | [d1, d2] => { results := [.lit (.bool true)], args := [d1, d2] }
  | _ => none }
def incbreakAgainRow : OpenClaim := { program := "ytkpblieanejmeaa", sum := "e79302ecfaee96b0269ed6ac67a67e0cc878024a9dba0508c2927009d9bccf0d", func := "unicodetext/unicodetextlaw54.IncbreakAgain", spec := "incbreakAgain", unfollowed := true, recurses := true, apart := false }
def IncbreakAgainSaid : Prop := incbreakAgainRow.holds Try.pinned (OpenSpec.ofChange incbreakAgainSpec)

/-- ITS FALSE NEIGHBOUR: 'it returns false'. Refute it at one input. -/
def incbreakAgainWrong : ChangeSpec := { name := "incbreakAgain", fn := fun _ => fun
  | [d1, d2] => { results := [.lit (.bool false)], args := [d1, d2] }
  | _ => none }
def IncbreakAgainWrongFalsely : Prop := incbreakAgainRow.holds Try.pinned (OpenSpec.ofChange incbreakAgainWrong)

/-- 'unicodetextlaw54.IncbreakUndoes': WHATEVER THE INPUT: true; the input reads as it did. -/
def incbreakUndoesSpec : ChangeSpec := { name := "incbreakUndoes", fn := fun _ => fun
  | [d1, d2] => { results := [.lit (.bool true)], args := [d1, d2] }
  | _ => none }
def incbreakUndoesRow : OpenClaim := { program := "ytkpblieanejmeaa", sum := "e79302ecfaee96b0269ed6ac67a67e0cc878024a9dba0508c2927009d9bccf0d", func := "unicodetext/unicodetextlaw54.IncbreakUndoes", spec := "incbreakUndoes", unfollowed := true, recurses := true, apart := false }
def IncbreakUndoesSaid : Prop := incbreakUndoesRow.holds Try.pinned (OpenSpec.ofChange incbreakUndoesSpec)

/-- ITS FALSE NEIGHBOUR: 'it returns false'. Refute it at one input. -/
def incbreakUndoesWrong : ChangeSpec := { name := "incbreakUndoes", fn := fun _ => fun
  | [d1, d2] => { results := [.lit (.bool false)], args := [d1, d2] }
  | _ => none }
def IncbreakUndoesWrongFalsely : Prop := incbreakUndoesRow.holds Try.pinned (OpenSpec.ofChange incbreakUndoesWrong)

/-- 'unicodetextlaw54.IncbreakRange': WHATEVER THE INPUT: true; the input reads as it did. -/
def incbreakRangeSpec : ChangeSpec := { name := "incbreakRange", fn := fun _ => fun
  | [d1, d2] => { results := [.lit (.bool true)], args := [d1, d2] }
  | _ => none }
def incbreakRangeRow : OpenClaim := { program := "ytkpblieanejmeaa", sum := "e79302ecfaee96b0269ed6ac67a67e0cc878024a9dba0508c2927009d9bccf0d", func := "unicodetext/unicodetextlaw54.IncbreakRange", spec := "incbreakRange", unfollowed := true, recurses := true, apart := false }
def IncbreakRangeSaid : Prop := incbreakRangeRow.holds Try.pinned (OpenSpec.ofChange incbreakRangeSpec)

/-- ITS FALSE NEIGHBOUR: 'it returns false'. Refute it at one input. -/
def incbreakRangeWrong : ChangeSpec := { name := "incbreakRange", fn := fun _ => fun
  | [d1, d2] => { results := [.lit (.bool false)], args := [d1, d2] }
  | _ => none }
def IncbreakRangeWrongFalsely : Prop := incbreakRangeRow.holds Try.pinned (OpenSpec.ofChange incbreakRangeWrong)

/-- 'unicodetextlaw54.IncbreakOrder': WHATEVER THE INPUT: true; the input reads as it did. -/
def incbreakOrderSpec : ChangeSpec := { name := "incbreakOrder", fn := fun _ => fun
  | [d1, d2] => { results := [.lit (.bool true)], args := [d1, d2] }
  | _ => none }
def incbreakOrderRow : OpenClaim := { program := "ytkpblieanejmeaa", sum := "e79302ecfaee96b0269ed6ac67a67e0cc878024a9dba0508c2927009d9bccf0d", func := "unicodetext/unicodetextlaw54.IncbreakOrder", spec := "incbreakOrder", unfollowed := true, recurses := true, apart := false }
def IncbreakOrderSaid : Prop := incbreakOrderRow.holds Try.pinned (OpenSpec.ofChange incbreakOrderSpec)

/-- ITS FALSE NEIGHBOUR: 'it returns false'. Refute it at one input. -/
def incbreakOrderWrong : ChangeSpec := { name := "incbreakOrder", fn := fun _ => fun
  | [d1, d2] => { results := [.lit (.bool false)], args := [d1, d2] }
  | _ => none }
def IncbreakOrderWrongFalsely : Prop := incbreakOrderRow.holds Try.pinned (OpenSpec.ofChange incbreakOrderWrong)

/-- 'unicodetextlaw54.IncbreakNobody': WHATEVER THE INPUT: true; the input reads as it did. -/
def incbreakNobodySpec : ChangeSpec := { name := "incbreakNobody", fn := fun _ => fun
  | [d1, d2] => { results := [.lit (.bool true)], args := [d1, d2] }
  | _ => none }
def incbreakNobodyRow : OpenClaim := { program := "ytkpblieanejmeaa", sum := "e79302ecfaee96b0269ed6ac67a67e0cc878024a9dba0508c2927009d9bccf0d", func := "unicodetext/unicodetextlaw54.IncbreakNobody", spec := "incbreakNobody", unfollowed := true, recurses := true, apart := false }
def IncbreakNobodySaid : Prop := incbreakNobodyRow.holds Try.pinned (OpenSpec.ofChange incbreakNobodySpec)

/-- ITS FALSE NEIGHBOUR: 'it returns false'. Refute it at one input. -/
def incbreakNobodyWrong : ChangeSpec := { name := "incbreakNobody", fn := fun _ => fun
  | [d1, d2] => { results := [.lit (.bool false)], args := [d1, d2] }
  | _ => none }
def IncbreakNobodyWrongFalsely : Prop := incbreakNobodyRow.holds Try.pinned (OpenSpec.ofChange incbreakNobodyWrong)

/- THE SECOND FORM. 'bulk': how many values and letters a reading holds, each counted each time it is reached (what is shared counts as often as it is met; a slice's spare places count too). A statement '..UptoSaid' is the law's where the arguments, and the package variables that the reading takes, are together of bulk at most 1048576: NARROWER than '..Said'. Prove '..Said' where nothing that the law and all that it calls make is longer than what came in: it says more and counts as full. Else prove '..UptoSaid'. A law counts once. -/
mutual
def uptoBulk {H : Type} : DataW H → Nat
  | .lit (.string bytes) => bytes.length + 1
  | .lit _ => 1
  | .nil => 1
  | .ptr d => uptoBulk d + 1
  | .slice elems spare => uptoBulkAll elems + uptoBulkAll spare + 1
  | .agg parts => uptoBulkAll parts + 1
  | .iface _ d => uptoBulk d + 1
  | .map entries => uptoBulkEntries entries + 1
  | .held _ => 1
def uptoBulkAll {H : Type} : List (DataW H) → Nat
  | [] => 0
  | d :: r => uptoBulk d + uptoBulkAll r
def uptoBulkEntries {H : Type} : List (Lit × DataW H) → Nat
  | [] => 0
  | x :: r => uptoBulkEntry x + uptoBulkEntries r
def uptoBulkEntry {H : Type} : Lit × DataW H → Nat
  | (.string bytes, d) => bytes.length + uptoBulk d + 1
  | (_, d) => uptoBulk d + 1
 end
def uptoSmall : (H : Type) → List (DataW H) → Bool := fun _ ds => decide (uptoBulkAll ds ≤ 1048576)
def OpenSpec.upto (s : _root_.Go.ChangeSpec) : _root_.Go.OpenSpec := { _root_.Go.OpenSpec.ofChange s with cond := some uptoSmall }

/-- 'unicodetextlaw54.IncbreakPlays', WHERE WHAT IT READS IS OF BULK AT MOST 1048576: true; the input reads as it did. -/
def incbreakPlaysUptoRow : OpenClaim := { program := "ytkpblieanejmeaa", sum := "e79302ecfaee96b0269ed6ac67a67e0cc878024a9dba0508c2927009d9bccf0d", func := "unicodetext/unicodetextlaw54.IncbreakPlays", spec := "incbreakPlays", unfollowed := true, recurses := true, apart := false, narrowed := true }
def IncbreakPlaysUptoSaid : Prop := incbreakPlaysUptoRow.holds Try.pinned (OpenSpec.upto incbreakPlaysSpec)

/-- 'unicodetextlaw54.IncbreakAgain', WHERE WHAT IT READS IS OF BULK AT MOST 1048576: true; the input reads as it did. -/
def incbreakAgainUptoRow : OpenClaim := { program := "ytkpblieanejmeaa", sum := "e79302ecfaee96b0269ed6ac67a67e0cc878024a9dba0508c2927009d9bccf0d", func := "unicodetext/unicodetextlaw54.IncbreakAgain", spec := "incbreakAgain", unfollowed := true, recurses := true, apart := false, narrowed := true }
def IncbreakAgainUptoSaid : Prop := incbreakAgainUptoRow.holds Try.pinned (OpenSpec.upto incbreakAgainSpec)

/-- 'unicodetextlaw54.IncbreakUndoes', WHERE WHAT IT READS IS OF BULK AT MOST 1048576: true; the input reads as it did. -/
def incbreakUndoesUptoRow : OpenClaim := { program := "ytkpblieanejmeaa", sum := "e79302ecfaee96b0269ed6ac67a67e0cc878024a9dba0508c2927009d9bccf0d", func := "unicodetext/unicodetextlaw54.IncbreakUndoes", spec := "incbreakUndoes", unfollowed := true, recurses := true, apart := false, narrowed := true }
def IncbreakUndoesUptoSaid : Prop := incbreakUndoesUptoRow.holds Try.pinned (OpenSpec.upto incbreakUndoesSpec)

/-- 'unicodetextlaw54.IncbreakRange', WHERE WHAT IT READS IS OF BULK AT MOST 1048576: true; the input reads as it did. -/
def incbreakRangeUptoRow : OpenClaim := { program := "ytkpblieanejmeaa", sum := "e79302ecfaee96b0269ed6ac67a67e0cc878024a9dba0508c2927009d9bccf0d", func := "unicodetext/unicodetextlaw54.IncbreakRange", spec := "incbreakRange", unfollowed := true, recurses := true, apart := false, narrowed := true }
def IncbreakRangeUptoSaid : Prop := incbreakRangeUptoRow.holds Try.pinned (OpenSpec.upto incbreakRangeSpec)

/-- 'unicodetextlaw54.IncbreakOrder', WHERE WHAT IT READS IS OF BULK AT MOST 1048576: true; the input reads as it did. -/
def incbreakOrderUptoRow : OpenClaim := { program := "ytkpblieanejmeaa", sum := "e79302ecfaee96b0269ed6ac67a67e0cc878024a9dba0508c2927009d9bccf0d", func := "unicodetext/unicodetextlaw54.IncbreakOrder", spec := "incbreakOrder", unfollowed := true, recurses := true, apart := false, narrowed := true }
def IncbreakOrderUptoSaid : Prop := incbreakOrderUptoRow.holds Try.pinned (OpenSpec.upto incbreakOrderSpec)

/-- 'unicodetextlaw54.IncbreakNobody', WHERE WHAT IT READS IS OF BULK AT MOST 1048576: true; the input reads as it did. -/
def incbreakNobodyUptoRow : OpenClaim := { program := "ytkpblieanejmeaa", sum := "e79302ecfaee96b0269ed6ac67a67e0cc878024a9dba0508c2927009d9bccf0d", func := "unicodetext/unicodetextlaw54.IncbreakNobody", spec := "incbreakNobody", unfollowed := true, recurses := true, apart := false, narrowed := true }
def IncbreakNobodyUptoSaid : Prop := incbreakNobodyUptoRow.holds Try.pinned (OpenSpec.upto incbreakNobodySpec)

end Rows
end Go.Proofs.Ytkpblieanejmeaa
