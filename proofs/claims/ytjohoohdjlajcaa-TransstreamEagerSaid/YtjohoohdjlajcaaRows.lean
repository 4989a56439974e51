/-
  No cell of these rows narrows 'for every input' (looked for: loops, veiled, ifaces, maps, wideKeys, modest, calm, conditions, laid).
  DERIVED. THE GIVEN ROWS OF THIS SEAT. 7 by the template 'for every input the law returns true; each argument reads behind the call as it read before'; 0 by the template 'total and deterministic' (their statements: YtjohoohdjlajcaaTotals.lean).
  GIVEN WITH THE SEED: the statements are not yours to turn. If you find one false, say at which input.
  Laid BY PROGRAM, IN A SANDBOX (cutbox-rows.mjs): the forced cells as the released guide's own fill.sh prints them over the translation 3ac905c9c7f7d9c2… (all of the seat's roots in one cut). By AI agents, Wed Nov 11 2026. No macro, syntax, notation, axiom, sorry.
-/
import Derived.Test.YtjohoohdjlajcaaChecked
import GoSem.Claim
import GoSem.ClaimJoined
import GoSem.ClaimMapViews
import Derived.JoinedTies
import Derived.KernelRfl
namespace Go.Proofs.Ytjohoohdjlajcaa
/- THE CELL 'sum', in the pinned program and in every row, IS THE sha256 OF THE DUMP (.gsa) THAT YtjohoohdjlajcaaProg.lean LOADS. Nothing in Lean hashes anything: it is a label: what it is worth is what the hold of that sum in a sandbox is worth. -/
noncomputable def Try.pinned : Pinned := { name := "ytjohoohdjlajcaa", sum := "3ac905c9c7f7d9c2c8f0ba7758fbe17cfa57ac3846c45b59b0abaa3e80ff57a1", checked := Try.checked }
namespace Rows
def none {H : Type} : Left H := { results := [], args := [] }

/-- 'unicodetextlaw52.TransstreamWhole': WHATEVER THE INPUT: true; the input reads as it did. -/
def transstreamWholeSpec : ChangeSpec := { name := "transstreamWhole", fn := fun _ => fun
  | [d1, d2] => { results := [.lit (.bool true)], args := [d1, d2] }
  | _ => none }
def transstreamWholeRow : OpenClaim := { program := "ytjohoohdjlajcaa", sum := "3ac905c9c7f7d9c2c8f0ba7758fbe17cfa57ac3846c45b59b0abaa3e80ff57a1", func := "unicodetext/unicodetextlaw52.TransstreamWhole", spec := "transstreamWhole", unfollowed := true, recurses := true, plainKeys := false, apart := false }
def TransstreamWholeSaid : Prop := transstreamWholeRow.holds Try.pinned (OpenSpec.ofChange transstreamWholeSpec)

/-- ITS FALSE NEIGHBOUR: 'it returns false'. Refute it at one input. -/
def transstreamWholeWrong : ChangeSpec := { name := "transstreamWhole", fn := fun _ => fun
  | [d1, d2] => { results := [.lit (.bool false)], args := [d1, d2] }
  | _ => none }
def TransstreamWholeWrongFalsely : Prop := transstreamWholeRow.holds Try.pinned (OpenSpec.ofChange transstreamWholeWrong)

/-- 'unicodetextlaw52.TransstreamIdle': WHATEVER THE INPUT: true; the input reads as it did. -/
def transstreamIdleSpec : ChangeSpec := { name := "transstreamIdle", fn := fun _ => fun
  | [d1, d2] => { results := [.lit (.bool true)], args := [d1, d2] }
  | _ => none }
def transstreamIdleRow : OpenClaim := { program := "ytjohoohdjlajcaa", sum := "3ac905c9c7f7d9c2c8f0ba7758fbe17cfa57ac3846c45b59b0abaa3e80ff57a1", func := "unicodetext/unicodetextlaw52.TransstreamIdle", spec := "transstreamIdle", unfollowed := true, recurses := true, plainKeys := false, apart := false }
def TransstreamIdleSaid : Prop := transstreamIdleRow.holds Try.pinned (OpenSpec.ofChange transstreamIdleSpec)

/-- ITS FALSE NEIGHBOUR: 'it returns false'. Refute it at one input. -/
def transstreamIdleWrong : ChangeSpec := { name := "transstreamIdle", fn := fun _ => fun
  | [d1, d2] => { results := [.lit (.bool false)], args := [d1, d2] }
  | _ => none }
def TransstreamIdleWrongFalsely : Prop := transstreamIdleRow.holds Try.pinned (OpenSpec.ofChange transstreamIdleWrong)

/-- 'unicodetextlaw52.TransstreamOpens': WHATEVER THE INPUT: true; the input reads as it did. -/
def transstreamOpensSpec : ChangeSpec := { name := "transstreamOpens", fn := fun _ => fun
  | [d1, d2] => { results := [.lit (.bool true)], args := [d1, d2] }
  | _ => none }
def transstreamOpensRow : OpenClaim := { program := "ytjohoohdjlajcaa", sum := "3ac905c9c7f7d9c2c8f0ba7758fbe17cfa57ac3846c45b59b0abaa3e80ff57a1", func := "unicodetext/unicodetextlaw52.TransstreamOpens", spec := "transstreamOpens", unfollowed := true, recurses := true, plainKeys := false, apart := false }
def TransstreamOpensSaid : Prop := transstreamOpensRow.holds Try.pinned (OpenSpec.ofChange transstreamOpensSpec)

/-- ITS FALSE NEIGHBOUR: 'it returns false'. Refute it at one input. -/
def transstreamOpensWrong : ChangeSpec := { name := "transstreamOpens", fn := fun _ => fun
  | [d1, d2] => { results := [.lit (.bool false)], args := [d1, d2] }
  | _ => none }
def TransstreamOpensWrongFalsely : Prop := transstreamOpensRow.holds Try.pinned (OpenSpec.ofChange transstreamOpensWrong)

/-- 'unicodetextlaw52.TransstreamWrites': WHATEVER THE INPUT: true; the input reads as it did. -/
def transstreamWritesSpec : ChangeSpec := { name := "transstreamWrites", fn := fun _ => fun
  | [d1, d2] => { results := [.lit (.bool true)], args := [d1, d2] }
  | _ => none }
def transstreamWritesRow : OpenClaim := { program := "ytjohoohdjlajcaa", sum := "3ac905c9c7f7d9c2c8f0ba7758fbe17cfa57ac3846c45b59b0abaa3e80ff57a1", func := "unicodetext/unicodetextlaw52.TransstreamWrites", spec := "transstreamWrites", unfollowed := true, recurses := true, plainKeys := false, apart := false }
def TransstreamWritesSaid : Prop := transstreamWritesRow.holds Try.pinned (OpenSpec.ofChange transstreamWritesSpec)

/-- ITS FALSE NEIGHBOUR: 'it returns false'. Refute it at one input. -/
def transstreamWritesWrong : ChangeSpec := { name := "transstreamWrites", fn := fun _ => fun
  | [d1, d2] => { results := [.lit (.bool false)], args := [d1, d2] }
  | _ => none }
def TransstreamWritesWrongFalsely : Prop := transstreamWritesRow.holds Try.pinned (OpenSpec.ofChange transstreamWritesWrong)

/-- 'unicodetextlaw52.TransstreamWaits': WHATEVER THE INPUT: true; the input reads as it did. -/
def transstreamWaitsSpec : ChangeSpec := { name := "transstreamWaits", fn := fun _ => fun
  | [d1, d2] => { results := [.lit (.bool true)], args := [d1, d2] }
  | _ => none }
def transstreamWaitsRow : OpenClaim := { program := "ytjohoohdjlajcaa", sum := "3ac905c9c7f7d9c2c8f0ba7758fbe17cfa57ac3846c45b59b0abaa3e80ff57a1", func := "unicodetext/unicodetextlaw52.TransstreamWaits", spec := "transstreamWaits", unfollowed := true, recurses := true, plainKeys := false, apart := false }
def TransstreamWaitsSaid : Prop := transstreamWaitsRow.holds Try.pinned (OpenSpec.ofChange transstreamWaitsSpec)

/-- ITS FALSE NEIGHBOUR: 'it returns false'. Refute it at one input. -/
def transstreamWaitsWrong : ChangeSpec := { name := "transstreamWaits", fn := fun _ => fun
  | [d1, d2] => { results := [.lit (.bool false)], args := [d1, d2] }
  | _ => none }
def TransstreamWaitsWrongFalsely : Prop := transstreamWaitsRow.holds Try.pinned (OpenSpec.ofChange transstreamWaitsWrong)

/-- 'unicodetextlaw52.TransstreamCuts': WHATEVER THE INPUT: true; the input reads as it did. -/
def transstreamCutsSpec : ChangeSpec := { name := "transstreamCuts", fn := fun _ => fun
  | [d1, d2] => { results := [.lit (.bool true)], args := [d1, d2] }
  | _ => none }
def transstreamCutsRow : OpenClaim := { program := "ytjohoohdjlajcaa", sum := "3ac905c9c7f7d9c2c8f0ba7758fbe17cfa57ac3846c45b59b0abaa3e80ff57a1", func := "unicodetext/unicodetextlaw52.TransstreamCuts", spec := "transstreamCuts", unfollowed := true, recurses := true, plainKeys := false, apart := false }
def TransstreamCutsSaid : Prop := transstreamCutsRow.holds Try.pinned (OpenSpec.ofChange transstreamCutsSpec)

/-- ITS FALSE NEIGHBOUR: 'it returns false'. Refute it at one input. -/
def transstreamCutsWrong : ChangeSpec := { name := "transstreamCuts", fn := fun _ => fun
  | [d1, d2] => { results := [.lit (.bool false)], args := [d1, d2] }
  | _ => none }
def TransstreamCutsWrongFalsely : Prop := transstreamCutsRow.holds Try.pinned (OpenSpec.ofChange transstreamCutsWrong)

/-- 'unicodetextlaw52.TransstreamEager': WHATEVER THE INPUT: true; the input reads as it did. -/
def transstreamEagerSpec : ChangeSpec := { name := "transstreamEager", fn := fun _ => fun
  | [d1, d2] => { results := [.lit (.bool true)], args := [d1, d2] }
  | _ => none }
def transstreamEagerRow : OpenClaim := { program := "ytjohoohdjlajcaa", sum := "3ac905c9c7f7d9c2c8f0ba7758fbe17cfa57ac3846c45b59b0abaa3e80ff57a1", func := "unicodetext/unicodetextlaw52.TransstreamEager", spec := "transstreamEager", unfollowed := true, recurses := true, plainKeys := false, apart := false }
def TransstreamEagerSaid : Prop := transstreamEagerRow.holds Try.pinned (OpenSpec.ofChange transstreamEagerSpec)

/-- ITS FALSE NEIGHBOUR: 'it returns false'. Refute it at one input. -/
def transstreamEagerWrong : ChangeSpec := { name := "transstreamEager", fn := fun _ => fun
  | [d1, d2] => { results := [.lit (.bool false)], args := [d1, d2] }
  | _ => none }
def TransstreamEagerWrongFalsely : Prop := transstreamEagerRow.holds Try.pinned (OpenSpec.ofChange transstreamEagerWrong)

/- THE SECOND FORM. 'bulk': how many values and letters a reading holds, each counted each time it is reached (what is shared counts as often as it is met; a slice's spare places count too). A statement '..UptoSaid' is the law's where the arguments, and the package variables that the reading takes, are together of bulk at most 1048576: NARROWER than '..Said'. Prove '..Said' where nothing that the law and all that it calls make is longer than what came in: it says more and counts as full. Else prove '..UptoSaid'. A law counts once. -/
mutual
def uptoBulk {H : Type} : DataW H → Nat
  | .lit (.string bytes) => bytes.length + 1
  | .lit _ => 1
  | .nil => 1
  | .ptr d => uptoBulk d + 1
  | .slice elems spare => uptoBulkAll elems + uptoBulkAll spare + 1
  | .agg parts => uptoBulkAll parts + 1
  | .iface _ d => uptoBulk d + 1
  | .map entries => uptoBulkEntries entries + 1
  | .held _ => 1
def uptoBulkAll {H : Type} : List (DataW H) → Nat
  | [] => 0
  | d :: r => uptoBulk d + uptoBulkAll r
def uptoBulkEntries {H : Type} : List (Lit × DataW H) → Nat
  | [] => 0
  | x :: r => uptoBulkEntry x + uptoBulkEntries r
def uptoBulkEntry {H : Type} : Lit × DataW H → Nat
  | (.string bytes, d) => bytes.length + uptoBulk d + 1
  | (_, d) => uptoBulk d + 1
 end
def uptoSmall : (H : Type) → List (DataW H) → Bool := fun _ ds => decide (uptoBulkAll ds ≤ 1048576)
def OpenSpec.upto (s : _root_.Go.ChangeSpec) : _root_.Go.OpenSpec := { _root_.Go.OpenSpec.ofChange s with cond := some uptoSmall }

/-- 'unicodetextlaw52.TransstreamWhole', WHERE WHAT IT READS IS OF BULK AT MOST 1048576: true; the input reads as it did. -/
def transstreamWholeUptoRow : OpenClaim := { program := "ytjohoohdjlajcaa", sum := "3ac905c9c7f7d9c2c8f0ba7758fbe17cfa57ac3846c45b59b0abaa3e80ff57a1", func := "unicodetext/unicodetextlaw52.TransstreamWhole", spec := "transstreamWhole", unfollowed := true, recurses := true, plainKeys := false, apart := false, narrowed := true }
def TransstreamWholeUptoSaid : Prop := transstreamWholeUptoRow.holds Try.pinned (OpenSpec.upto transstreamWholeSpec)

/-- 'unicodetextlaw52.TransstreamIdle', WHERE WHAT IT READS IS OF BULK AT MOST 1048576: true; the input reads as it did. -/
def transstreamIdleUptoRow : OpenClaim := { program := "ytjohoohdjlajcaa", sum := "3ac905c9c7f7d9c2c8f0ba7758fbe17cfa57ac3846c45b59b0abaa3e80ff57a1", func := "unicodetext/unicodetextlaw52.TransstreamIdle", spec := "transstreamIdle", unfollowed := true, recurses := true, plainKeys := false, apart := false, narrowed := true }
def TransstreamIdleUptoSaid : Prop := transstreamIdleUptoRow.holds Try.pinned (OpenSpec.upto transstreamIdleSpec)

/-- 'unicodetextlaw52.TransstreamOpens', WHERE WHAT IT READS IS OF BULK AT MOST 1048576: true; the input reads as it did. -/
def transstreamOpensUptoRow : OpenClaim := { program := "ytjohoohdjlajcaa", sum := "3ac905c9c7f7d9c2c8f0ba7758fbe17cfa57ac3846c45b59b0abaa3e80ff57a1", func := "unicodetext/unicodetextlaw52.TransstreamOpens", spec := "transstreamOpens", unfollowed := true, recurses := true, plainKeys := false, apart := false, narrowed := true }
def TransstreamOpensUptoSaid : Prop := transstreamOpensUptoRow.holds Try.pinned (OpenSpec.upto transstreamOpensSpec)

/-- 'unicodetextlaw52.TransstreamWrites', WHERE WHAT IT READS IS OF BULK AT MOST 1048576: true; the input reads as it did. -/
def transstreamWritesUptoRow : OpenClaim := { program := "ytjohoohdjlajcaa", sum := "3ac905c9c7f7d9c2c8f0ba7758fbe17cfa57ac3846c45b59b0abaa3e80ff57a1", func := "unicodetext/unicodetextlaw52.TransstreamWrites", spec := "transstreamWrites", unfollowed := true, recurses := true, plainKeys := false, apart := false, narrowed := true }
def TransstreamWritesUptoSaid : Prop := transstreamWritesUptoRow.holds Try.pinned (OpenSpec.upto transstreamWritesSpec)

/-- 'unicodetextlaw52.TransstreamWaits', WHERE WHAT IT READS IS OF BULK AT MOST 1048576: true; the input reads as it did. -/
def transstreamWaitsUptoRow : OpenClaim := { program := "ytjohoohdjlajcaa", sum := "3ac905c9c7f7d9c2c8f0ba7758fbe17cfa57ac3846c45b59b0abaa3e80ff57a1", func := "unicodetext/unicodetextlaw52.TransstreamWaits", spec := "transstreamWaits", unfollowed := true, recurses := true, plainKeys := false, apart := false, narrowed := true }
def TransstreamWaitsUptoSaid : Prop := transstreamWaitsUptoRow.holds Try.pinned (OpenSpec.upto transstreamWaitsSpec)

/-- 'unicodetextlaw52.TransstreamCuts', WHERE WHAT IT READS IS OF BULK AT MOST 1048576: true; the input reads as it did. -/
def transstreamCutsUptoRow : OpenClaim := { program := "ytjohoohdjlajcaa", sum := "3ac905c9c7f7d9c2c8f0ba7758fbe17cfa57ac3846c45b59b0abaa3e80ff57a1", func := "unicodetext/unicodetextlaw52.TransstreamCuts", spec := "transstreamCuts", unfollowed := true, recurses := true, plainKeys := false, apart := false, narrowed := true }
def TransstreamCutsUptoSaid : Prop := transstreamCutsUptoRow.holds Try.pinned (OpenSpec.upto transstreamCutsSpec)

/-- 'unicodetextlaw52.TransstreamEager', WHERE WHAT IT READS IS OF BULK AT MOST 1048576: true; the input reads as it did. -/
def transstreamEagerUptoRow : OpenClaim := { program := "ytjohoohdjlajcaa", sum := "3ac905c9c7f7d9c2c8f0ba7758fbe17cfa57ac3846c45b59b0abaa3e80ff57a1", func := "unicodetext/unicodetextlaw52.TransstreamEager", spec := "transstreamEager", unfollowed := true, recurses := true, plainKeys := false, apart := false, narrowed := true }
def TransstreamEagerUptoSaid : Prop := transstreamEagerUptoRow.holds Try.pinned (OpenSpec.upto transstreamEagerSpec)

end Rows
end Go.Proofs.Ytjohoohdjlajcaa
