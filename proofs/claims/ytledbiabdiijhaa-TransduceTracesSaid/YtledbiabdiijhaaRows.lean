/-
  No cell of these rows narrows 'for every input' (looked for: loops, veiled, ifaces, maps, wideKeys, modest, calm, conditions, laid).
  DERIVED. THE GIVEN ROWS OF THIS SEAT. 8 by the template 'for every input the law returns true; each argument reads behind the call as it read before'; 0 by the template 'total and deterministic' (their statements: YtledbiabdiijhaaTotals.lean).
  GIVEN WITH THE SEED: the statements are not yours to turn. If you find one false, say at which input.
  Laid BY PROGRAM, IN A SANDBOX (cutbox-rows.mjs): the forced cells as the released guide's own fill.sh prints them over the translation b09ac05a88db5088… (all of the seat's roots in one cut). By AI agents, Wed Nov 11 2026. No macro, syntax, notation, axiom, sorry.
-/
import Derived.Test.YtledbiabdiijhaaChecked
import GoSem.Claim
import GoSem.ClaimJoined
import GoSem.ClaimMapViews
import Derived.JoinedTies
import Derived.KernelRfl
namespace Go.Proofs.Ytledbiabdiijhaa
/- THE CELL 'sum', in the pinned program and in every row, IS THE sha256 OF THE DUMP (.gsa) THAT YtledbiabdiijhaaProg.lean LOADS. Nothing in Lean hashes anything: it is a label: what it is worth is what the hold of that sum in a sandbox is worth. -/
noncomputable def Try.pinned : Pinned := { name := "ytledbiabdiijhaa", sum := "b09ac05a88db5088a3c53127920c0e0a36c921c97b536fe27e84af5a692c960c", checked := Try.checked }
namespace Rows
def none {H : Type} : Left H := { results := [], args := [] }

/-- 'unicodetextlaw51.TransduceSteps': WHATEVER THE INPUT: true; the input reads as it did. -/
def transduceStepsSpec : ChangeSpec := { name := "transduceSteps", fn := fun _ => fun
  | [d1, d2, d3] => { results := [.lit (.bool true)], args := [d1, d2, d3] }
  | _ => none }
def transduceStepsRow : OpenClaim := { program := "ytledbiabdiijhaa", sum := "b09ac05a88db5088a3c53127920c0e0a36c921c97b536fe27e84af5a692c960c", func := "unicodetext/unicodetextlaw51.TransduceSteps", spec := "transduceSteps", unfollowed := true, recurses := true, plainKeys := false, apart := false }
def TransduceStepsSaid : Prop := transduceStepsRow.holds Try.pinned (OpenSpec.ofChange transduceStepsSpec)

/-- ITS FALSE NEIGHBOUR: 'it returns false'. Refute it at one input. -/
def transduceStepsWrong : ChangeSpec := { name := "transduceSteps", fn := fun _ => fun
  | [d1, d2, d3] => { results := [.lit (.bool false)], args := [d1, d2, d3] }
  | _ => none }
def TransduceStepsWrongFalsely : Prop := transduceStepsRow.holds Try.pinned (OpenSpec.ofChange transduceStepsWrong)

/-- 'unicodetextlaw51.TransduceApplies': WHATEVER THE INPUT: true; the input reads as it did. -/
def transduceAppliesSpec : ChangeSpec := { name := "transduceApplies", fn := fun _ => fun
  | [d1, d2] => { results := [.lit (.bool true)], args := [d1, d2] }
  | _ => none }
def transduceAppliesRow : OpenClaim := { program := "ytledbiabdiijhaa", sum := "b09ac05a88db5088a3c53127920c0e0a36c921c97b536fe27e84af5a692c960c", func := "unicodetext/unicodetextlaw51.TransduceApplies", spec := "transduceApplies", unfollowed := true, recurses := true, plainKeys := false, apart := false }
def TransduceAppliesSaid : Prop := transduceAppliesRow.holds Try.pinned (OpenSpec.ofChange transduceAppliesSpec)

/-- ITS FALSE NEIGHBOUR: 'it returns false'. Refute it at one input. -/
def transduceAppliesWrong : ChangeSpec := { name := "transduceApplies", fn := fun _ => fun
  | [d1, d2] => { results := [.lit (.bool false)], args := [d1, d2] }
  | _ => none }
def TransduceAppliesWrongFalsely : Prop := transduceAppliesRow.holds Try.pinned (OpenSpec.ofChange transduceAppliesWrong)

/-- 'unicodetextlaw51.TransduceKeeps': WHATEVER THE INPUT: true; the input reads as it did. -/
def transduceKeepsSpec : ChangeSpec := { name := "transduceKeeps", fn := fun _ => fun
  | [d1, d2] => { results := [.lit (.bool true)], args := [d1, d2] }
  | _ => none }
def transduceKeepsRow : OpenClaim := { program := "ytledbiabdiijhaa", sum := "b09ac05a88db5088a3c53127920c0e0a36c921c97b536fe27e84af5a692c960c", func := "unicodetext/unicodetextlaw51.TransduceKeeps", spec := "transduceKeeps", unfollowed := true, recurses := true, plainKeys := false, apart := false }
def TransduceKeepsSaid : Prop := transduceKeepsRow.holds Try.pinned (OpenSpec.ofChange transduceKeepsSpec)

/-- ITS FALSE NEIGHBOUR: 'it returns false'. Refute it at one input. -/
def transduceKeepsWrong : ChangeSpec := { name := "transduceKeeps", fn := fun _ => fun
  | [d1, d2] => { results := [.lit (.bool false)], args := [d1, d2] }
  | _ => none }
def TransduceKeepsWrongFalsely : Prop := transduceKeepsRow.holds Try.pinned (OpenSpec.ofChange transduceKeepsWrong)

/-- 'unicodetextlaw51.TransduceChains': WHATEVER THE INPUT: true; the input reads as it did. -/
def transduceChainsSpec : ChangeSpec := { name := "transduceChains", fn := fun _ => fun
  | [d1, d2] => { results := [.lit (.bool true)], args := [d1, d2] }
  | _ => none }
def transduceChainsRow : OpenClaim := { program := "ytledbiabdiijhaa", sum := "b09ac05a88db5088a3c53127920c0e0a36c921c97b536fe27e84af5a692c960c", func := "unicodetext/unicodetextlaw51.TransduceChains", spec := "transduceChains", unfollowed := true, recurses := true, plainKeys := false, apart := false }
def TransduceChainsSaid : Prop := transduceChainsRow.holds Try.pinned (OpenSpec.ofChange transduceChainsSpec)

/-- ITS FALSE NEIGHBOUR: 'it returns false'. Refute it at one input. -/
def transduceChainsWrong : ChangeSpec := { name := "transduceChains", fn := fun _ => fun
  | [d1, d2] => { results := [.lit (.bool false)], args := [d1, d2] }
  | _ => none }
def TransduceChainsWrongFalsely : Prop := transduceChainsRow.holds Try.pinned (OpenSpec.ofChange transduceChainsWrong)

/-- 'unicodetextlaw51.TransduceReaches': WHATEVER THE INPUT: true; the input reads as it did. -/
def transduceReachesSpec : ChangeSpec := { name := "transduceReaches", fn := fun _ => fun
  | [d] => { results := [.lit (.bool true)], args := [d] }
  | _ => none }
def transduceReachesRow : OpenClaim := { program := "ytledbiabdiijhaa", sum := "b09ac05a88db5088a3c53127920c0e0a36c921c97b536fe27e84af5a692c960c", func := "unicodetext/unicodetextlaw51.TransduceReaches", spec := "transduceReaches", unfollowed := true, recurses := true, plainKeys := false, apart := false }
def TransduceReachesSaid : Prop := transduceReachesRow.holds Try.pinned (OpenSpec.ofChange transduceReachesSpec)

/-- ITS FALSE NEIGHBOUR: 'it returns false'. Refute it at one input. -/
def transduceReachesWrong : ChangeSpec := { name := "transduceReaches", fn := fun _ => fun
  | [d] => { results := [.lit (.bool false)], args := [d] }
  | _ => none }
def TransduceReachesWrongFalsely : Prop := transduceReachesRow.holds Try.pinned (OpenSpec.ofChange transduceReachesWrong)

/-- 'unicodetextlaw51.TransduceWindows': WHATEVER THE INPUT: true; the input reads as it did. -/
def transduceWindowsSpec : ChangeSpec := { name := "transduceWindows", fn := fun _ => fun
  | [d1, d2, d3] => { results := [.lit (.bool true)], args := [d1, d2, d3] }
  | _ => none }
def transduceWindowsRow : OpenClaim := { program := "ytledbiabdiijhaa", sum := "b09ac05a88db5088a3c53127920c0e0a36c921c97b536fe27e84af5a692c960c", func := "unicodetext/unicodetextlaw51.TransduceWindows", spec := "transduceWindows", unfollowed := true, recurses := true, plainKeys := false, apart := false }
def TransduceWindowsSaid : Prop := transduceWindowsRow.holds Try.pinned (OpenSpec.ofChange transduceWindowsSpec)

/-- ITS FALSE NEIGHBOUR: 'it returns false'. Refute it at one input. -/
def transduceWindowsWrong : ChangeSpec := { name := "transduceWindows", fn := fun _ => fun
  | [d1, d2, d3] => { results := [.lit (.bool false)], args := [d1, d2, d3] }
  | _ => none }
def TransduceWindowsWrongFalsely : Prop := transduceWindowsRow.holds Try.pinned (OpenSpec.ofChange transduceWindowsWrong)

/-- 'unicodetextlaw51.TransduceTraces': WHATEVER THE INPUT: true; the input reads as it did. -/
def transduceTracesSpec : ChangeSpec := { name := "transduceTraces", fn := fun _ => fun
  | [d1, d2] => { results := [.lit (.bool true)], args := [d1, d2] }
  | _ => none }
def transduceTracesRow : OpenClaim := { program := "ytledbiabdiijhaa", sum := "b09ac05a88db5088a3c53127920c0e0a36c921c97b536fe27e84af5a692c960c", func := "unicodetext/unicodetextlaw51.TransduceTraces", spec := "transduceTraces", unfollowed := true, recurses := true, plainKeys := false, apart := false }
def TransduceTracesSaid : Prop := transduceTracesRow.holds Try.pinned (OpenSpec.ofChange transduceTracesSpec)

/-- ITS FALSE NEIGHBOUR: 'it returns false'. Refute it at one input. -/
def transduceTracesWrong : ChangeSpec := { name := "transduceTraces", fn := fun _ => fun
  | [d1, d2] => { results := [.lit (.bool false)], args := [d1, d2] }
  | _ => none }
def TransduceTracesWrongFalsely : Prop := transduceTracesRow.holds Try.pinned (OpenSpec.ofChange transduceTracesWrong)

/-- 'unicodetextlaw51.TransduceFollows': WHATEVER THE INPUT: true; the input reads as it did. -/
def transduceFollowsSpec : ChangeSpec := { name := "transduceFollows", fn := fun _ => fun
  | [d1, d2] => { results := [.lit (.bool true)], args := [d1, d2] }
  | _ => none }
def transduceFollowsRow : OpenClaim := { program := "ytledbiabdiijhaa", sum := "b09ac05a88db5088a3c53127920c0e0a36c921c97b536fe27e84af5a692c960c", func := "unicodetext/unicodetextlaw51.TransduceFollows", spec := "transduceFollows", unfollowed := true, recurses := true, plainKeys := false, apart := false }
def TransduceFollowsSaid : Prop := transduceFollowsRow.holds Try.pinned (OpenSpec.ofChange transduceFollowsSpec)

/-- ITS FALSE NEIGHBOUR: 'it returns false'. Refute it at one input. -/
def transduceFollowsWrong : ChangeSpec := { name := "transduceFollows", fn := fun _ => fun
  | [d1, d2] => { results := [.lit (.bool false)], args := [d1, d2] }
  | _ => none }
def TransduceFollowsWrongFalsely : Prop := transduceFollowsRow.holds Try.pinned (OpenSpec.ofChange transduceFollowsWrong)

/- THE SECOND FORM. 'bulk': how many values and letters a reading holds, each counted each time it is reached (what is shared counts as often as it is met; a slice's spare places count too). A statement '..UptoSaid' is the law's where the arguments, and the package variables that the reading takes, are together of bulk at most 1048576: NARROWER than '..Said'. Prove '..Said' where nothing that the law and all that it calls make is longer than what came in: it says more and counts as full. Else prove '..UptoSaid'. A law counts once. -/
mutual
def uptoBulk {H : Type} : DataW H → Nat
  | .lit (.string bytes) => bytes.length + 1
  | .lit _ => 1
  | .nil => 1
  | .ptr d => uptoBulk d + 1
  | .slice elems spare => uptoBulkAll elems + uptoBulkAll spare + 1
  | .agg parts => uptoBulkAll parts + 1
  | .iface _ d => uptoBulk d + 1
  | .map entries => uptoBulkEntries entries + 1
  | .held _ => 1
def uptoBulkAll {H : Type} : List (DataW H) → Nat
  | [] => 0
  | d :: r => uptoBulk d + uptoBulkAll r
def uptoBulkEntries {H : Type} : List (Lit × DataW H) → Nat
  | [] => 0
  | x :: r => uptoBulkEntry x + uptoBulkEntries r
def uptoBulkEntry {H : Type} : Lit × DataW H → Nat
  | (.string bytes, d) => bytes.length + uptoBulk d + 1
  | (_, d) => uptoBulk d + 1
 end
def uptoSmall : (H : Type) → List (DataW H) → Bool := fun _ ds => decide (uptoBulkAll ds ≤ 1048576)
def OpenSpec.upto (s : _root_.Go.ChangeSpec) : _root_.Go.OpenSpec := { _root_.Go.OpenSpec.ofChange s with cond := some uptoSmall }

/-- 'unicodetextlaw51.TransduceSteps', WHERE WHAT IT READS IS OF BULK AT MOST 1048576: true; the input reads as it did. -/
def transduceStepsUptoRow : OpenClaim := { program := "ytledbiabdiijhaa", sum := "b09ac05a88db5088a3c53127920c0e0a36c921c97b536fe27e84af5a692c960c", func := "unicodetext/unicodetextlaw51.TransduceSteps", spec := "transduceSteps", unfollowed := true, recurses := true, plainKeys := false, apart := false, narrowed := true }
def TransduceStepsUptoSaid : Prop := transduceStepsUptoRow.holds Try.pinned (OpenSpec.upto transduceStepsSpec)

/-- 'unicodetextlaw51.TransduceApplies', WHERE WHAT IT READS IS OF BULK AT MOST 1048576: true; the input reads as it did. -/
def transduceAppliesUptoRow : OpenClaim := { program := "ytledbiabdiijhaa", sum := "b09ac05a88db5088a3c53127920c0e0a36c921c97b536fe27e84af5a692c960c", func := "unicodetext/unicodetextlaw51.TransduceApplies", spec := "transduceApplies", unfollowed := true, recurses := true, plainKeys := false, apart := false, narrowed := true }
def TransduceAppliesUptoSaid : Prop := transduceAppliesUptoRow.holds Try.pinned (OpenSpec.upto transduceAppliesSpec)

/-- 'unicodetextlaw51.TransduceKeeps', WHERE WHAT IT READS IS OF BULK AT MOST 1048576: true; the input reads as it did. -/
def transduceKeepsUptoRow : OpenClaim := { program := "ytledbiabdiijhaa", sum := "b09ac05a88db5088a3c53127920c0e0a36c921c97b536fe27e84af5a692c960c", func := "unicodetext/unicodetextlaw51.TransduceKeeps", spec := "transduceKeeps", unfollowed := true, recurses := true, plainKeys := false, apart := false, narrowed := true }
def TransduceKeepsUptoSaid : Prop := transduceKeepsUptoRow.holds Try.pinned (OpenSpec.upto transduceKeepsSpec)

/-- 'unicodetextlaw51.TransduceChains', WHERE WHAT IT READS IS OF BULK AT MOST 1048576: true; the input reads as it did. -/
def transduceChainsUptoRow : OpenClaim := { program := "ytledbiabdiijhaa", sum := "b09ac05a88db5088a3c53127920c0e0a36c921c97b536fe27e84af5a692c960c", func := "unicodetext/unicodetextlaw51.TransduceChains", spec := "transduceChains", unfollowed := true, recurses := true, plainKeys := false, apart := false, narrowed := true }
def TransduceChainsUptoSaid : Prop := transduceChainsUptoRow.holds Try.pinned (OpenSpec.upto transduceChainsSpec)

/-- 'unicodetextlaw51.TransduceReaches', WHERE WHAT IT READS IS OF BULK AT MOST 1048576: true; the input reads as it did. -/
def transduceReachesUptoRow : OpenClaim := { program := "ytledbiabdiijhaa", sum := "b09ac05a88db5088a3c53127920c0e0a36c921c97b536fe27e84af5a692c960c", func := "unicodetext/unicodetextlaw51.TransduceReaches", spec := "transduceReaches", unfollowed := true, recurses := true, plainKeys := false, apart := false, narrowed := true }
def TransduceReachesUptoSaid : Prop := transduceReachesUptoRow.holds Try.pinned (OpenSpec.upto transduceReachesSpec)

/-- 'unicodetextlaw51.TransduceWindows', WHERE WHAT IT READS IS OF BULK AT MOST 1048576: true; the input reads as it did. -/
def transduceWindowsUptoRow : OpenClaim := { program := "ytledbiabdiijhaa", sum := "b09ac05a88db5088a3c53127920c0e0a36c921c97b536fe27e84af5a692c960c", func := "unicodetext/unicodetextlaw51.TransduceWindows", spec := "transduceWindows", unfollowed := true, recurses := true, plainKeys := false, apart := false, narrowed := true }
def TransduceWindowsUptoSaid : Prop := transduceWindowsUptoRow.holds Try.pinned (OpenSpec.upto transduceWindowsSpec)

/-- 'unicodetextlaw51.TransduceTraces', WHERE WHAT IT READS IS OF BULK AT MOST 1048576: true; the input reads as it did. -/
def transduceTracesUptoRow : OpenClaim := { program := "ytledbiabdiijhaa", sum := "b09ac05a88db5088a3c53127920c0e0a36c921c97b536fe27e84af5a692c960c", func := "unicodetext/unicodetextlaw51.TransduceTraces", spec := "transduceTraces", unfollowed := true, recurses := true, plainKeys := false, apart := false, narrowed := true }
def TransduceTracesUptoSaid : Prop := transduceTracesUptoRow.holds Try.pinned (OpenSpec.upto transduceTracesSpec)

/-- 'unicodetextlaw51.TransduceFollows', WHERE WHAT IT READS IS OF BULK AT MOST 1048576: true; the input reads as it did. -/
def transduceFollowsUptoRow : OpenClaim := { program := "ytledbiabdiijhaa", sum := "b09ac05a88db5088a3c53127920c0e0a36c921c97b536fe27e84af5a692c960c", func := "unicodetext/unicodetextlaw51.TransduceFollows", spec := "transduceFollows", unfollowed := true, recurses := true, plainKeys := false, apart := false, narrowed := true }
def TransduceFollowsUptoSaid : Prop := transduceFollowsUptoRow.holds Try.pinned (OpenSpec.upto transduceFollowsSpec)

end Rows
end Go.Proofs.Ytledbiabdiijhaa
