/-
  NARROWER THAN 'FOR EVERY INPUT', by the rows' own cells (each row's printed sentence says how): CodepointDigits: laid · CodepointParses: laid · CodepointPrefixes: laid · CodepointCompares: laid · CodepointOrders: laid · CodepointKinds: laid · CodepointScalars: laid.
  DERIVED. THE GIVEN ROWS OF THIS SEAT. 7 by the template 'for every input the law returns true; each argument reads behind the call as it read before'; 0 by the template 'total and deterministic' (their statements: YthljjfanmoeegaaDoorTotals.lean).
  GIVEN WITH THE SEED: the statements are not yours to turn. If you find one false, say at which input.
  Laid BY PROGRAM, IN A SANDBOX (cutbox-rows.mjs): the forced cells as the released guide's own fill.sh prints them over the translation 9d3142897359e03c… (all of the seat's roots in one cut). By AI agents, Wed Nov 11 2026. No macro, syntax, notation, axiom, sorry.
-/
import Derived.Test.YthljjfanmoeegaaDoorChecked
import GoSem.Claim
import GoSem.ClaimJoined
import GoSem.ClaimMapViews
import Derived.JoinedTies
import Derived.KernelRfl
namespace Go.Proofs.YthljjfanmoeegaaDoor
/- THE CELL 'sum', in the pinned program and in every row, IS THE sha256 OF THE DUMP (.gsa) THAT YthljjfanmoeegaaDoorProg.lean LOADS. Nothing in Lean hashes anything: it is a label: what it is worth is what the hold of that sum in a sandbox is worth. -/
noncomputable def Tryd.pinned : Pinned := { name := "ythljjfanmoeegaadoor", sum := "9d3142897359e03cc764f46537d28ae7ec7aef9f115a5e93d1d0bcc31ed8310a", checked := Tryd.checked }
namespace Rows
def none {H : Type} : Left H := { results := [], args := [] }

/- WHAT THE LISTED PACKAGE-LEVEL VARIABLES READ AS WHEN THE CALL BEGINS. Each datum BY PROGRAM (the guide's laid-datum.mjs) off the statement by which the dump's own 'gosem.cut.vars' lays the variable. In a bare row this is a premise. The card (YthljjfanmoeegaaDoorCards.lean) ties it to the program's text. -/
def laid_unicodetext_codepoint_digits {H : Type} : DataW H := .agg [.lit (.int .u8 48), .lit (.int .u8 49), .lit (.int .u8 50), .lit (.int .u8 51), .lit (.int .u8 52), .lit (.int .u8 53), .lit (.int .u8 54), .lit (.int .u8 55), .lit (.int .u8 56), .lit (.int .u8 57), .lit (.int .u8 65), .lit (.int .u8 66), .lit (.int .u8 67), .lit (.int .u8 68), .lit (.int .u8 69), .lit (.int .u8 70)]

/-- 'unicodetextlaw01.CodepointDigits': WHATEVER THE INPUT: true; the input reads as it did. -/
def codepointDigitsSpec : ChangeSpec := { name := "codepointDigits", fn := fun _ => fun
  | [d] => { results := [.lit (.bool true)], args := [d] }
  | _ => none }
def codepointDigitsRow : OpenClaim := { program := "ythljjfanmoeegaadoor", sum := "9d3142897359e03cc764f46537d28ae7ec7aef9f115a5e93d1d0bcc31ed8310a", func := "unicodetext/unicodetextlaw01.CodepointDigits", spec := "codepointDigits", named := ["unicodetext/codepoint.digits"], apart := false, laid := [("unicodetext/codepoint.digits", laid_unicodetext_codepoint_digits)] }
def CodepointDigitsSaid : Prop := codepointDigitsRow.holds Tryd.pinned (OpenSpec.ofChange codepointDigitsSpec)

/-- ITS FALSE NEIGHBOUR: 'it returns false'. Refute it at one input. -/
def codepointDigitsWrong : ChangeSpec := { name := "codepointDigits", fn := fun _ => fun
  | [d] => { results := [.lit (.bool false)], args := [d] }
  | _ => none }
def CodepointDigitsWrongFalsely : Prop := codepointDigitsRow.holds Tryd.pinned (OpenSpec.ofChange codepointDigitsWrong)

/-- 'unicodetextlaw01.CodepointParses': WHATEVER THE INPUT: true; the input reads as it did. -/
def codepointParsesSpec : ChangeSpec := { name := "codepointParses", fn := fun _ => fun
  | [d] => { results := [.lit (.bool true)], args := [d] }
  | _ => none }
def codepointParsesRow : OpenClaim := { program := "ythljjfanmoeegaadoor", sum := "9d3142897359e03cc764f46537d28ae7ec7aef9f115a5e93d1d0bcc31ed8310a", func := "unicodetext/unicodetextlaw01.CodepointParses", spec := "codepointParses", named := ["unicodetext/codepoint.digits"], apart := false, laid := [("unicodetext/codepoint.digits", laid_unicodetext_codepoint_digits)] }
def CodepointParsesSaid : Prop := codepointParsesRow.holds Tryd.pinned (OpenSpec.ofChange codepointParsesSpec)

/-- ITS FALSE NEIGHBOUR: 'it returns false'. Refute it at one input. -/
def codepointParsesWrong : ChangeSpec := { name := "codepointParses", fn := fun _ => fun
  | [d] => { results := [.lit (.bool false)], args := [d] }
  | _ => none }
def CodepointParsesWrongFalsely : Prop := codepointParsesRow.holds Tryd.pinned (OpenSpec.ofChange codepointParsesWrong)

/-- 'unicodetextlaw01.CodepointPrefixes': WHATEVER THE INPUT: true; the input reads as it did. -/
def codepointPrefixesSpec : ChangeSpec := { name := "codepointPrefixes", fn := fun _ => fun
  | [d1, d2, d3] => { results := [.lit (.bool true)], args := [d1, d2, d3] }
  | _ => none }
def codepointPrefixesRow : OpenClaim := { program := "ythljjfanmoeegaadoor", sum := "9d3142897359e03cc764f46537d28ae7ec7aef9f115a5e93d1d0bcc31ed8310a", func := "unicodetext/unicodetextlaw01.CodepointPrefixes", spec := "codepointPrefixes", named := ["unicodetext/codepoint.digits"], apart := false, laid := [("unicodetext/codepoint.digits", laid_unicodetext_codepoint_digits)] }
def CodepointPrefixesSaid : Prop := codepointPrefixesRow.holds Tryd.pinned (OpenSpec.ofChange codepointPrefixesSpec)

/-- ITS FALSE NEIGHBOUR: 'it returns false'. Refute it at one input. -/
def codepointPrefixesWrong : ChangeSpec := { name := "codepointPrefixes", fn := fun _ => fun
  | [d1, d2, d3] => { results := [.lit (.bool false)], args := [d1, d2, d3] }
  | _ => none }
def CodepointPrefixesWrongFalsely : Prop := codepointPrefixesRow.holds Tryd.pinned (OpenSpec.ofChange codepointPrefixesWrong)

/-- 'unicodetextlaw01.CodepointCompares': WHATEVER THE INPUT: true; the input reads as it did. -/
def codepointComparesSpec : ChangeSpec := { name := "codepointCompares", fn := fun _ => fun
  | [d1, d2] => { results := [.lit (.bool true)], args := [d1, d2] }
  | _ => none }
def codepointComparesRow : OpenClaim := { program := "ythljjfanmoeegaadoor", sum := "9d3142897359e03cc764f46537d28ae7ec7aef9f115a5e93d1d0bcc31ed8310a", func := "unicodetext/unicodetextlaw01.CodepointCompares", spec := "codepointCompares", named := ["unicodetext/codepoint.digits"], apart := false, laid := [("unicodetext/codepoint.digits", laid_unicodetext_codepoint_digits)] }
def CodepointComparesSaid : Prop := codepointComparesRow.holds Tryd.pinned (OpenSpec.ofChange codepointComparesSpec)

/-- ITS FALSE NEIGHBOUR: 'it returns false'. Refute it at one input. -/
def codepointComparesWrong : ChangeSpec := { name := "codepointCompares", fn := fun _ => fun
  | [d1, d2] => { results := [.lit (.bool false)], args := [d1, d2] }
  | _ => none }
def CodepointComparesWrongFalsely : Prop := codepointComparesRow.holds Tryd.pinned (OpenSpec.ofChange codepointComparesWrong)

/-- 'unicodetextlaw01.CodepointOrders': WHATEVER THE INPUT: true; the input reads as it did. -/
def codepointOrdersSpec : ChangeSpec := { name := "codepointOrders", fn := fun _ => fun
  | [d1, d2, d3] => { results := [.lit (.bool true)], args := [d1, d2, d3] }
  | _ => none }
def codepointOrdersRow : OpenClaim := { program := "ythljjfanmoeegaadoor", sum := "9d3142897359e03cc764f46537d28ae7ec7aef9f115a5e93d1d0bcc31ed8310a", func := "unicodetext/unicodetextlaw01.CodepointOrders", spec := "codepointOrders", named := ["unicodetext/codepoint.digits"], apart := false, laid := [("unicodetext/codepoint.digits", laid_unicodetext_codepoint_digits)] }
def CodepointOrdersSaid : Prop := codepointOrdersRow.holds Tryd.pinned (OpenSpec.ofChange codepointOrdersSpec)

/-- ITS FALSE NEIGHBOUR: 'it returns false'. Refute it at one input. -/
def codepointOrdersWrong : ChangeSpec := { name := "codepointOrders", fn := fun _ => fun
  | [d1, d2, d3] => { results := [.lit (.bool false)], args := [d1, d2, d3] }
  | _ => none }
def CodepointOrdersWrongFalsely : Prop := codepointOrdersRow.holds Tryd.pinned (OpenSpec.ofChange codepointOrdersWrong)

/-- 'unicodetextlaw01.CodepointKinds': WHATEVER THE INPUT: true; the input reads as it did. -/
def codepointKindsSpec : ChangeSpec := { name := "codepointKinds", fn := fun _ => fun
  | [d] => { results := [.lit (.bool true)], args := [d] }
  | _ => none }
def codepointKindsRow : OpenClaim := { program := "ythljjfanmoeegaadoor", sum := "9d3142897359e03cc764f46537d28ae7ec7aef9f115a5e93d1d0bcc31ed8310a", func := "unicodetext/unicodetextlaw01.CodepointKinds", spec := "codepointKinds", named := ["unicodetext/codepoint.digits"], apart := false, laid := [("unicodetext/codepoint.digits", laid_unicodetext_codepoint_digits)] }
def CodepointKindsSaid : Prop := codepointKindsRow.holds Tryd.pinned (OpenSpec.ofChange codepointKindsSpec)

/-- ITS FALSE NEIGHBOUR: 'it returns false'. Refute it at one input. -/
def codepointKindsWrong : ChangeSpec := { name := "codepointKinds", fn := fun _ => fun
  | [d] => { results := [.lit (.bool false)], args := [d] }
  | _ => none }
def CodepointKindsWrongFalsely : Prop := codepointKindsRow.holds Tryd.pinned (OpenSpec.ofChange codepointKindsWrong)

/-- 'unicodetextlaw01.CodepointScalars': WHATEVER THE INPUT: true; the input reads as it did. -/
def codepointScalarsSpec : ChangeSpec := { name := "codepointScalars", fn := fun _ => fun
  | [d] => { results := [.lit (.bool true)], args := [d] }
  | _ => none }
def codepointScalarsRow : OpenClaim := { program := "ythljjfanmoeegaadoor", sum := "9d3142897359e03cc764f46537d28ae7ec7aef9f115a5e93d1d0bcc31ed8310a", func := "unicodetext/unicodetextlaw01.CodepointScalars", spec := "codepointScalars", named := ["unicodetext/codepoint.digits"], apart := false, laid := [("unicodetext/codepoint.digits", laid_unicodetext_codepoint_digits)] }
def CodepointScalarsSaid : Prop := codepointScalarsRow.holds Tryd.pinned (OpenSpec.ofChange codepointScalarsSpec)

/-- ITS FALSE NEIGHBOUR: 'it returns false'. Refute it at one input. -/
def codepointScalarsWrong : ChangeSpec := { name := "codepointScalars", fn := fun _ => fun
  | [d] => { results := [.lit (.bool false)], args := [d] }
  | _ => none }
def CodepointScalarsWrongFalsely : Prop := codepointScalarsRow.holds Tryd.pinned (OpenSpec.ofChange codepointScalarsWrong)

/- THE SECOND FORM. 'bulk': how many values and letters a reading holds, each counted each time it is reached (what is shared counts as often as it is met; a slice's spare places count too). A statement '..UptoSaid' is the law's where the arguments, and the package variables that the reading takes, are together of bulk at most 1048576: NARROWER than '..Said'. Prove '..Said' where nothing that the law and all that it calls make is longer than what came in: it says more and counts as full. Else prove '..UptoSaid'. A law counts once. -/
mutual
def uptoBulk {H : Type} : DataW H → Nat
  | .lit (.string bytes) => bytes.length + 1
  | .lit _ => 1
  | .nil => 1
  | .ptr d => uptoBulk d + 1
  | .slice elems spare => uptoBulkAll elems + uptoBulkAll spare + 1
  | .agg parts => uptoBulkAll parts + 1
  | .iface _ d => uptoBulk d + 1
  | .map entries => uptoBulkEntries entries + 1
  | .held _ => 1
def uptoBulkAll {H : Type} : List (DataW H) → Nat
  | [] => 0
  | d :: r => uptoBulk d + uptoBulkAll r
def uptoBulkEntries {H : Type} : List (Lit × DataW H) → Nat
  | [] => 0
  | x :: r => uptoBulkEntry x + uptoBulkEntries r
def uptoBulkEntry {H : Type} : Lit × DataW H → Nat
  | (.string bytes, d) => bytes.length + uptoBulk d + 1
  | (_, d) => uptoBulk d + 1
 end
def uptoSmall : (H : Type) → List (DataW H) → Bool := fun _ ds => decide (uptoBulkAll ds ≤ 1048576)
def OpenSpec.upto (s : _root_.Go.ChangeSpec) : _root_.Go.OpenSpec := { _root_.Go.OpenSpec.ofChange s with cond := some uptoSmall }

/-- 'unicodetextlaw01.CodepointDigits', WHERE WHAT IT READS IS OF BULK AT MOST 1048576: true; the input reads as it did. -/
def codepointDigitsUptoRow : OpenClaim := { program := "ythljjfanmoeegaadoor", sum := "9d3142897359e03cc764f46537d28ae7ec7aef9f115a5e93d1d0bcc31ed8310a", func := "unicodetext/unicodetextlaw01.CodepointDigits", spec := "codepointDigits", named := ["unicodetext/codepoint.digits"], apart := false, laid := [("unicodetext/codepoint.digits", laid_unicodetext_codepoint_digits)], narrowed := true }
def CodepointDigitsUptoSaid : Prop := codepointDigitsUptoRow.holds Tryd.pinned (OpenSpec.upto codepointDigitsSpec)

/-- 'unicodetextlaw01.CodepointParses', WHERE WHAT IT READS IS OF BULK AT MOST 1048576: true; the input reads as it did. -/
def codepointParsesUptoRow : OpenClaim := { program := "ythljjfanmoeegaadoor", sum := "9d3142897359e03cc764f46537d28ae7ec7aef9f115a5e93d1d0bcc31ed8310a", func := "unicodetext/unicodetextlaw01.CodepointParses", spec := "codepointParses", named := ["unicodetext/codepoint.digits"], apart := false, laid := [("unicodetext/codepoint.digits", laid_unicodetext_codepoint_digits)], narrowed := true }
def CodepointParsesUptoSaid : Prop := codepointParsesUptoRow.holds Tryd.pinned (OpenSpec.upto codepointParsesSpec)

/-- 'unicodetextlaw01.CodepointPrefixes', WHERE WHAT IT READS IS OF BULK AT MOST 1048576: true; the input reads as it did. -/
def codepointPrefixesUptoRow : OpenClaim := { program := "ythljjfanmoeegaadoor", sum := "9d3142897359e03cc764f46537d28ae7ec7aef9f115a5e93d1d0bcc31ed8310a", func := "unicodetext/unicodetextlaw01.CodepointPrefixes", spec := "codepointPrefixes", named := ["unicodetext/codepoint.digits"], apart := false, laid := [("unicodetext/codepoint.digits", laid_unicodetext_codepoint_digits)], narrowed := true }
def CodepointPrefixesUptoSaid : Prop := codepointPrefixesUptoRow.holds Tryd.pinned (OpenSpec.upto codepointPrefixesSpec)

/-- 'unicodetextlaw01.CodepointCompares', WHERE WHAT IT READS IS OF BULK AT MOST 1048576: true; the input reads as it did. -/
def codepointComparesUptoRow : OpenClaim := { program := "ythljjfanmoeegaadoor", sum := "9d3142897359e03cc764f46537d28ae7ec7aef9f115a5e93d1d0bcc31ed8310a", func := "unicodetext/unicodetextlaw01.CodepointCompares", spec := "codepointCompares", named := ["unicodetext/codepoint.digits"], apart := false, laid := [("unicodetext/codepoint.digits", laid_unicodetext_codepoint_digits)], narrowed := true }
def CodepointComparesUptoSaid : Prop := codepointComparesUptoRow.holds Tryd.pinned (OpenSpec.upto codepointComparesSpec)

/-- 'unicodetextlaw01.CodepointOrders', WHERE WHAT IT READS IS OF BULK AT MOST 1048576: true; the input reads as it did. -/
def codepointOrdersUptoRow : OpenClaim := { program := "ythljjfanmoeegaadoor", sum := "9d3142897359e03cc764f46537d28ae7ec7aef9f115a5e93d1d0bcc31ed8310a", func := "unicodetext/unicodetextlaw01.CodepointOrders", spec := "codepointOrders", named := ["unicodetext/codepoint.digits"], apart := false, laid := [("unicodetext/codepoint.digits", laid_unicodetext_codepoint_digits)], narrowed := true }
def CodepointOrdersUptoSaid : Prop := codepointOrdersUptoRow.holds Tryd.pinned (OpenSpec.upto codepointOrdersSpec)

/-- 'unicodetextlaw01.CodepointKinds', WHERE WHAT IT READS IS OF BULK AT MOST 1048576: true; the input reads as it did. -/
def codepointKindsUptoRow : OpenClaim := { program := "ythljjfanmoeegaadoor", sum := "9d3142897359e03cc764f46537d28ae7ec7aef9f115a5e93d1d0bcc31ed8310a", func := "unicodetext/unicodetextlaw01.CodepointKinds", spec := "codepointKinds", named := ["unicodetext/codepoint.digits"], apart := false, laid := [("unicodetext/codepoint.digits", laid_unicodetext_codepoint_digits)], narrowed := true }
def CodepointKindsUptoSaid : Prop := codepointKindsUptoRow.holds Tryd.pinned (OpenSpec.upto codepointKindsSpec)

/-- 'unicodetextlaw01.CodepointScalars', WHERE WHAT IT READS IS OF BULK AT MOST 1048576: true; the input reads as it did. -/
def codepointScalarsUptoRow : OpenClaim := { program := "ythljjfanmoeegaadoor", sum := "9d3142897359e03cc764f46537d28ae7ec7aef9f115a5e93d1d0bcc31ed8310a", func := "unicodetext/unicodetextlaw01.CodepointScalars", spec := "codepointScalars", named := ["unicodetext/codepoint.digits"], apart := false, laid := [("unicodetext/codepoint.digits", laid_unicodetext_codepoint_digits)], narrowed := true }
def CodepointScalarsUptoSaid : Prop := codepointScalarsUptoRow.holds Tryd.pinned (OpenSpec.upto codepointScalarsSpec)

end Rows
end Go.Proofs.YthljjfanmoeegaaDoor
