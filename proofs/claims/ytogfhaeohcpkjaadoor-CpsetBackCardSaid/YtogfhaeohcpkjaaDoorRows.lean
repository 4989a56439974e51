/-
  NARROWER THAN 'FOR EVERY INPUT', by the rows' own cells (each row's printed sentence says how): CpsetPoints: laid · CpsetEnumerates: laid · CpsetTexts: laid · CpsetAlgebra: laid · CpsetHas: laid · CpsetMakes: laid · CpsetOperates: laid · CpsetOrders: laid · CpsetBack: laid · CpsetCounts: laid.
  DERIVED. THE GIVEN ROWS OF THIS SEAT. 10 by the template 'for every input the law returns true; each argument reads behind the call as it read before'; 0 by the template 'total and deterministic' (their statements: YtogfhaeohcpkjaaDoorTotals.lean).
  GIVEN WITH THE SEED: the statements are not yours to turn. If you find one false, say at which input.
  Laid BY PROGRAM, IN A SANDBOX (cutbox-rows.mjs): the forced cells as the released guide's own fill.sh prints them over the translation 8e3b87c7767d7687… (all of the seat's roots in one cut). By AI agents, Wed Nov 11 2026. No macro, syntax, notation, axiom, sorry.
-/
import Derived.Test.YtogfhaeohcpkjaaDoorChecked
import GoSem.PinnedTables
import GoSem.Claim
import GoSem.ClaimJoined
import GoSem.ClaimMapViews
import Derived.JoinedTies
import Derived.KernelRfl
namespace Go.Proofs.YtogfhaeohcpkjaaDoor
/- THE CELL 'sum', in the pinned program and in every row, IS THE sha256 OF THE DUMP (.gsa) THAT YtogfhaeohcpkjaaDoorProg.lean LOADS. Nothing in Lean hashes anything: it is a label: what it is worth is what the hold of that sum in a sandbox is worth. -/
noncomputable def Tryd.pinned : Pinned := { name := "ytogfhaeohcpkjaadoor", sum := "8e3b87c7767d768716cb0d7158bfa3292d52618f11bdb9ae2a46f68ff3f4c18a", checked := Tryd.checked }
namespace Rows
def none {H : Type} : Left H := { results := [], args := [] }

/- WHAT THE LISTED PACKAGE-LEVEL VARIABLES READ AS WHEN THE CALL BEGINS. Each datum BY PROGRAM (the guide's laid-datum.mjs) off the statement by which the dump's own 'gosem.cut.vars' lays the variable. In a bare row this is a premise. The card (YtogfhaeohcpkjaaDoorCards.lean) ties it to the program's text. -/
def laid_unicode_utf8_acceptRanges {H : Type} : DataW H := .agg [.agg [.lit (.int .u8 128), .lit (.int .u8 191)], .agg [.lit (.int .u8 160), .lit (.int .u8 191)], .agg [.lit (.int .u8 128), .lit (.int .u8 159)], .agg [.lit (.int .u8 144), .lit (.int .u8 191)], .agg [.lit (.int .u8 128), .lit (.int .u8 143)], .agg [.lit (.int .u8 0), .lit (.int .u8 0)], .agg [.lit (.int .u8 0), .lit (.int .u8 0)], .agg [.lit (.int .u8 0), .lit (.int .u8 0)], .agg [.lit (.int .u8 0), .lit (.int .u8 0)], .agg [.lit (.int .u8 0), .lit (.int .u8 0)], .agg [.lit (.int .u8 0), .lit (.int .u8 0)], .agg [.lit (.int .u8 0), .lit (.int .u8 0)], .agg [.lit (.int .u8 0), .lit (.int .u8 0)], .agg [.lit (.int .u8 0), .lit (.int .u8 0)], .agg [.lit (.int .u8 0), .lit (.int .u8 0)], .agg [.lit (.int .u8 0), .lit (.int .u8 0)]]
def laid_unicodetext_codepoint_digits {H : Type} : DataW H := .agg [.lit (.int .u8 48), .lit (.int .u8 49), .lit (.int .u8 50), .lit (.int .u8 51), .lit (.int .u8 52), .lit (.int .u8 53), .lit (.int .u8 54), .lit (.int .u8 55), .lit (.int .u8 56), .lit (.int .u8 57), .lit (.int .u8 65), .lit (.int .u8 66), .lit (.int .u8 67), .lit (.int .u8 68), .lit (.int .u8 69), .lit (.int .u8 70)]
/-- One of Go's own tables, pinned by name: the form's constant. -/
def laid_unicode_utf8_first : DataW Unit := Go.Pinned.utf8First

/-- 'unicodetextlaw02.CpsetPoints': WHATEVER THE INPUT: true; the input reads as it did. -/
def cpsetPointsSpec : ChangeSpec := { name := "cpsetPoints", fn := fun _ => fun
  | [d1, d2, d3] => { results := [.lit (.bool true)], args := [d1, d2, d3] }
  | _ => none }
def cpsetPointsRow : OpenClaim := { program := "ytogfhaeohcpkjaadoor", sum := "8e3b87c7767d768716cb0d7158bfa3292d52618f11bdb9ae2a46f68ff3f4c18a", func := "unicodetext/unicodetextlaw02.CpsetPoints", spec := "cpsetPoints", inPlace := ["internal/bytealg.CountString", "internal/bytealg.IndexByteString", "internal/bytealg.IndexString", "internal/abi.NoEscape", "internal/bytealg.MakeNoZero"], unfollowed := true, recurses := true, named := ["unicode/utf8.first", "unicode/utf8.acceptRanges", "internal/bytealg.MaxLen", "unicodetext/codepoint.digits"], apart := false, laid := [("unicode/utf8.acceptRanges", laid_unicode_utf8_acceptRanges), ("unicodetext/codepoint.digits", laid_unicodetext_codepoint_digits), ("unicode/utf8.first", laid_unicode_utf8_first)] }
def CpsetPointsSaid : Prop := cpsetPointsRow.holds Tryd.pinned (OpenSpec.ofChange cpsetPointsSpec)

/-- ITS FALSE NEIGHBOUR: 'it returns false'. Refute it at one input. -/
def cpsetPointsWrong : ChangeSpec := { name := "cpsetPoints", fn := fun _ => fun
  | [d1, d2, d3] => { results := [.lit (.bool false)], args := [d1, d2, d3] }
  | _ => none }
def CpsetPointsWrongFalsely : Prop := cpsetPointsRow.holds Tryd.pinned (OpenSpec.ofChange cpsetPointsWrong)

/-- 'unicodetextlaw02.CpsetEnumerates': WHATEVER THE INPUT: true; the input reads as it did. -/
def cpsetEnumeratesSpec : ChangeSpec := { name := "cpsetEnumerates", fn := fun _ => fun
  | [d1, d2] => { results := [.lit (.bool true)], args := [d1, d2] }
  | _ => none }
def cpsetEnumeratesRow : OpenClaim := { program := "ytogfhaeohcpkjaadoor", sum := "8e3b87c7767d768716cb0d7158bfa3292d52618f11bdb9ae2a46f68ff3f4c18a", func := "unicodetext/unicodetextlaw02.CpsetEnumerates", spec := "cpsetEnumerates", inPlace := ["internal/bytealg.CountString", "internal/bytealg.IndexByteString", "internal/bytealg.IndexString", "internal/abi.NoEscape", "internal/bytealg.MakeNoZero"], unfollowed := true, recurses := true, named := ["unicode/utf8.first", "unicode/utf8.acceptRanges", "internal/bytealg.MaxLen", "unicodetext/codepoint.digits"], apart := false, laid := [("unicode/utf8.acceptRanges", laid_unicode_utf8_acceptRanges), ("unicodetext/codepoint.digits", laid_unicodetext_codepoint_digits), ("unicode/utf8.first", laid_unicode_utf8_first)] }
def CpsetEnumeratesSaid : Prop := cpsetEnumeratesRow.holds Tryd.pinned (OpenSpec.ofChange cpsetEnumeratesSpec)

/-- ITS FALSE NEIGHBOUR: 'it returns false'. Refute it at one input. -/
def cpsetEnumeratesWrong : ChangeSpec := { name := "cpsetEnumerates", fn := fun _ => fun
  | [d1, d2] => { results := [.lit (.bool false)], args := [d1, d2] }
  | _ => none }
def CpsetEnumeratesWrongFalsely : Prop := cpsetEnumeratesRow.holds Tryd.pinned (OpenSpec.ofChange cpsetEnumeratesWrong)

/-- 'unicodetextlaw02.CpsetTexts': WHATEVER THE INPUT: true; the input reads as it did. -/
def cpsetTextsSpec : ChangeSpec := { name := "cpsetTexts", fn := fun _ => fun
  | [d1, d2] => { results := [.lit (.bool true)], args := [d1, d2] }
  | _ => none }
def cpsetTextsRow : OpenClaim := { program := "ytogfhaeohcpkjaadoor", sum := "8e3b87c7767d768716cb0d7158bfa3292d52618f11bdb9ae2a46f68ff3f4c18a", func := "unicodetext/unicodetextlaw02.CpsetTexts", spec := "cpsetTexts", inPlace := ["internal/bytealg.CountString", "internal/bytealg.IndexByteString", "internal/bytealg.IndexString", "internal/abi.NoEscape", "internal/bytealg.MakeNoZero"], unfollowed := true, recurses := true, named := ["unicode/utf8.first", "unicode/utf8.acceptRanges", "internal/bytealg.MaxLen", "unicodetext/codepoint.digits"], apart := false, laid := [("unicode/utf8.acceptRanges", laid_unicode_utf8_acceptRanges), ("unicodetext/codepoint.digits", laid_unicodetext_codepoint_digits), ("unicode/utf8.first", laid_unicode_utf8_first)] }
def CpsetTextsSaid : Prop := cpsetTextsRow.holds Tryd.pinned (OpenSpec.ofChange cpsetTextsSpec)

/-- ITS FALSE NEIGHBOUR: 'it returns false'. Refute it at one input. -/
def cpsetTextsWrong : ChangeSpec := { name := "cpsetTexts", fn := fun _ => fun
  | [d1, d2] => { results := [.lit (.bool false)], args := [d1, d2] }
  | _ => none }
def CpsetTextsWrongFalsely : Prop := cpsetTextsRow.holds Tryd.pinned (OpenSpec.ofChange cpsetTextsWrong)

/-- 'unicodetextlaw02.CpsetAlgebra': WHATEVER THE INPUT: true; the input reads as it did. -/
def cpsetAlgebraSpec : ChangeSpec := { name := "cpsetAlgebra", fn := fun _ => fun
  | [d1, d2, d3] => { results := [.lit (.bool true)], args := [d1, d2, d3] }
  | _ => none }
def cpsetAlgebraRow : OpenClaim := { program := "ytogfhaeohcpkjaadoor", sum := "8e3b87c7767d768716cb0d7158bfa3292d52618f11bdb9ae2a46f68ff3f4c18a", func := "unicodetext/unicodetextlaw02.CpsetAlgebra", spec := "cpsetAlgebra", inPlace := ["internal/bytealg.CountString", "internal/bytealg.IndexByteString", "internal/bytealg.IndexString", "internal/abi.NoEscape", "internal/bytealg.MakeNoZero"], unfollowed := true, recurses := true, named := ["unicode/utf8.first", "unicode/utf8.acceptRanges", "internal/bytealg.MaxLen", "unicodetext/codepoint.digits"], apart := false, laid := [("unicode/utf8.acceptRanges", laid_unicode_utf8_acceptRanges), ("unicodetext/codepoint.digits", laid_unicodetext_codepoint_digits), ("unicode/utf8.first", laid_unicode_utf8_first)] }
def CpsetAlgebraSaid : Prop := cpsetAlgebraRow.holds Tryd.pinned (OpenSpec.ofChange cpsetAlgebraSpec)

/-- ITS FALSE NEIGHBOUR: 'it returns false'. Refute it at one input. -/
def cpsetAlgebraWrong : ChangeSpec := { name := "cpsetAlgebra", fn := fun _ => fun
  | [d1, d2, d3] => { results := [.lit (.bool false)], args := [d1, d2, d3] }
  | _ => none }
def CpsetAlgebraWrongFalsely : Prop := cpsetAlgebraRow.holds Tryd.pinned (OpenSpec.ofChange cpsetAlgebraWrong)

/-- 'unicodetextlaw02.CpsetHas': WHATEVER THE INPUT: true; the input reads as it did. -/
def cpsetHasSpec : ChangeSpec := { name := "cpsetHas", fn := fun _ => fun
  | [d1, d2] => { results := [.lit (.bool true)], args := [d1, d2] }
  | _ => none }
def cpsetHasRow : OpenClaim := { program := "ytogfhaeohcpkjaadoor", sum := "8e3b87c7767d768716cb0d7158bfa3292d52618f11bdb9ae2a46f68ff3f4c18a", func := "unicodetext/unicodetextlaw02.CpsetHas", spec := "cpsetHas", inPlace := ["internal/bytealg.CountString", "internal/bytealg.IndexByteString", "internal/bytealg.IndexString", "internal/abi.NoEscape", "internal/bytealg.MakeNoZero"], unfollowed := true, recurses := true, named := ["unicode/utf8.first", "unicode/utf8.acceptRanges", "internal/bytealg.MaxLen", "unicodetext/codepoint.digits"], apart := false, laid := [("unicode/utf8.acceptRanges", laid_unicode_utf8_acceptRanges), ("unicodetext/codepoint.digits", laid_unicodetext_codepoint_digits), ("unicode/utf8.first", laid_unicode_utf8_first)] }
def CpsetHasSaid : Prop := cpsetHasRow.holds Tryd.pinned (OpenSpec.ofChange cpsetHasSpec)

/-- ITS FALSE NEIGHBOUR: 'it returns false'. Refute it at one input. -/
def cpsetHasWrong : ChangeSpec := { name := "cpsetHas", fn := fun _ => fun
  | [d1, d2] => { results := [.lit (.bool false)], args := [d1, d2] }
  | _ => none }
def CpsetHasWrongFalsely : Prop := cpsetHasRow.holds Tryd.pinned (OpenSpec.ofChange cpsetHasWrong)

/-- 'unicodetextlaw02.CpsetMakes': WHATEVER THE INPUT: true; the input reads as it did. -/
def cpsetMakesSpec : ChangeSpec := { name := "cpsetMakes", fn := fun _ => fun
  | [d] => { results := [.lit (.bool true)], args := [d] }
  | _ => none }
def cpsetMakesRow : OpenClaim := { program := "ytogfhaeohcpkjaadoor", sum := "8e3b87c7767d768716cb0d7158bfa3292d52618f11bdb9ae2a46f68ff3f4c18a", func := "unicodetext/unicodetextlaw02.CpsetMakes", spec := "cpsetMakes", inPlace := ["internal/bytealg.CountString", "internal/bytealg.IndexByteString", "internal/bytealg.IndexString", "internal/abi.NoEscape", "internal/bytealg.MakeNoZero"], unfollowed := true, recurses := true, named := ["unicode/utf8.first", "unicode/utf8.acceptRanges", "internal/bytealg.MaxLen", "unicodetext/codepoint.digits"], apart := false, laid := [("unicode/utf8.acceptRanges", laid_unicode_utf8_acceptRanges), ("unicodetext/codepoint.digits", laid_unicodetext_codepoint_digits), ("unicode/utf8.first", laid_unicode_utf8_first)] }
def CpsetMakesSaid : Prop := cpsetMakesRow.holds Tryd.pinned (OpenSpec.ofChange cpsetMakesSpec)

/-- ITS FALSE NEIGHBOUR: 'it returns false'. Refute it at one input. -/
def cpsetMakesWrong : ChangeSpec := { name := "cpsetMakes", fn := fun _ => fun
  | [d] => { results := [.lit (.bool false)], args := [d] }
  | _ => none }
def CpsetMakesWrongFalsely : Prop := cpsetMakesRow.holds Tryd.pinned (OpenSpec.ofChange cpsetMakesWrong)

/-- 'unicodetextlaw02.CpsetOperates': WHATEVER THE INPUT: true; the input reads as it did. -/
def cpsetOperatesSpec : ChangeSpec := { name := "cpsetOperates", fn := fun _ => fun
  | [d1, d2] => { results := [.lit (.bool true)], args := [d1, d2] }
  | _ => none }
def cpsetOperatesRow : OpenClaim := { program := "ytogfhaeohcpkjaadoor", sum := "8e3b87c7767d768716cb0d7158bfa3292d52618f11bdb9ae2a46f68ff3f4c18a", func := "unicodetext/unicodetextlaw02.CpsetOperates", spec := "cpsetOperates", inPlace := ["internal/bytealg.CountString", "internal/bytealg.IndexByteString", "internal/bytealg.IndexString", "internal/abi.NoEscape", "internal/bytealg.MakeNoZero"], unfollowed := true, recurses := true, named := ["unicode/utf8.first", "unicode/utf8.acceptRanges", "internal/bytealg.MaxLen", "unicodetext/codepoint.digits"], apart := false, laid := [("unicode/utf8.acceptRanges", laid_unicode_utf8_acceptRanges), ("unicodetext/codepoint.digits", laid_unicodetext_codepoint_digits), ("unicode/utf8.first", laid_unicode_utf8_first)] }
def CpsetOperatesSaid : Prop := cpsetOperatesRow.holds Tryd.pinned (OpenSpec.ofChange cpsetOperatesSpec)

/-- ITS FALSE NEIGHBOUR: 'it returns false'. Refute it at one input. -/
def cpsetOperatesWrong : ChangeSpec := { name := "cpsetOperates", fn := fun _ => fun
  | [d1, d2] => { results := [.lit (.bool false)], args := [d1, d2] }
  | _ => none }
def CpsetOperatesWrongFalsely : Prop := cpsetOperatesRow.holds Tryd.pinned (OpenSpec.ofChange cpsetOperatesWrong)

/-- 'unicodetextlaw02.CpsetOrders': WHATEVER THE INPUT: true; the input reads as it did. -/
def cpsetOrdersSpec : ChangeSpec := { name := "cpsetOrders", fn := fun _ => fun
  | [d1, d2, d3] => { results := [.lit (.bool true)], args := [d1, d2, d3] }
  | _ => none }
def cpsetOrdersRow : OpenClaim := { program := "ytogfhaeohcpkjaadoor", sum := "8e3b87c7767d768716cb0d7158bfa3292d52618f11bdb9ae2a46f68ff3f4c18a", func := "unicodetext/unicodetextlaw02.CpsetOrders", spec := "cpsetOrders", inPlace := ["internal/bytealg.CountString", "internal/bytealg.IndexByteString", "internal/bytealg.IndexString", "internal/abi.NoEscape", "internal/bytealg.MakeNoZero"], unfollowed := true, recurses := true, named := ["unicode/utf8.first", "unicode/utf8.acceptRanges", "internal/bytealg.MaxLen", "unicodetext/codepoint.digits"], apart := false, laid := [("unicode/utf8.acceptRanges", laid_unicode_utf8_acceptRanges), ("unicodetext/codepoint.digits", laid_unicodetext_codepoint_digits), ("unicode/utf8.first", laid_unicode_utf8_first)] }
def CpsetOrdersSaid : Prop := cpsetOrdersRow.holds Tryd.pinned (OpenSpec.ofChange cpsetOrdersSpec)

/-- ITS FALSE NEIGHBOUR: 'it returns false'. Refute it at one input. -/
def cpsetOrdersWrong : ChangeSpec := { name := "cpsetOrders", fn := fun _ => fun
  | [d1, d2, d3] => { results := [.lit (.bool false)], args := [d1, d2, d3] }
  | _ => none }
def CpsetOrdersWrongFalsely : Prop := cpsetOrdersRow.holds Tryd.pinned (OpenSpec.ofChange cpsetOrdersWrong)

/-- 'unicodetextlaw02.CpsetBack': WHATEVER THE INPUT: true; the input reads as it did. -/
def cpsetBackSpec : ChangeSpec := { name := "cpsetBack", fn := fun _ => fun
  | [d1, d2] => { results := [.lit (.bool true)], args := [d1, d2] }
  | _ => none }
def cpsetBackRow : OpenClaim := { program := "ytogfhaeohcpkjaadoor", sum := "8e3b87c7767d768716cb0d7158bfa3292d52618f11bdb9ae2a46f68ff3f4c18a", func := "unicodetext/unicodetextlaw02.CpsetBack", spec := "cpsetBack", inPlace := ["internal/bytealg.CountString", "internal/bytealg.IndexByteString", "internal/bytealg.IndexString", "internal/abi.NoEscape", "internal/bytealg.MakeNoZero"], unfollowed := true, recurses := true, named := ["unicode/utf8.first", "unicode/utf8.acceptRanges", "internal/bytealg.MaxLen", "unicodetext/codepoint.digits"], apart := false, laid := [("unicode/utf8.acceptRanges", laid_unicode_utf8_acceptRanges), ("unicodetext/codepoint.digits", laid_unicodetext_codepoint_digits), ("unicode/utf8.first", laid_unicode_utf8_first)] }
def CpsetBackSaid : Prop := cpsetBackRow.holds Tryd.pinned (OpenSpec.ofChange cpsetBackSpec)

/-- ITS FALSE NEIGHBOUR: 'it returns false'. Refute it at one input. -/
def cpsetBackWrong : ChangeSpec := { name := "cpsetBack", fn := fun _ => fun
  | [d1, d2] => { results := [.lit (.bool false)], args := [d1, d2] }
  | _ => none }
def CpsetBackWrongFalsely : Prop := cpsetBackRow.holds Tryd.pinned (OpenSpec.ofChange cpsetBackWrong)

/-- 'unicodetextlaw02.CpsetCounts': WHATEVER THE INPUT: true; the input reads as it did. -/
def cpsetCountsSpec : ChangeSpec := { name := "cpsetCounts", fn := fun _ => fun
  | [d1, d2] => { results := [.lit (.bool true)], args := [d1, d2] }
  | _ => none }
def cpsetCountsRow : OpenClaim := { program := "ytogfhaeohcpkjaadoor", sum := "8e3b87c7767d768716cb0d7158bfa3292d52618f11bdb9ae2a46f68ff3f4c18a", func := "unicodetext/unicodetextlaw02.CpsetCounts", spec := "cpsetCounts", inPlace := ["internal/bytealg.CountString", "internal/bytealg.IndexByteString", "internal/bytealg.IndexString", "internal/abi.NoEscape", "internal/bytealg.MakeNoZero"], unfollowed := true, recurses := true, named := ["unicode/utf8.first", "unicode/utf8.acceptRanges", "internal/bytealg.MaxLen", "unicodetext/codepoint.digits"], apart := false, laid := [("unicode/utf8.acceptRanges", laid_unicode_utf8_acceptRanges), ("unicodetext/codepoint.digits", laid_unicodetext_codepoint_digits), ("unicode/utf8.first", laid_unicode_utf8_first)] }
def CpsetCountsSaid : Prop := cpsetCountsRow.holds Tryd.pinned (OpenSpec.ofChange cpsetCountsSpec)

/-- ITS FALSE NEIGHBOUR: 'it returns false'. Refute it at one input. -/
def cpsetCountsWrong : ChangeSpec := { name := "cpsetCounts", fn := fun _ => fun
  | [d1, d2] => { results := [.lit (.bool false)], args := [d1, d2] }
  | _ => none }
def CpsetCountsWrongFalsely : Prop := cpsetCountsRow.holds Tryd.pinned (OpenSpec.ofChange cpsetCountsWrong)

/- THE SECOND FORM. 'bulk': how many values and letters a reading holds, each counted each time it is reached (what is shared counts as often as it is met; a slice's spare places count too). A statement '..UptoSaid' is the law's where the arguments, and the package variables that the reading takes, are together of bulk at most 1048576: NARROWER than '..Said'. Prove '..Said' where nothing that the law and all that it calls make is longer than what came in: it says more and counts as full. Else prove '..UptoSaid'. A law counts once. -/
mutual
def uptoBulk {H : Type} : DataW H → Nat
  | .lit (.string bytes) => bytes.length + 1
  | .lit _ => 1
  | .nil => 1
  | .ptr d => uptoBulk d + 1
  | .slice elems spare => uptoBulkAll elems + uptoBulkAll spare + 1
  | .agg parts => uptoBulkAll parts + 1
  | .iface _ d => uptoBulk d + 1
  | .map entries => uptoBulkEntries entries + 1
  | .held _ => 1
def uptoBulkAll {H : Type} : List (DataW H) → Nat
  | [] => 0
  | d :: r => uptoBulk d + uptoBulkAll r
def uptoBulkEntries {H : Type} : List (Lit × DataW H) → Nat
  | [] => 0
  | x :: r => uptoBulkEntry x + uptoBulkEntries r
def uptoBulkEntry {H : Type} : Lit × DataW H → Nat
  | (.string bytes, d) => bytes.length + uptoBulk d + 1
  | (_, d) => uptoBulk d + 1
 end
def uptoSmall : (H : Type) → List (DataW H) → Bool := fun _ ds => decide (uptoBulkAll ds ≤ 1048576)
def OpenSpec.upto (s : _root_.Go.ChangeSpec) : _root_.Go.OpenSpec := { _root_.Go.OpenSpec.ofChange s with cond := some uptoSmall }

/-- 'unicodetextlaw02.CpsetPoints', WHERE WHAT IT READS IS OF BULK AT MOST 1048576: true; the input reads as it did. -/
def cpsetPointsUptoRow : OpenClaim := { program := "ytogfhaeohcpkjaadoor", sum := "8e3b87c7767d768716cb0d7158bfa3292d52618f11bdb9ae2a46f68ff3f4c18a", func := "unicodetext/unicodetextlaw02.CpsetPoints", spec := "cpsetPoints", inPlace := ["internal/bytealg.CountString", "internal/bytealg.IndexByteString", "internal/bytealg.IndexString", "internal/abi.NoEscape", "internal/bytealg.MakeNoZero"], unfollowed := true, recurses := true, named := ["unicode/utf8.first", "unicode/utf8.acceptRanges", "internal/bytealg.MaxLen", "unicodetext/codepoint.digits"], apart := false, laid := [("unicode/utf8.acceptRanges", laid_unicode_utf8_acceptRanges), ("unicodetext/codepoint.digits", laid_unicodetext_codepoint_digits), ("unicode/utf8.first", laid_unicode_utf8_first)], narrowed := true }
def CpsetPointsUptoSaid : Prop := cpsetPointsUptoRow.holds Tryd.pinned (OpenSpec.upto cpsetPointsSpec)

/-- 'unicodetextlaw02.CpsetEnumerates', WHERE WHAT IT READS IS OF BULK AT MOST 1048576: true; the input reads as it did. -/
def cpsetEnumeratesUptoRow : OpenClaim := { program := "ytogfhaeohcpkjaadoor", sum := "8e3b87c7767d768716cb0d7158bfa3292d52618f11bdb9ae2a46f68ff3f4c18a", func := "unicodetext/unicodetextlaw02.CpsetEnumerates", spec := "cpsetEnumerates", inPlace := ["internal/bytealg.CountString", "internal/bytealg.IndexByteString", "internal/bytealg.IndexString", "internal/abi.NoEscape", "internal/bytealg.MakeNoZero"], unfollowed := true, recurses := true, named := ["unicode/utf8.first", "unicode/utf8.acceptRanges", "internal/bytealg.MaxLen", "unicodetext/codepoint.digits"], apart := false, laid := [("unicode/utf8.acceptRanges", laid_unicode_utf8_acceptRanges), ("unicodetext/codepoint.digits", laid_unicodetext_codepoint_digits), ("unicode/utf8.first", laid_unicode_utf8_first)], narrowed := true }
def CpsetEnumeratesUptoSaid : Prop := cpsetEnumeratesUptoRow.holds Tryd.pinned (OpenSpec.upto cpsetEnumeratesSpec)

/-- 'unicodetextlaw02.CpsetTexts', WHERE WHAT IT READS IS OF BULK AT MOST 1048576: true; the input reads as it did. -/
def cpsetTextsUptoRow : OpenClaim := { program := "ytogfhaeohcpkjaadoor", sum := "8e3b87c7767d768716cb0d7158bfa3292d52618f11bdb9ae2a46f68ff3f4c18a", func := "unicodetext/unicodetextlaw02.CpsetTexts", spec := "cpsetTexts", inPlace := ["internal/bytealg.CountString", "internal/bytealg.IndexByteString", "internal/bytealg.IndexString", "internal/abi.NoEscape", "internal/bytealg.MakeNoZero"], unfollowed := true, recurses := true, named := ["unicode/utf8.first", "unicode/utf8.acceptRanges", "internal/bytealg.MaxLen", "unicodetext/codepoint.digits"], apart := false, laid := [("unicode/utf8.acceptRanges", laid_unicode_utf8_acceptRanges), ("unicodetext/codepoint.digits", laid_unicodetext_codepoint_digits), ("unicode/utf8.first", laid_unicode_utf8_first)], narrowed := true }
def CpsetTextsUptoSaid : Prop := cpsetTextsUptoRow.holds Tryd.pinned (OpenSpec.upto cpsetTextsSpec)

/-- 'unicodetextlaw02.CpsetAlgebra', WHERE WHAT IT READS IS OF BULK AT MOST 1048576: true; the input reads as it did. -/
def cpsetAlgebraUptoRow : OpenClaim := { program := "ytogfhaeohcpkjaadoor", sum := "8e3b87c7767d768716cb0d7158bfa3292d52618f11bdb9ae2a46f68ff3f4c18a", func := "unicodetext/unicodetextlaw02.CpsetAlgebra", spec := "cpsetAlgebra", inPlace := ["internal/bytealg.CountString", "internal/bytealg.IndexByteString", "internal/bytealg.IndexString", "internal/abi.NoEscape", "internal/bytealg.MakeNoZero"], unfollowed := true, recurses := true, named := ["unicode/utf8.first", "unicode/utf8.acceptRanges", "internal/bytealg.MaxLen", "unicodetext/codepoint.digits"], apart := false, laid := [("unicode/utf8.acceptRanges", laid_unicode_utf8_acceptRanges), ("unicodetext/codepoint.digits", laid_unicodetext_codepoint_digits), ("unicode/utf8.first", laid_unicode_utf8_first)], narrowed := true }
def CpsetAlgebraUptoSaid : Prop := cpsetAlgebraUptoRow.holds Tryd.pinned (OpenSpec.upto cpsetAlgebraSpec)

/-- 'unicodetextlaw02.CpsetHas', WHERE WHAT IT READS IS OF BULK AT MOST 1048576: true; the input reads as it did. -/
def cpsetHasUptoRow : OpenClaim := { program := "ytogfhaeohcpkjaadoor", sum := "8e3b87c7767d768716cb0d7158bfa3292d52618f11bdb9ae2a46f68ff3f4c18a", func := "unicodetext/unicodetextlaw02.CpsetHas", spec := "cpsetHas", inPlace := ["internal/bytealg.CountString", "internal/bytealg.IndexByteString", "internal/bytealg.IndexString", "internal/abi.NoEscape", "internal/bytealg.MakeNoZero"], unfollowed := true, recurses := true, named := ["unicode/utf8.first", "unicode/utf8.acceptRanges", "internal/bytealg.MaxLen", "unicodetext/codepoint.digits"], apart := false, laid := [("unicode/utf8.acceptRanges", laid_unicode_utf8_acceptRanges), ("unicodetext/codepoint.digits", laid_unicodetext_codepoint_digits), ("unicode/utf8.first", laid_unicode_utf8_first)], narrowed := true }
def CpsetHasUptoSaid : Prop := cpsetHasUptoRow.holds Tryd.pinned (OpenSpec.upto cpsetHasSpec)

/-- 'unicodetextlaw02.CpsetMakes', WHERE WHAT IT READS IS OF BULK AT MOST 1048576: true; the input reads as it did. -/
def cpsetMakesUptoRow : OpenClaim := { program := "ytogfhaeohcpkjaadoor", sum := "8e3b87c7767d768716cb0d7158bfa3292d52618f11bdb9ae2a46f68ff3f4c18a", func := "unicodetext/unicodetextlaw02.CpsetMakes", spec := "cpsetMakes", inPlace := ["internal/bytealg.CountString", "internal/bytealg.IndexByteString", "internal/bytealg.IndexString", "internal/abi.NoEscape", "internal/bytealg.MakeNoZero"], unfollowed := true, recurses := true, named := ["unicode/utf8.first", "unicode/utf8.acceptRanges", "internal/bytealg.MaxLen", "unicodetext/codepoint.digits"], apart := false, laid := [("unicode/utf8.acceptRanges", laid_unicode_utf8_acceptRanges), ("unicodetext/codepoint.digits", laid_unicodetext_codepoint_digits), ("unicode/utf8.first", laid_unicode_utf8_first)], narrowed := true }
def CpsetMakesUptoSaid : Prop := cpsetMakesUptoRow.holds Tryd.pinned (OpenSpec.upto cpsetMakesSpec)

/-- 'unicodetextlaw02.CpsetOperates', WHERE WHAT IT READS IS OF BULK AT MOST 1048576: true; the input reads as it did. -/
def cpsetOperatesUptoRow : OpenClaim := { program := "ytogfhaeohcpkjaadoor", sum := "8e3b87c7767d768716cb0d7158bfa3292d52618f11bdb9ae2a46f68ff3f4c18a", func := "unicodetext/unicodetextlaw02.CpsetOperates", spec := "cpsetOperates", inPlace := ["internal/bytealg.CountString", "internal/bytealg.IndexByteString", "internal/bytealg.IndexString", "internal/abi.NoEscape", "internal/bytealg.MakeNoZero"], unfollowed := true, recurses := true, named := ["unicode/utf8.first", "unicode/utf8.acceptRanges", "internal/bytealg.MaxLen", "unicodetext/codepoint.digits"], apart := false, laid := [("unicode/utf8.acceptRanges", laid_unicode_utf8_acceptRanges), ("unicodetext/codepoint.digits", laid_unicodetext_codepoint_digits), ("unicode/utf8.first", laid_unicode_utf8_first)], narrowed := true }
def CpsetOperatesUptoSaid : Prop := cpsetOperatesUptoRow.holds Tryd.pinned (OpenSpec.upto cpsetOperatesSpec)

/-- 'unicodetextlaw02.CpsetOrders', WHERE WHAT IT READS IS OF BULK AT MOST 1048576: true; the input reads as it did. -/
def cpsetOrdersUptoRow : OpenClaim := { program := "ytogfhaeohcpkjaadoor", sum := "8e3b87c7767d768716cb0d7158bfa3292d52618f11bdb9ae2a46f68ff3f4c18a", func := "unicodetext/unicodetextlaw02.CpsetOrders", spec := "cpsetOrders", inPlace := ["internal/bytealg.CountString", "internal/bytealg.IndexByteString", "internal/bytealg.IndexString", "internal/abi.NoEscape", "internal/bytealg.MakeNoZero"], unfollowed := true, recurses := true, named := ["unicode/utf8.first", "unicode/utf8.acceptRanges", "internal/bytealg.MaxLen", "unicodetext/codepoint.digits"], apart := false, laid := [("unicode/utf8.acceptRanges", laid_unicode_utf8_acceptRanges), ("unicodetext/codepoint.digits", laid_unicodetext_codepoint_digits), ("unicode/utf8.first", laid_unicode_utf8_first)], narrowed := true }
def CpsetOrdersUptoSaid : Prop := cpsetOrdersUptoRow.holds Tryd.pinned (OpenSpec.upto cpsetOrdersSpec)

/-- 'unicodetextlaw02.CpsetBack', WHERE WHAT IT READS IS OF BULK AT MOST 1048576: true; the input reads as it did. -/
def cpsetBackUptoRow : OpenClaim := { program := "ytogfhaeohcpkjaadoor", sum := "8e3b87c7767d768716cb0d7158bfa3292d52618f11bdb9ae2a46f68ff3f4c18a", func := "unicodetext/unicodetextlaw02.CpsetBack", spec := "cpsetBack", inPlace := ["internal/bytealg.CountString", "internal/bytealg.IndexByteString", "internal/bytealg.IndexString", "internal/abi.NoEscape", "internal/bytealg.MakeNoZero"], unfollowed := true, recurses := true, named := ["unicode/utf8.first", "unicode/utf8.acceptRanges", "internal/bytealg.MaxLen", "unicodetext/codepoint.digits"], apart := false, laid := [("unicode/utf8.acceptRanges", laid_unicode_utf8_acceptRanges), ("unicodetext/codepoint.digits", laid_unicodetext_codepoint_digits), ("unicode/utf8.first", laid_unicode_utf8_first)], narrowed := true }
def CpsetBackUptoSaid : Prop := cpsetBackUptoRow.holds Tryd.pinned (OpenSpec.upto cpsetBackSpec)

/-- 'unicodetextlaw02.CpsetCounts', WHERE WHAT IT READS IS OF BULK AT MOST 1048576: true; the input reads as it did. -/
def cpsetCountsUptoRow : OpenClaim := { program := "ytogfhaeohcpkjaadoor", sum := "8e3b87c7767d768716cb0d7158bfa3292d52618f11bdb9ae2a46f68ff3f4c18a", func := "unicodetext/unicodetextlaw02.CpsetCounts", spec := "cpsetCounts", inPlace := ["internal/bytealg.CountString", "internal/bytealg.IndexByteString", "internal/bytealg.IndexString", "internal/abi.NoEscape", "internal/bytealg.MakeNoZero"], unfollowed := true, recurses := true, named := ["unicode/utf8.first", "unicode/utf8.acceptRanges", "internal/bytealg.MaxLen", "unicodetext/codepoint.digits"], apart := false, laid := [("unicode/utf8.acceptRanges", laid_unicode_utf8_acceptRanges), ("unicodetext/codepoint.digits", laid_unicodetext_codepoint_digits), ("unicode/utf8.first", laid_unicode_utf8_first)], narrowed := true }
def CpsetCountsUptoSaid : Prop := cpsetCountsUptoRow.holds Tryd.pinned (OpenSpec.upto cpsetCountsSpec)

end Rows
end Go.Proofs.YtogfhaeohcpkjaaDoor
