/-
  NARROWER THAN 'FOR EVERY INPUT', by the rows' own cells (each row's printed sentence says how): BathTight: laid · BathCommon: laid · BathDual: laid · BathBounds: laid · BathTables: laid · BathShortest: laid · BathMore: laid · BathPrices: laid · BathOrders: laid · BathFirst: laid · BathProof: laid · BathTours: laid · BathTrees: laid.
  DERIVED. THE GIVEN ROWS OF THIS SEAT. 13 by the template 'for every input the law returns true; each argument reads behind the call as it read before'; 0 by the template 'total and deterministic' (their statements: YtgeahmmepfmcoaaDoorTotals.lean).
  GIVEN WITH THE SEED: the statements are not yours to turn. If you find one false, say at which input.
  Laid BY PROGRAM, IN A SANDBOX (cutbox-rows.mjs): the forced cells as the released guide's own fill.sh prints them over the translation 754aa3b6717f4f76… (all of the seat's roots in one cut). By AI agents, Wed Nov 11 2026. No macro, syntax, notation, axiom, sorry.
-/
import Derived.Test.YtgeahmmepfmcoaaDoorChecked
import GoSem.PinnedTables
import GoSem.Claim
import GoSem.ClaimJoined
import GoSem.ClaimMapViews
import Derived.JoinedTies
import Derived.KernelRfl
namespace Go.Proofs.YtgeahmmepfmcoaaDoor
/- THE CELL 'sum', in the pinned program and in every row, IS THE sha256 OF THE DUMP (.gsa) THAT YtgeahmmepfmcoaaDoorProg.lean LOADS. Nothing in Lean hashes anything: it is a label: what it is worth is what the hold of that sum in a sandbox is worth. -/
noncomputable def Tryd.pinned : Pinned := { name := "ytgeahmmepfmcoaadoor", sum := "754aa3b6717f4f76fe0818c9c26cc094f2ecae7b55d320e32210f0e61fc5cdcb", checked := Tryd.checked }
namespace Rows
def none {H : Type} : Left H := { results := [], args := [] }

/- WHAT THE LISTED PACKAGE-LEVEL VARIABLES READ AS WHEN THE CALL BEGINS. Each datum BY PROGRAM (the guide's laid-datum.mjs) off the statement by which the dump's own 'gosem.cut.vars' lays the variable. In a bare row this is a premise. The card (YtgeahmmepfmcoaaDoorCards.lean) ties it to the program's text. -/
def laid_unicode_utf8_acceptRanges {H : Type} : DataW H := .agg [.agg [.lit (.int .u8 128), .lit (.int .u8 191)], .agg [.lit (.int .u8 160), .lit (.int .u8 191)], .agg [.lit (.int .u8 128), .lit (.int .u8 159)], .agg [.lit (.int .u8 144), .lit (.int .u8 191)], .agg [.lit (.int .u8 128), .lit (.int .u8 143)], .agg [.lit (.int .u8 0), .lit (.int .u8 0)], .agg [.lit (.int .u8 0), .lit (.int .u8 0)], .agg [.lit (.int .u8 0), .lit (.int .u8 0)], .agg [.lit (.int .u8 0), .lit (.int .u8 0)], .agg [.lit (.int .u8 0), .lit (.int .u8 0)], .agg [.lit (.int .u8 0), .lit (.int .u8 0)], .agg [.lit (.int .u8 0), .lit (.int .u8 0)], .agg [.lit (.int .u8 0), .lit (.int .u8 0)], .agg [.lit (.int .u8 0), .lit (.int .u8 0)], .agg [.lit (.int .u8 0), .lit (.int .u8 0)], .agg [.lit (.int .u8 0), .lit (.int .u8 0)]]
/-- One of Go's own tables, pinned by name: the form's constant. -/
def laid_unicode_utf8_first : DataW Unit := Go.Pinned.utf8First

/-- 'cantinglaw05.BathTight': WHATEVER THE INPUT: true; the input reads as it did. -/
def bathTightSpec : ChangeSpec := { name := "bathTight", fn := fun _ => fun
  | [d1, d2] => { results := [.lit (.bool true)], args := [d1, d2] }
  | _ => none }
def bathTightRow : OpenClaim := { program := "ytgeahmmepfmcoaadoor", sum := "754aa3b6717f4f76fe0818c9c26cc094f2ecae7b55d320e32210f0e61fc5cdcb", func := "canting/cantinglaw05.BathTight", spec := "bathTight", inPlace := ["internal/bytealg.IndexByteString", "internal/bytealg.IndexString"], unfollowed := true, recurses := true, named := ["unicode/utf8.first", "unicode/utf8.acceptRanges", "internal/bytealg.MaxLen"], plainKeys := false, apart := false, laid := [("unicode/utf8.acceptRanges", laid_unicode_utf8_acceptRanges), ("unicode/utf8.first", laid_unicode_utf8_first)] }
def BathTightSaid : Prop := bathTightRow.holds Tryd.pinned (OpenSpec.ofChange bathTightSpec)

/-- ITS FALSE NEIGHBOUR: 'it returns false'. Refute it at one input. -/
def bathTightWrong : ChangeSpec := { name := "bathTight", fn := fun _ => fun
  | [d1, d2] => { results := [.lit (.bool false)], args := [d1, d2] }
  | _ => none }
def BathTightWrongFalsely : Prop := bathTightRow.holds Tryd.pinned (OpenSpec.ofChange bathTightWrong)

/-- 'cantinglaw05.BathCommon': WHATEVER THE INPUT: true; the input reads as it did. -/
def bathCommonSpec : ChangeSpec := { name := "bathCommon", fn := fun _ => fun
  | [d1, d2] => { results := [.lit (.bool true)], args := [d1, d2] }
  | _ => none }
def bathCommonRow : OpenClaim := { program := "ytgeahmmepfmcoaadoor", sum := "754aa3b6717f4f76fe0818c9c26cc094f2ecae7b55d320e32210f0e61fc5cdcb", func := "canting/cantinglaw05.BathCommon", spec := "bathCommon", inPlace := ["internal/bytealg.IndexByteString", "internal/bytealg.IndexString"], unfollowed := true, recurses := true, named := ["unicode/utf8.first", "unicode/utf8.acceptRanges", "internal/bytealg.MaxLen"], plainKeys := false, apart := false, laid := [("unicode/utf8.acceptRanges", laid_unicode_utf8_acceptRanges), ("unicode/utf8.first", laid_unicode_utf8_first)] }
def BathCommonSaid : Prop := bathCommonRow.holds Tryd.pinned (OpenSpec.ofChange bathCommonSpec)

/-- ITS FALSE NEIGHBOUR: 'it returns false'. Refute it at one input. -/
def bathCommonWrong : ChangeSpec := { name := "bathCommon", fn := fun _ => fun
  | [d1, d2] => { results := [.lit (.bool false)], args := [d1, d2] }
  | _ => none }
def BathCommonWrongFalsely : Prop := bathCommonRow.holds Tryd.pinned (OpenSpec.ofChange bathCommonWrong)

/-- 'cantinglaw05.BathDual': WHATEVER THE INPUT: true; the input reads as it did. -/
def bathDualSpec : ChangeSpec := { name := "bathDual", fn := fun _ => fun
  | [d1, d2, d3] => { results := [.lit (.bool true)], args := [d1, d2, d3] }
  | _ => none }
def bathDualRow : OpenClaim := { program := "ytgeahmmepfmcoaadoor", sum := "754aa3b6717f4f76fe0818c9c26cc094f2ecae7b55d320e32210f0e61fc5cdcb", func := "canting/cantinglaw05.BathDual", spec := "bathDual", inPlace := ["internal/bytealg.IndexByteString", "internal/bytealg.IndexString"], unfollowed := true, recurses := true, named := ["unicode/utf8.first", "unicode/utf8.acceptRanges", "internal/bytealg.MaxLen"], plainKeys := false, apart := false, laid := [("unicode/utf8.acceptRanges", laid_unicode_utf8_acceptRanges), ("unicode/utf8.first", laid_unicode_utf8_first)] }
def BathDualSaid : Prop := bathDualRow.holds Tryd.pinned (OpenSpec.ofChange bathDualSpec)

/-- ITS FALSE NEIGHBOUR: 'it returns false'. Refute it at one input. -/
def bathDualWrong : ChangeSpec := { name := "bathDual", fn := fun _ => fun
  | [d1, d2, d3] => { results := [.lit (.bool false)], args := [d1, d2, d3] }
  | _ => none }
def BathDualWrongFalsely : Prop := bathDualRow.holds Tryd.pinned (OpenSpec.ofChange bathDualWrong)

/-- 'cantinglaw05.BathBounds': WHATEVER THE INPUT: true; the input reads as it did. -/
def bathBoundsSpec : ChangeSpec := { name := "bathBounds", fn := fun _ => fun
  | [d1, d2, d3] => { results := [.lit (.bool true)], args := [d1, d2, d3] }
  | _ => none }
def bathBoundsRow : OpenClaim := { program := "ytgeahmmepfmcoaadoor", sum := "754aa3b6717f4f76fe0818c9c26cc094f2ecae7b55d320e32210f0e61fc5cdcb", func := "canting/cantinglaw05.BathBounds", spec := "bathBounds", inPlace := ["internal/bytealg.IndexByteString", "internal/bytealg.IndexString"], unfollowed := true, recurses := true, named := ["unicode/utf8.first", "unicode/utf8.acceptRanges", "internal/bytealg.MaxLen"], plainKeys := false, apart := false, laid := [("unicode/utf8.acceptRanges", laid_unicode_utf8_acceptRanges), ("unicode/utf8.first", laid_unicode_utf8_first)] }
def BathBoundsSaid : Prop := bathBoundsRow.holds Tryd.pinned (OpenSpec.ofChange bathBoundsSpec)

/-- ITS FALSE NEIGHBOUR: 'it returns false'. Refute it at one input. -/
def bathBoundsWrong : ChangeSpec := { name := "bathBounds", fn := fun _ => fun
  | [d1, d2, d3] => { results := [.lit (.bool false)], args := [d1, d2, d3] }
  | _ => none }
def BathBoundsWrongFalsely : Prop := bathBoundsRow.holds Tryd.pinned (OpenSpec.ofChange bathBoundsWrong)

/-- 'cantinglaw05.BathTables': WHATEVER THE INPUT: true; the input reads as it did. -/
def bathTablesSpec : ChangeSpec := { name := "bathTables", fn := fun _ => fun
  | [d1, d2] => { results := [.lit (.bool true)], args := [d1, d2] }
  | _ => none }
def bathTablesRow : OpenClaim := { program := "ytgeahmmepfmcoaadoor", sum := "754aa3b6717f4f76fe0818c9c26cc094f2ecae7b55d320e32210f0e61fc5cdcb", func := "canting/cantinglaw05.BathTables", spec := "bathTables", inPlace := ["internal/bytealg.IndexByteString", "internal/bytealg.IndexString"], unfollowed := true, recurses := true, named := ["unicode/utf8.first", "unicode/utf8.acceptRanges", "internal/bytealg.MaxLen"], plainKeys := false, apart := false, laid := [("unicode/utf8.acceptRanges", laid_unicode_utf8_acceptRanges), ("unicode/utf8.first", laid_unicode_utf8_first)] }
def BathTablesSaid : Prop := bathTablesRow.holds Tryd.pinned (OpenSpec.ofChange bathTablesSpec)

/-- ITS FALSE NEIGHBOUR: 'it returns false'. Refute it at one input. -/
def bathTablesWrong : ChangeSpec := { name := "bathTables", fn := fun _ => fun
  | [d1, d2] => { results := [.lit (.bool false)], args := [d1, d2] }
  | _ => none }
def BathTablesWrongFalsely : Prop := bathTablesRow.holds Tryd.pinned (OpenSpec.ofChange bathTablesWrong)

/-- 'cantinglaw05.BathShortest': WHATEVER THE INPUT: true; the input reads as it did. -/
def bathShortestSpec : ChangeSpec := { name := "bathShortest", fn := fun _ => fun
  | [d1, d2] => { results := [.lit (.bool true)], args := [d1, d2] }
  | _ => none }
def bathShortestRow : OpenClaim := { program := "ytgeahmmepfmcoaadoor", sum := "754aa3b6717f4f76fe0818c9c26cc094f2ecae7b55d320e32210f0e61fc5cdcb", func := "canting/cantinglaw05.BathShortest", spec := "bathShortest", inPlace := ["internal/bytealg.IndexByteString", "internal/bytealg.IndexString"], unfollowed := true, recurses := true, named := ["unicode/utf8.first", "unicode/utf8.acceptRanges", "internal/bytealg.MaxLen"], plainKeys := false, apart := false, laid := [("unicode/utf8.acceptRanges", laid_unicode_utf8_acceptRanges), ("unicode/utf8.first", laid_unicode_utf8_first)] }
def BathShortestSaid : Prop := bathShortestRow.holds Tryd.pinned (OpenSpec.ofChange bathShortestSpec)

/-- ITS FALSE NEIGHBOUR: 'it returns false'. Refute it at one input. -/
def bathShortestWrong : ChangeSpec := { name := "bathShortest", fn := fun _ => fun
  | [d1, d2] => { results := [.lit (.bool false)], args := [d1, d2] }
  | _ => none }
def BathShortestWrongFalsely : Prop := bathShortestRow.holds Tryd.pinned (OpenSpec.ofChange bathShortestWrong)

/-- 'cantinglaw05.BathMore': WHATEVER THE INPUT: true; the input reads as it did. -/
def bathMoreSpec : ChangeSpec := { name := "bathMore", fn := fun _ => fun
  | [d1, d2] => { results := [.lit (.bool true)], args := [d1, d2] }
  | _ => none }
def bathMoreRow : OpenClaim := { program := "ytgeahmmepfmcoaadoor", sum := "754aa3b6717f4f76fe0818c9c26cc094f2ecae7b55d320e32210f0e61fc5cdcb", func := "canting/cantinglaw05.BathMore", spec := "bathMore", inPlace := ["internal/bytealg.IndexByteString", "internal/bytealg.IndexString"], unfollowed := true, recurses := true, named := ["unicode/utf8.first", "unicode/utf8.acceptRanges", "internal/bytealg.MaxLen"], plainKeys := false, apart := false, laid := [("unicode/utf8.acceptRanges", laid_unicode_utf8_acceptRanges), ("unicode/utf8.first", laid_unicode_utf8_first)] }
def BathMoreSaid : Prop := bathMoreRow.holds Tryd.pinned (OpenSpec.ofChange bathMoreSpec)

/-- ITS FALSE NEIGHBOUR: 'it returns false'. Refute it at one input. -/
def bathMoreWrong : ChangeSpec := { name := "bathMore", fn := fun _ => fun
  | [d1, d2] => { results := [.lit (.bool false)], args := [d1, d2] }
  | _ => none }
def BathMoreWrongFalsely : Prop := bathMoreRow.holds Tryd.pinned (OpenSpec.ofChange bathMoreWrong)

/-- 'cantinglaw05.BathPrices': WHATEVER THE INPUT: true; the input reads as it did. -/
def bathPricesSpec : ChangeSpec := { name := "bathPrices", fn := fun _ => fun
  | [d1, d2] => { results := [.lit (.bool true)], args := [d1, d2] }
  | _ => none }
def bathPricesRow : OpenClaim := { program := "ytgeahmmepfmcoaadoor", sum := "754aa3b6717f4f76fe0818c9c26cc094f2ecae7b55d320e32210f0e61fc5cdcb", func := "canting/cantinglaw05.BathPrices", spec := "bathPrices", inPlace := ["internal/bytealg.IndexByteString", "internal/bytealg.IndexString"], unfollowed := true, recurses := true, named := ["unicode/utf8.first", "unicode/utf8.acceptRanges", "internal/bytealg.MaxLen"], plainKeys := false, apart := false, laid := [("unicode/utf8.acceptRanges", laid_unicode_utf8_acceptRanges), ("unicode/utf8.first", laid_unicode_utf8_first)] }
def BathPricesSaid : Prop := bathPricesRow.holds Tryd.pinned (OpenSpec.ofChange bathPricesSpec)

/-- ITS FALSE NEIGHBOUR: 'it returns false'. Refute it at one input. -/
def bathPricesWrong : ChangeSpec := { name := "bathPrices", fn := fun _ => fun
  | [d1, d2] => { results := [.lit (.bool false)], args := [d1, d2] }
  | _ => none }
def BathPricesWrongFalsely : Prop := bathPricesRow.holds Tryd.pinned (OpenSpec.ofChange bathPricesWrong)

/-- 'cantinglaw05.BathOrders': WHATEVER THE INPUT: true; the input reads as it did. -/
def bathOrdersSpec : ChangeSpec := { name := "bathOrders", fn := fun _ => fun
  | [d1, d2] => { results := [.lit (.bool true)], args := [d1, d2] }
  | _ => none }
def bathOrdersRow : OpenClaim := { program := "ytgeahmmepfmcoaadoor", sum := "754aa3b6717f4f76fe0818c9c26cc094f2ecae7b55d320e32210f0e61fc5cdcb", func := "canting/cantinglaw05.BathOrders", spec := "bathOrders", inPlace := ["internal/bytealg.IndexByteString", "internal/bytealg.IndexString"], unfollowed := true, recurses := true, named := ["unicode/utf8.first", "unicode/utf8.acceptRanges", "internal/bytealg.MaxLen"], plainKeys := false, apart := false, laid := [("unicode/utf8.acceptRanges", laid_unicode_utf8_acceptRanges), ("unicode/utf8.first", laid_unicode_utf8_first)] }
def BathOrdersSaid : Prop := bathOrdersRow.holds Tryd.pinned (OpenSpec.ofChange bathOrdersSpec)

/-- ITS FALSE NEIGHBOUR: 'it returns false'. Refute it at one input. -/
def bathOrdersWrong : ChangeSpec := { name := "bathOrders", fn := fun _ => fun
  | [d1, d2] => { results := [.lit (.bool false)], args := [d1, d2] }
  | _ => none }
def BathOrdersWrongFalsely : Prop := bathOrdersRow.holds Tryd.pinned (OpenSpec.ofChange bathOrdersWrong)

/-- 'cantinglaw05.BathFirst': WHATEVER THE INPUT: true; the input reads as it did. -/
def bathFirstSpec : ChangeSpec := { name := "bathFirst", fn := fun _ => fun
  | [d1, d2] => { results := [.lit (.bool true)], args := [d1, d2] }
  | _ => none }
def bathFirstRow : OpenClaim := { program := "ytgeahmmepfmcoaadoor", sum := "754aa3b6717f4f76fe0818c9c26cc094f2ecae7b55d320e32210f0e61fc5cdcb", func := "canting/cantinglaw05.BathFirst", spec := "bathFirst", inPlace := ["internal/bytealg.IndexByteString", "internal/bytealg.IndexString"], unfollowed := true, recurses := true, named := ["unicode/utf8.first", "unicode/utf8.acceptRanges", "internal/bytealg.MaxLen"], plainKeys := false, apart := false, laid := [("unicode/utf8.acceptRanges", laid_unicode_utf8_acceptRanges), ("unicode/utf8.first", laid_unicode_utf8_first)] }
def BathFirstSaid : Prop := bathFirstRow.holds Tryd.pinned (OpenSpec.ofChange bathFirstSpec)

/-- ITS FALSE NEIGHBOUR: 'it returns false'. Refute it at one input. -/
def bathFirstWrong : ChangeSpec := { name := "bathFirst", fn := fun _ => fun
  | [d1, d2] => { results := [.lit (.bool false)], args := [d1, d2] }
  | _ => none }
def BathFirstWrongFalsely : Prop := bathFirstRow.holds Tryd.pinned (OpenSpec.ofChange bathFirstWrong)

/-- 'cantinglaw05.BathProof': WHATEVER THE INPUT: true; the input reads as it did. -/
def bathProofSpec : ChangeSpec := { name := "bathProof", fn := fun _ => fun
  | [d1, d2, d3] => { results := [.lit (.bool true)], args := [d1, d2, d3] }
  | _ => none }
def bathProofRow : OpenClaim := { program := "ytgeahmmepfmcoaadoor", sum := "754aa3b6717f4f76fe0818c9c26cc094f2ecae7b55d320e32210f0e61fc5cdcb", func := "canting/cantinglaw05.BathProof", spec := "bathProof", inPlace := ["internal/bytealg.IndexByteString", "internal/bytealg.IndexString"], unfollowed := true, recurses := true, named := ["unicode/utf8.first", "unicode/utf8.acceptRanges", "internal/bytealg.MaxLen"], plainKeys := false, apart := false, laid := [("unicode/utf8.acceptRanges", laid_unicode_utf8_acceptRanges), ("unicode/utf8.first", laid_unicode_utf8_first)] }
def BathProofSaid : Prop := bathProofRow.holds Tryd.pinned (OpenSpec.ofChange bathProofSpec)

/-- ITS FALSE NEIGHBOUR: 'it returns false'. Refute it at one input. -/
def bathProofWrong : ChangeSpec := { name := "bathProof", fn := fun _ => fun
  | [d1, d2, d3] => { results := [.lit (.bool false)], args := [d1, d2, d3] }
  | _ => none }
def BathProofWrongFalsely : Prop := bathProofRow.holds Tryd.pinned (OpenSpec.ofChange bathProofWrong)

/-- 'cantinglaw05.BathTours': WHATEVER THE INPUT: true; the input reads as it did. -/
def bathToursSpec : ChangeSpec := { name := "bathTours", fn := fun _ => fun
  | [d1, d2] => { results := [.lit (.bool true)], args := [d1, d2] }
  | _ => none }
def bathToursRow : OpenClaim := { program := "ytgeahmmepfmcoaadoor", sum := "754aa3b6717f4f76fe0818c9c26cc094f2ecae7b55d320e32210f0e61fc5cdcb", func := "canting/cantinglaw05.BathTours", spec := "bathTours", inPlace := ["internal/bytealg.IndexByteString", "internal/bytealg.IndexString"], unfollowed := true, recurses := true, named := ["unicode/utf8.first", "unicode/utf8.acceptRanges", "internal/bytealg.MaxLen"], plainKeys := false, apart := false, laid := [("unicode/utf8.acceptRanges", laid_unicode_utf8_acceptRanges), ("unicode/utf8.first", laid_unicode_utf8_first)] }
def BathToursSaid : Prop := bathToursRow.holds Tryd.pinned (OpenSpec.ofChange bathToursSpec)

/-- ITS FALSE NEIGHBOUR: 'it returns false'. Refute it at one input. -/
def bathToursWrong : ChangeSpec := { name := "bathTours", fn := fun _ => fun
  | [d1, d2] => { results := [.lit (.bool false)], args := [d1, d2] }
  | _ => none }
def BathToursWrongFalsely : Prop := bathToursRow.holds Tryd.pinned (OpenSpec.ofChange bathToursWrong)

/-- 'cantinglaw05.BathTrees': WHATEVER THE INPUT: true; the input reads as it did. -/
def bathTreesSpec : ChangeSpec := { name := "bathTrees", fn := fun _ => fun
  | [d1, d2, d3, d4] => { results := [.lit (.bool true)], args := [d1, d2, d3, d4] }
  | _ => none }
def bathTreesRow : OpenClaim := { program := "ytgeahmmepfmcoaadoor", sum := "754aa3b6717f4f76fe0818c9c26cc094f2ecae7b55d320e32210f0e61fc5cdcb", func := "canting/cantinglaw05.BathTrees", spec := "bathTrees", inPlace := ["internal/bytealg.IndexByteString", "internal/bytealg.IndexString"], unfollowed := true, recurses := true, named := ["unicode/utf8.first", "unicode/utf8.acceptRanges", "internal/bytealg.MaxLen"], plainKeys := false, apart := false, laid := [("unicode/utf8.acceptRanges", laid_unicode_utf8_acceptRanges), ("unicode/utf8.first", laid_unicode_utf8_first)] }
def BathTreesSaid : Prop := bathTreesRow.holds Tryd.pinned (OpenSpec.ofChange bathTreesSpec)

/-- ITS FALSE NEIGHBOUR: 'it returns false'. Refute it at one input. -/
def bathTreesWrong : ChangeSpec := { name := "bathTrees", fn := fun _ => fun
  | [d1, d2, d3, d4] => { results := [.lit (.bool false)], args := [d1, d2, d3, d4] }
  | _ => none }
def BathTreesWrongFalsely : Prop := bathTreesRow.holds Tryd.pinned (OpenSpec.ofChange bathTreesWrong)

/- THE SECOND FORM. 'bulk': how many values and letters a reading holds, each counted each time it is reached (what is shared counts as often as it is met; a slice's spare places count too). A statement '..UptoSaid' is the law's where the arguments, and the package variables that the reading takes, are together of bulk at most 1048576: NARROWER than '..Said'. Prove '..Said' where nothing that the law and all that it calls make is longer than what came in: it says more and counts as full. Else prove '..UptoSaid'. A law counts once. -/
mutual
def uptoBulk {H : Type} : DataW H → Nat
  | .lit (.string bytes) => bytes.length + 1
  | .lit _ => 1
  | .nil => 1
  | .ptr d => uptoBulk d + 1
  | .slice elems spare => uptoBulkAll elems + uptoBulkAll spare + 1
  | .agg parts => uptoBulkAll parts + 1
  | .iface _ d => uptoBulk d + 1
  | .map entries => uptoBulkEntries entries + 1
  | .held _ => 1
def uptoBulkAll {H : Type} : List (DataW H) → Nat
  | [] => 0
  | d :: r => uptoBulk d + uptoBulkAll r
def uptoBulkEntries {H : Type} : List (Lit × DataW H) → Nat
  | [] => 0
  | x :: r => uptoBulkEntry x + uptoBulkEntries r
def uptoBulkEntry {H : Type} : Lit × DataW H → Nat
  | (.string bytes, d) => bytes.length + uptoBulk d + 1
  | (_, d) => uptoBulk d + 1
 end
def uptoSmall : (H : Type) → List (DataW H) → Bool := fun _ ds => decide (uptoBulkAll ds ≤ 1048576)
def OpenSpec.upto (s : _root_.Go.ChangeSpec) : _root_.Go.OpenSpec := { _root_.Go.OpenSpec.ofChange s with cond := some uptoSmall }

/-- 'cantinglaw05.BathTight', WHERE WHAT IT READS IS OF BULK AT MOST 1048576: true; the input reads as it did. -/
def bathTightUptoRow : OpenClaim := { program := "ytgeahmmepfmcoaadoor", sum := "754aa3b6717f4f76fe0818c9c26cc094f2ecae7b55d320e32210f0e61fc5cdcb", func := "canting/cantinglaw05.BathTight", spec := "bathTight", inPlace := ["internal/bytealg.IndexByteString", "internal/bytealg.IndexString"], unfollowed := true, recurses := true, named := ["unicode/utf8.first", "unicode/utf8.acceptRanges", "internal/bytealg.MaxLen"], plainKeys := false, apart := false, laid := [("unicode/utf8.acceptRanges", laid_unicode_utf8_acceptRanges), ("unicode/utf8.first", laid_unicode_utf8_first)], narrowed := true }
def BathTightUptoSaid : Prop := bathTightUptoRow.holds Tryd.pinned (OpenSpec.upto bathTightSpec)

/-- 'cantinglaw05.BathCommon', WHERE WHAT IT READS IS OF BULK AT MOST 1048576: true; the input reads as it did. -/
def bathCommonUptoRow : OpenClaim := { program := "ytgeahmmepfmcoaadoor", sum := "754aa3b6717f4f76fe0818c9c26cc094f2ecae7b55d320e32210f0e61fc5cdcb", func := "canting/cantinglaw05.BathCommon", spec := "bathCommon", inPlace := ["internal/bytealg.IndexByteString", "internal/bytealg.IndexString"], unfollowed := true, recurses := true, named := ["unicode/utf8.first", "unicode/utf8.acceptRanges", "internal/bytealg.MaxLen"], plainKeys := false, apart := false, laid := [("unicode/utf8.acceptRanges", laid_unicode_utf8_acceptRanges), ("unicode/utf8.first", laid_unicode_utf8_first)], narrowed := true }
def BathCommonUptoSaid : Prop := bathCommonUptoRow.holds Tryd.pinned (OpenSpec.upto bathCommonSpec)

/-- 'cantinglaw05.BathDual', WHERE WHAT IT READS IS OF BULK AT MOST 1048576: true; the input reads as it did. -/
def bathDualUptoRow : OpenClaim := { program := "ytgeahmmepfmcoaadoor", sum := "754aa3b6717f4f76fe0818c9c26cc094f2ecae7b55d320e32210f0e61fc5cdcb", func := "canting/cantinglaw05.BathDual", spec := "bathDual", inPlace := ["internal/bytealg.IndexByteString", "internal/bytealg.IndexString"], unfollowed := true, recurses := true, named := ["unicode/utf8.first", "unicode/utf8.acceptRanges", "internal/bytealg.MaxLen"], plainKeys := false, apart := false, laid := [("unicode/utf8.acceptRanges", laid_unicode_utf8_acceptRanges), ("unicode/utf8.first", laid_unicode_utf8_first)], narrowed := true }
def BathDualUptoSaid : Prop := bathDualUptoRow.holds Tryd.pinned (OpenSpec.upto bathDualSpec)

/-- 'cantinglaw05.BathBounds', WHERE WHAT IT READS IS OF BULK AT MOST 1048576: true; the input reads as it did. -/
def bathBoundsUptoRow : OpenClaim := { program := "ytgeahmmepfmcoaadoor", sum := "754aa3b6717f4f76fe0818c9c26cc094f2ecae7b55d320e32210f0e61fc5cdcb", func := "canting/cantinglaw05.BathBounds", spec := "bathBounds", inPlace := ["internal/bytealg.IndexByteString", "internal/bytealg.IndexString"], unfollowed := true, recurses := true, named := ["unicode/utf8.first", "unicode/utf8.acceptRanges", "internal/bytealg.MaxLen"], plainKeys := false, apart := false, laid := [("unicode/utf8.acceptRanges", laid_unicode_utf8_acceptRanges), ("unicode/utf8.first", laid_unicode_utf8_first)], narrowed := true }
def BathBoundsUptoSaid : Prop := bathBoundsUptoRow.holds Tryd.pinned (OpenSpec.upto bathBoundsSpec)

/-- 'cantinglaw05.BathTables', WHERE WHAT IT READS IS OF BULK AT MOST 1048576: true; the input reads as it did. -/
def bathTablesUptoRow : OpenClaim := { program := "ytgeahmmepfmcoaadoor", sum := "754aa3b6717f4f76fe0818c9c26cc094f2ecae7b55d320e32210f0e61fc5cdcb", func := "canting/cantinglaw05.BathTables", spec := "bathTables", inPlace := ["internal/bytealg.IndexByteString", "internal/bytealg.IndexString"], unfollowed := true, recurses := true, named := ["unicode/utf8.first", "unicode/utf8.acceptRanges", "internal/bytealg.MaxLen"], plainKeys := false, apart := false, laid := [("unicode/utf8.acceptRanges", laid_unicode_utf8_acceptRanges), ("unicode/utf8.first", laid_unicode_utf8_first)], narrowed := true }
def BathTablesUptoSaid : Prop := bathTablesUptoRow.holds Tryd.pinned (OpenSpec.upto bathTablesSpec)

/-- 'cantinglaw05.BathShortest', WHERE WHAT IT READS IS OF BULK AT MOST 1048576: true; the input reads as it did. -/
def bathShortestUptoRow : OpenClaim := { program := "ytgeahmmepfmcoaadoor", sum := "754aa3b6717f4f76fe0818c9c26cc094f2ecae7b55d320e32210f0e61fc5cdcb", func := "canting/cantinglaw05.BathShortest", spec := "bathShortest", inPlace := ["internal/bytealg.IndexByteString", "internal/bytealg.IndexString"], unfollowed := true, recurses := true, named := ["unicode/utf8.first", "unicode/utf8.acceptRanges", "internal/bytealg.MaxLen"], plainKeys := false, apart := false, laid := [("unicode/utf8.acceptRanges", laid_unicode_utf8_acceptRanges), ("unicode/utf8.first", laid_unicode_utf8_first)], narrowed := true }
def BathShortestUptoSaid : Prop := bathShortestUptoRow.holds Tryd.pinned (OpenSpec.upto bathShortestSpec)

/-- 'cantinglaw05.BathMore', WHERE WHAT IT READS IS OF BULK AT MOST 1048576: true; the input reads as it did. -/
def bathMoreUptoRow : OpenClaim := { program := "ytgeahmmepfmcoaadoor", sum := "754aa3b6717f4f76fe0818c9c26cc094f2ecae7b55d320e32210f0e61fc5cdcb", func := "canting/cantinglaw05.BathMore", spec := "bathMore", inPlace := ["internal/bytealg.IndexByteString", "internal/bytealg.IndexString"], unfollowed := true, recurses := true, named := ["unicode/utf8.first", "unicode/utf8.acceptRanges", "internal/bytealg.MaxLen"], plainKeys := false, apart := false, laid := [("unicode/utf8.acceptRanges", laid_unicode_utf8_acceptRanges), ("unicode/utf8.first", laid_unicode_utf8_first)], narrowed := true }
def BathMoreUptoSaid : Prop := bathMoreUptoRow.holds Tryd.pinned (OpenSpec.upto bathMoreSpec)

/-- 'cantinglaw05.BathPrices', WHERE WHAT IT READS IS OF BULK AT MOST 1048576: true; the input reads as it did. -/
def bathPricesUptoRow : OpenClaim := { program := "ytgeahmmepfmcoaadoor", sum := "754aa3b6717f4f76fe0818c9c26cc094f2ecae7b55d320e32210f0e61fc5cdcb", func := "canting/cantinglaw05.BathPrices", spec := "bathPrices", inPlace := ["internal/bytealg.IndexByteString", "internal/bytealg.IndexString"], unfollowed := true, recurses := true, named := ["unicode/utf8.first", "unicode/utf8.acceptRanges", "internal/bytealg.MaxLen"], plainKeys := false, apart := false, laid := [("unicode/utf8.acceptRanges", laid_unicode_utf8_acceptRanges), ("unicode/utf8.first", laid_unicode_utf8_first)], narrowed := true }
def BathPricesUptoSaid : Prop := bathPricesUptoRow.holds Tryd.pinned (OpenSpec.upto bathPricesSpec)

/-- 'cantinglaw05.BathOrders', WHERE WHAT IT READS IS OF BULK AT MOST 1048576: true; the input reads as it did. -/
def bathOrdersUptoRow : OpenClaim := { program := "ytgeahmmepfmcoaadoor", sum := "754aa3b6717f4f76fe0818c9c26cc094f2ecae7b55d320e32210f0e61fc5cdcb", func := "canting/cantinglaw05.BathOrders", spec := "bathOrders", inPlace := ["internal/bytealg.IndexByteString", "internal/bytealg.IndexString"], unfollowed := true, recurses := true, named := ["unicode/utf8.first", "unicode/utf8.acceptRanges", "internal/bytealg.MaxLen"], plainKeys := false, apart := false, laid := [("unicode/utf8.acceptRanges", laid_unicode_utf8_acceptRanges), ("unicode/utf8.first", laid_unicode_utf8_first)], narrowed := true }
def BathOrdersUptoSaid : Prop := bathOrdersUptoRow.holds Tryd.pinned (OpenSpec.upto bathOrdersSpec)

/-- 'cantinglaw05.BathFirst', WHERE WHAT IT READS IS OF BULK AT MOST 1048576: true; the input reads as it did. -/
def bathFirstUptoRow : OpenClaim := { program := "ytgeahmmepfmcoaadoor", sum := "754aa3b6717f4f76fe0818c9c26cc094f2ecae7b55d320e32210f0e61fc5cdcb", func := "canting/cantinglaw05.BathFirst", spec := "bathFirst", inPlace := ["internal/bytealg.IndexByteString", "internal/bytealg.IndexString"], unfollowed := true, recurses := true, named := ["unicode/utf8.first", "unicode/utf8.acceptRanges", "internal/bytealg.MaxLen"], plainKeys := false, apart := false, laid := [("unicode/utf8.acceptRanges", laid_unicode_utf8_acceptRanges), ("unicode/utf8.first", laid_unicode_utf8_first)], narrowed := true }
def BathFirstUptoSaid : Prop := bathFirstUptoRow.holds Tryd.pinned (OpenSpec.upto bathFirstSpec)

/-- 'cantinglaw05.BathProof', WHERE WHAT IT READS IS OF BULK AT MOST 1048576: true; the input reads as it did. -/
def bathProofUptoRow : OpenClaim := { program := "ytgeahmmepfmcoaadoor", sum := "754aa3b6717f4f76fe0818c9c26cc094f2ecae7b55d320e32210f0e61fc5cdcb", func := "canting/cantinglaw05.BathProof", spec := "bathProof", inPlace := ["internal/bytealg.IndexByteString", "internal/bytealg.IndexString"], unfollowed := true, recurses := true, named := ["unicode/utf8.first", "unicode/utf8.acceptRanges", "internal/bytealg.MaxLen"], plainKeys := false, apart := false, laid := [("unicode/utf8.acceptRanges", laid_unicode_utf8_acceptRanges), ("unicode/utf8.first", laid_unicode_utf8_first)], narrowed := true }
def BathProofUptoSaid : Prop := bathProofUptoRow.holds Tryd.pinned (OpenSpec.upto bathProofSpec)

/-- 'cantinglaw05.BathTours', WHERE WHAT IT READS IS OF BULK AT MOST 1048576: true; the input reads as it did. -/
def bathToursUptoRow : OpenClaim := { program := "ytgeahmmepfmcoaadoor", sum := "754aa3b6717f4f76fe0818c9c26cc094f2ecae7b55d320e32210f0e61fc5cdcb", func := "canting/cantinglaw05.BathTours", spec := "bathTours", inPlace := ["internal/bytealg.IndexByteString", "internal/bytealg.IndexString"], unfollowed := true, recurses := true, named := ["unicode/utf8.first", "unicode/utf8.acceptRanges", "internal/bytealg.MaxLen"], plainKeys := false, apart := false, laid := [("unicode/utf8.acceptRanges", laid_unicode_utf8_acceptRanges), ("unicode/utf8.first", laid_unicode_utf8_first)], narrowed := true }
def BathToursUptoSaid : Prop := bathToursUptoRow.holds Tryd.pinned (OpenSpec.upto bathToursSpec)

/-- 'cantinglaw05.BathTrees', WHERE WHAT IT READS IS OF BULK AT MOST 1048576: true; the input reads as it did. -/
def bathTreesUptoRow : OpenClaim := { program := "ytgeahmmepfmcoaadoor", sum := "754aa3b6717f4f76fe0818c9c26cc094f2ecae7b55d320e32210f0e61fc5cdcb", func := "canting/cantinglaw05.BathTrees", spec := "bathTrees", inPlace := ["internal/bytealg.IndexByteString", "internal/bytealg.IndexString"], unfollowed := true, recurses := true, named := ["unicode/utf8.first", "unicode/utf8.acceptRanges", "internal/bytealg.MaxLen"], plainKeys := false, apart := false, laid := [("unicode/utf8.acceptRanges", laid_unicode_utf8_acceptRanges), ("unicode/utf8.first", laid_unicode_utf8_first)], narrowed := true }
def BathTreesUptoSaid : Prop := bathTreesUptoRow.holds Tryd.pinned (OpenSpec.upto bathTreesSpec)

end Rows
end Go.Proofs.YtgeahmmepfmcoaaDoor
