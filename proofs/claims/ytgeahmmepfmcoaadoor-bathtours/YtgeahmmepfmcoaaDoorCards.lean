/-
  DERIVED. GIVEN WITH THE SEED: THE CARDS: each row of YtgeahmmepfmcoaaDoorRows.lean that lists a variable, with what it lists TIED to the program's text (the seventh form; the later family's looks); each row that meets fmt, with fmt's text TOLD by the authors' own Lean function (tested against real Go, not proved from fmt's source: count such statements apart). THE CARD IS WHAT COUNTS. Prove the row's statement (the work); the ties are given (YtgeahmmepfmcoaaDoorTie.lean); close each card by the builder's one call (the guide's Derived/Test/ToyasCard.lean, 'card_holds'). Laid BY PROGRAM, IN A SANDBOX (cutbox-door.mjs). By AI agents, Wed Nov 11 2026. No macro, syntax, notation, axiom, sorry.
-/
import Derived.Test.YtgeahmmepfmcoaaDoorRows
import GoSem.ClaimSeven
namespace Go.Proofs.YtgeahmmepfmcoaaDoor
namespace Rows

/-- THE TIED CARD OF 'cantinglaw05.BathTight'. -/
def bathTightCard : Claim7 := { stood := { row := bathTightRow, standIns := [], harness := (true, "6c0157a2c14a7e2c2379c52a020a87ddbafd63b7fa240afacabd945960165a23"), looks := false }, kinds := [], alts := [], laidByText := true, laidKinds := [.data, .pinned], laidTests := true, laidLooks := .later }
def BathTightCardSaid : Prop := Claim7.holds Tryd.pinned (.plain (OpenSpec.ofChange bathTightSpec)) bathTightCard

/-- THE TIED CARD OF 'cantinglaw05.BathCommon'. -/
def bathCommonCard : Claim7 := { stood := { row := bathCommonRow, standIns := [], harness := (true, "6c0157a2c14a7e2c2379c52a020a87ddbafd63b7fa240afacabd945960165a23"), looks := false }, kinds := [], alts := [], laidByText := true, laidKinds := [.data, .pinned], laidTests := true, laidLooks := .later }
def BathCommonCardSaid : Prop := Claim7.holds Tryd.pinned (.plain (OpenSpec.ofChange bathCommonSpec)) bathCommonCard

/-- THE TIED CARD OF 'cantinglaw05.BathDual'. -/
def bathDualCard : Claim7 := { stood := { row := bathDualRow, standIns := [], harness := (true, "6c0157a2c14a7e2c2379c52a020a87ddbafd63b7fa240afacabd945960165a23"), looks := false }, kinds := [], alts := [], laidByText := true, laidKinds := [.data, .pinned], laidTests := true, laidLooks := .later }
def BathDualCardSaid : Prop := Claim7.holds Tryd.pinned (.plain (OpenSpec.ofChange bathDualSpec)) bathDualCard

/-- THE TIED CARD OF 'cantinglaw05.BathBounds'. -/
def bathBoundsCard : Claim7 := { stood := { row := bathBoundsRow, standIns := [], harness := (true, "6c0157a2c14a7e2c2379c52a020a87ddbafd63b7fa240afacabd945960165a23"), looks := false }, kinds := [], alts := [], laidByText := true, laidKinds := [.data, .pinned], laidTests := true, laidLooks := .later }
def BathBoundsCardSaid : Prop := Claim7.holds Tryd.pinned (.plain (OpenSpec.ofChange bathBoundsSpec)) bathBoundsCard

/-- THE TIED CARD OF 'cantinglaw05.BathTables'. -/
def bathTablesCard : Claim7 := { stood := { row := bathTablesRow, standIns := [], harness := (true, "6c0157a2c14a7e2c2379c52a020a87ddbafd63b7fa240afacabd945960165a23"), looks := false }, kinds := [], alts := [], laidByText := true, laidKinds := [.data, .pinned], laidTests := true, laidLooks := .later }
def BathTablesCardSaid : Prop := Claim7.holds Tryd.pinned (.plain (OpenSpec.ofChange bathTablesSpec)) bathTablesCard

/-- THE TIED CARD OF 'cantinglaw05.BathShortest'. -/
def bathShortestCard : Claim7 := { stood := { row := bathShortestRow, standIns := [], harness := (true, "6c0157a2c14a7e2c2379c52a020a87ddbafd63b7fa240afacabd945960165a23"), looks := false }, kinds := [], alts := [], laidByText := true, laidKinds := [.data, .pinned], laidTests := true, laidLooks := .later }
def BathShortestCardSaid : Prop := Claim7.holds Tryd.pinned (.plain (OpenSpec.ofChange bathShortestSpec)) bathShortestCard

/-- THE TIED CARD OF 'cantinglaw05.BathMore'. -/
def bathMoreCard : Claim7 := { stood := { row := bathMoreRow, standIns := [], harness := (true, "6c0157a2c14a7e2c2379c52a020a87ddbafd63b7fa240afacabd945960165a23"), looks := false }, kinds := [], alts := [], laidByText := true, laidKinds := [.data, .pinned], laidTests := true, laidLooks := .later }
def BathMoreCardSaid : Prop := Claim7.holds Tryd.pinned (.plain (OpenSpec.ofChange bathMoreSpec)) bathMoreCard

/-- THE TIED CARD OF 'cantinglaw05.BathPrices'. -/
def bathPricesCard : Claim7 := { stood := { row := bathPricesRow, standIns := [], harness := (true, "6c0157a2c14a7e2c2379c52a020a87ddbafd63b7fa240afacabd945960165a23"), looks := false }, kinds := [], alts := [], laidByText := true, laidKinds := [.data, .pinned], laidTests := true, laidLooks := .later }
def BathPricesCardSaid : Prop := Claim7.holds Tryd.pinned (.plain (OpenSpec.ofChange bathPricesSpec)) bathPricesCard

/-- THE TIED CARD OF 'cantinglaw05.BathOrders'. -/
def bathOrdersCard : Claim7 := { stood := { row := bathOrdersRow, standIns := [], harness := (true, "6c0157a2c14a7e2c2379c52a020a87ddbafd63b7fa240afacabd945960165a23"), looks := false }, kinds := [], alts := [], laidByText := true, laidKinds := [.data, .pinned], laidTests := true, laidLooks := .later }
def BathOrdersCardSaid : Prop := Claim7.holds Tryd.pinned (.plain (OpenSpec.ofChange bathOrdersSpec)) bathOrdersCard

/-- THE TIED CARD OF 'cantinglaw05.BathFirst'. -/
def bathFirstCard : Claim7 := { stood := { row := bathFirstRow, standIns := [], harness := (true, "6c0157a2c14a7e2c2379c52a020a87ddbafd63b7fa240afacabd945960165a23"), looks := false }, kinds := [], alts := [], laidByText := true, laidKinds := [.data, .pinned], laidTests := true, laidLooks := .later }
def BathFirstCardSaid : Prop := Claim7.holds Tryd.pinned (.plain (OpenSpec.ofChange bathFirstSpec)) bathFirstCard

/-- THE TIED CARD OF 'cantinglaw05.BathProof'. -/
def bathProofCard : Claim7 := { stood := { row := bathProofRow, standIns := [], harness := (true, "6c0157a2c14a7e2c2379c52a020a87ddbafd63b7fa240afacabd945960165a23"), looks := false }, kinds := [], alts := [], laidByText := true, laidKinds := [.data, .pinned], laidTests := true, laidLooks := .later }
def BathProofCardSaid : Prop := Claim7.holds Tryd.pinned (.plain (OpenSpec.ofChange bathProofSpec)) bathProofCard

/-- THE TIED CARD OF 'cantinglaw05.BathTours'. -/
def bathToursCard : Claim7 := { stood := { row := bathToursRow, standIns := [], harness := (true, "6c0157a2c14a7e2c2379c52a020a87ddbafd63b7fa240afacabd945960165a23"), looks := false }, kinds := [], alts := [], laidByText := true, laidKinds := [.data, .pinned], laidTests := true, laidLooks := .later }
def BathToursCardSaid : Prop := Claim7.holds Tryd.pinned (.plain (OpenSpec.ofChange bathToursSpec)) bathToursCard

/-- THE TIED CARD OF 'cantinglaw05.BathTrees'. -/
def bathTreesCard : Claim7 := { stood := { row := bathTreesRow, standIns := [], harness := (true, "6c0157a2c14a7e2c2379c52a020a87ddbafd63b7fa240afacabd945960165a23"), looks := false }, kinds := [], alts := [], laidByText := true, laidKinds := [.data, .pinned], laidTests := true, laidLooks := .later }
def BathTreesCardSaid : Prop := Claim7.holds Tryd.pinned (.plain (OpenSpec.ofChange bathTreesSpec)) bathTreesCard

/-- THE SECOND FORM's CARD OF 'cantinglaw05.BathTight'. -/
def bathTightUptoCard : Claim7 := { stood := { row := bathTightUptoRow, standIns := [], harness := (true, "6c0157a2c14a7e2c2379c52a020a87ddbafd63b7fa240afacabd945960165a23"), looks := false }, kinds := [], alts := [], laidByText := true, laidKinds := [.data, .pinned], laidTests := true, laidLooks := .later }
def BathTightUptoCardSaid : Prop := Claim7.holds Tryd.pinned (.plain (OpenSpec.upto bathTightSpec)) bathTightUptoCard

/-- THE SECOND FORM's CARD OF 'cantinglaw05.BathCommon'. -/
def bathCommonUptoCard : Claim7 := { stood := { row := bathCommonUptoRow, standIns := [], harness := (true, "6c0157a2c14a7e2c2379c52a020a87ddbafd63b7fa240afacabd945960165a23"), looks := false }, kinds := [], alts := [], laidByText := true, laidKinds := [.data, .pinned], laidTests := true, laidLooks := .later }
def BathCommonUptoCardSaid : Prop := Claim7.holds Tryd.pinned (.plain (OpenSpec.upto bathCommonSpec)) bathCommonUptoCard

/-- THE SECOND FORM's CARD OF 'cantinglaw05.BathDual'. -/
def bathDualUptoCard : Claim7 := { stood := { row := bathDualUptoRow, standIns := [], harness := (true, "6c0157a2c14a7e2c2379c52a020a87ddbafd63b7fa240afacabd945960165a23"), looks := false }, kinds := [], alts := [], laidByText := true, laidKinds := [.data, .pinned], laidTests := true, laidLooks := .later }
def BathDualUptoCardSaid : Prop := Claim7.holds Tryd.pinned (.plain (OpenSpec.upto bathDualSpec)) bathDualUptoCard

/-- THE SECOND FORM's CARD OF 'cantinglaw05.BathBounds'. -/
def bathBoundsUptoCard : Claim7 := { stood := { row := bathBoundsUptoRow, standIns := [], harness := (true, "6c0157a2c14a7e2c2379c52a020a87ddbafd63b7fa240afacabd945960165a23"), looks := false }, kinds := [], alts := [], laidByText := true, laidKinds := [.data, .pinned], laidTests := true, laidLooks := .later }
def BathBoundsUptoCardSaid : Prop := Claim7.holds Tryd.pinned (.plain (OpenSpec.upto bathBoundsSpec)) bathBoundsUptoCard

/-- THE SECOND FORM's CARD OF 'cantinglaw05.BathTables'. -/
def bathTablesUptoCard : Claim7 := { stood := { row := bathTablesUptoRow, standIns := [], harness := (true, "6c0157a2c14a7e2c2379c52a020a87ddbafd63b7fa240afacabd945960165a23"), looks := false }, kinds := [], alts := [], laidByText := true, laidKinds := [.data, .pinned], laidTests := true, laidLooks := .later }
def BathTablesUptoCardSaid : Prop := Claim7.holds Tryd.pinned (.plain (OpenSpec.upto bathTablesSpec)) bathTablesUptoCard

/-- THE SECOND FORM's CARD OF 'cantinglaw05.BathShortest'. -/
def bathShortestUptoCard : Claim7 := { stood := { row := bathShortestUptoRow, standIns := [], harness := (true, "6c0157a2c14a7e2c2379c52a020a87ddbafd63b7fa240afacabd945960165a23"), looks := false }, kinds := [], alts := [], laidByText := true, laidKinds := [.data, .pinned], laidTests := true, laidLooks := .later }
def BathShortestUptoCardSaid : Prop := Claim7.holds Tryd.pinned (.plain (OpenSpec.upto bathShortestSpec)) bathShortestUptoCard

/-- THE SECOND FORM's CARD OF 'cantinglaw05.BathMore'. -/
def bathMoreUptoCard : Claim7 := { stood := { row := bathMoreUptoRow, standIns := [], harness := (true, "6c0157a2c14a7e2c2379c52a020a87ddbafd63b7fa240afacabd945960165a23"), looks := false }, kinds := [], alts := [], laidByText := true, laidKinds := [.data, .pinned], laidTests := true, laidLooks := .later }
def BathMoreUptoCardSaid : Prop := Claim7.holds Tryd.pinned (.plain (OpenSpec.upto bathMoreSpec)) bathMoreUptoCard

/-- THE SECOND FORM's CARD OF 'cantinglaw05.BathPrices'. -/
def bathPricesUptoCard : Claim7 := { stood := { row := bathPricesUptoRow, standIns := [], harness := (true, "6c0157a2c14a7e2c2379c52a020a87ddbafd63b7fa240afacabd945960165a23"), looks := false }, kinds := [], alts := [], laidByText := true, laidKinds := [.data, .pinned], laidTests := true, laidLooks := .later }
def BathPricesUptoCardSaid : Prop := Claim7.holds Tryd.pinned (.plain (OpenSpec.upto bathPricesSpec)) bathPricesUptoCard

/-- THE SECOND FORM's CARD OF 'cantinglaw05.BathOrders'. -/
def bathOrdersUptoCard : Claim7 := { stood := { row := bathOrdersUptoRow, standIns := [], harness := (true, "6c0157a2c14a7e2c2379c52a020a87ddbafd63b7fa240afacabd945960165a23"), looks := false }, kinds := [], alts := [], laidByText := true, laidKinds := [.data, .pinned], laidTests := true, laidLooks := .later }
def BathOrdersUptoCardSaid : Prop := Claim7.holds Tryd.pinned (.plain (OpenSpec.upto bathOrdersSpec)) bathOrdersUptoCard

/-- THE SECOND FORM's CARD OF 'cantinglaw05.BathFirst'. -/
def bathFirstUptoCard : Claim7 := { stood := { row := bathFirstUptoRow, standIns := [], harness := (true, "6c0157a2c14a7e2c2379c52a020a87ddbafd63b7fa240afacabd945960165a23"), looks := false }, kinds := [], alts := [], laidByText := true, laidKinds := [.data, .pinned], laidTests := true, laidLooks := .later }
def BathFirstUptoCardSaid : Prop := Claim7.holds Tryd.pinned (.plain (OpenSpec.upto bathFirstSpec)) bathFirstUptoCard

/-- THE SECOND FORM's CARD OF 'cantinglaw05.BathProof'. -/
def bathProofUptoCard : Claim7 := { stood := { row := bathProofUptoRow, standIns := [], harness := (true, "6c0157a2c14a7e2c2379c52a020a87ddbafd63b7fa240afacabd945960165a23"), looks := false }, kinds := [], alts := [], laidByText := true, laidKinds := [.data, .pinned], laidTests := true, laidLooks := .later }
def BathProofUptoCardSaid : Prop := Claim7.holds Tryd.pinned (.plain (OpenSpec.upto bathProofSpec)) bathProofUptoCard

/-- THE SECOND FORM's CARD OF 'cantinglaw05.BathTours'. -/
def bathToursUptoCard : Claim7 := { stood := { row := bathToursUptoRow, standIns := [], harness := (true, "6c0157a2c14a7e2c2379c52a020a87ddbafd63b7fa240afacabd945960165a23"), looks := false }, kinds := [], alts := [], laidByText := true, laidKinds := [.data, .pinned], laidTests := true, laidLooks := .later }
def BathToursUptoCardSaid : Prop := Claim7.holds Tryd.pinned (.plain (OpenSpec.upto bathToursSpec)) bathToursUptoCard

/-- THE SECOND FORM's CARD OF 'cantinglaw05.BathTrees'. -/
def bathTreesUptoCard : Claim7 := { stood := { row := bathTreesUptoRow, standIns := [], harness := (true, "6c0157a2c14a7e2c2379c52a020a87ddbafd63b7fa240afacabd945960165a23"), looks := false }, kinds := [], alts := [], laidByText := true, laidKinds := [.data, .pinned], laidTests := true, laidLooks := .later }
def BathTreesUptoCardSaid : Prop := Claim7.holds Tryd.pinned (.plain (OpenSpec.upto bathTreesSpec)) bathTreesUptoCard
end Rows
end Go.Proofs.YtgeahmmepfmcoaaDoor
