/-
  DERIVED. GIVEN WITH THE SEED: THE CARDS: each row of YtmkhoakhfdjplaaDoorRows.lean that lists a variable, with what it lists TIED to the program's text (the seventh form; the later family's looks); each row that meets fmt, with fmt's text TOLD by the authors' own Lean function (tested against real Go, not proved from fmt's source: count such statements apart). THE CARD IS WHAT COUNTS. Prove the row's statement (the work); the ties are given (YtmkhoakhfdjplaaDoorTie.lean); close each card by the builder's one call (the guide's Derived/Test/ToyasCard.lean, 'card_holds'). Laid BY PROGRAM, IN A SANDBOX (cutbox-door.mjs). By AI agents, Wed Nov 11 2026. No macro, syntax, notation, axiom, sorry.
-/
import Derived.Test.YtmkhoakhfdjplaaDoorRows
import GoSem.ClaimSeven
namespace Go.Proofs.YtmkhoakhfdjplaaDoor
namespace Rows

/-- THE TIED CARD OF 'laws.FnExactParseInt'. -/
def fnExactParseIntCard : Claim7 := { stood := { row := fnExactParseIntRow, standIns := [], harness := (true, "907d2b67578e6510a35cc9b7df56563c5c77fa48ec42c56ed751d3f3dc10e156"), looks := false }, kinds := [], alts := [], laidByText := true, laidKinds := [.data, .data, .data], laidTests := true, laidLooks := .later }
def FnExactParseIntCardSaid : Prop := Claim7.holds Tryd.pinned (.plain (OpenSpec.ofChange fnExactParseIntSpec)) fnExactParseIntCard

/-- THE TIED CARD OF 'laws.FnNumbers'. -/
def fnNumbersCard : Claim7 := { stood := { row := fnNumbersRow, standIns := [], harness := (true, "907d2b67578e6510a35cc9b7df56563c5c77fa48ec42c56ed751d3f3dc10e156"), looks := false }, kinds := [], alts := [], laidByText := true, laidKinds := [.data, .data, .data], laidTests := true, laidLooks := .later }
def FnNumbersCardSaid : Prop := Claim7.holds Tryd.pinned (.plain (OpenSpec.ofChange fnNumbersSpec)) fnNumbersCard

/-- THE TIED CARD OF 'laws.FnExactCompareAtoms'. -/
def fnExactCompareAtomsCard : Claim7 := { stood := { row := fnExactCompareAtomsRow, standIns := [], harness := (true, "907d2b67578e6510a35cc9b7df56563c5c77fa48ec42c56ed751d3f3dc10e156"), looks := false }, kinds := [], alts := [], laidByText := true, laidKinds := [.data, .data, .data], laidTests := true, laidLooks := .later }
def FnExactCompareAtomsCardSaid : Prop := Claim7.holds Tryd.pinned (.plain (OpenSpec.ofChange fnExactCompareAtomsSpec)) fnExactCompareAtomsCard

/-- THE TIED CARD OF 'laws.FnExactAtomsOf'. -/
def fnExactAtomsOfCard : Claim7 := { stood := { row := fnExactAtomsOfRow, standIns := [], harness := (true, "907d2b67578e6510a35cc9b7df56563c5c77fa48ec42c56ed751d3f3dc10e156"), looks := false }, kinds := [], alts := [], laidByText := true, laidKinds := [.data, .data, .data], laidTests := true, laidLooks := .later }
def FnExactAtomsOfCardSaid : Prop := Claim7.holds Tryd.pinned (.plain (OpenSpec.ofChange fnExactAtomsOfSpec)) fnExactAtomsOfCard

/-- THE TIED CARD OF 'laws.FnExactFormatRanges'. -/
def fnExactFormatRangesCard : Claim7 := { stood := { row := fnExactFormatRangesRow, standIns := [], harness := (true, "907d2b67578e6510a35cc9b7df56563c5c77fa48ec42c56ed751d3f3dc10e156"), looks := false }, kinds := [], alts := [], laidByText := true, laidKinds := [.data, .data, .data], laidTests := true, laidLooks := .later }
def FnExactFormatRangesCardSaid : Prop := Claim7.holds Tryd.pinned (.plain (OpenSpec.ofChange fnExactFormatRangesSpec)) fnExactFormatRangesCard

/-- THE SECOND FORM's CARD OF 'laws.FnExactParseInt'. -/
def fnExactParseIntUptoCard : Claim7 := { stood := { row := fnExactParseIntUptoRow, standIns := [], harness := (true, "907d2b67578e6510a35cc9b7df56563c5c77fa48ec42c56ed751d3f3dc10e156"), looks := false }, kinds := [], alts := [], laidByText := true, laidKinds := [.data, .data, .data], laidTests := true, laidLooks := .later }
def FnExactParseIntUptoCardSaid : Prop := Claim7.holds Tryd.pinned (.plain (OpenSpec.upto fnExactParseIntSpec)) fnExactParseIntUptoCard

/-- THE SECOND FORM's CARD OF 'laws.FnNumbers'. -/
def fnNumbersUptoCard : Claim7 := { stood := { row := fnNumbersUptoRow, standIns := [], harness := (true, "907d2b67578e6510a35cc9b7df56563c5c77fa48ec42c56ed751d3f3dc10e156"), looks := false }, kinds := [], alts := [], laidByText := true, laidKinds := [.data, .data, .data], laidTests := true, laidLooks := .later }
def FnNumbersUptoCardSaid : Prop := Claim7.holds Tryd.pinned (.plain (OpenSpec.upto fnNumbersSpec)) fnNumbersUptoCard

/-- THE SECOND FORM's CARD OF 'laws.FnExactCompareAtoms'. -/
def fnExactCompareAtomsUptoCard : Claim7 := { stood := { row := fnExactCompareAtomsUptoRow, standIns := [], harness := (true, "907d2b67578e6510a35cc9b7df56563c5c77fa48ec42c56ed751d3f3dc10e156"), looks := false }, kinds := [], alts := [], laidByText := true, laidKinds := [.data, .data, .data], laidTests := true, laidLooks := .later }
def FnExactCompareAtomsUptoCardSaid : Prop := Claim7.holds Tryd.pinned (.plain (OpenSpec.upto fnExactCompareAtomsSpec)) fnExactCompareAtomsUptoCard

/-- THE SECOND FORM's CARD OF 'laws.FnExactAtomsOf'. -/
def fnExactAtomsOfUptoCard : Claim7 := { stood := { row := fnExactAtomsOfUptoRow, standIns := [], harness := (true, "907d2b67578e6510a35cc9b7df56563c5c77fa48ec42c56ed751d3f3dc10e156"), looks := false }, kinds := [], alts := [], laidByText := true, laidKinds := [.data, .data, .data], laidTests := true, laidLooks := .later }
def FnExactAtomsOfUptoCardSaid : Prop := Claim7.holds Tryd.pinned (.plain (OpenSpec.upto fnExactAtomsOfSpec)) fnExactAtomsOfUptoCard

/-- THE SECOND FORM's CARD OF 'laws.FnExactFormatRanges'. -/
def fnExactFormatRangesUptoCard : Claim7 := { stood := { row := fnExactFormatRangesUptoRow, standIns := [], harness := (true, "907d2b67578e6510a35cc9b7df56563c5c77fa48ec42c56ed751d3f3dc10e156"), looks := false }, kinds := [], alts := [], laidByText := true, laidKinds := [.data, .data, .data], laidTests := true, laidLooks := .later }
def FnExactFormatRangesUptoCardSaid : Prop := Claim7.holds Tryd.pinned (.plain (OpenSpec.upto fnExactFormatRangesSpec)) fnExactFormatRangesUptoCard
end Rows
end Go.Proofs.YtmkhoakhfdjplaaDoor
