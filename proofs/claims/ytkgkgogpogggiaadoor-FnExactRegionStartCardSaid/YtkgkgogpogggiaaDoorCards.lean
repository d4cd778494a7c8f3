/-
  DERIVED. GIVEN WITH THE SEED: THE CARDS: each row of YtkgkgogpogggiaaDoorRows.lean that lists a variable, with what it lists TIED to the program's text (the seventh form; the later family's looks); each row that meets fmt, with fmt's text TOLD by the authors' own Lean function (tested against real Go, not proved from fmt's source: count such statements apart). THE CARD IS WHAT COUNTS. Prove the row's statement (the work); the ties are given (YtkgkgogpogggiaaDoorTie.lean); close each card by the builder's one call (the guide's Derived/Test/ToyasCard.lean, 'card_holds'). Laid BY PROGRAM, IN A SANDBOX (cutbox-door.mjs). By AI agents, Wed Nov 11 2026. No macro, syntax, notation, axiom, sorry.
-/
import Derived.Test.YtkgkgogpogggiaaDoorRows
import GoSem.ClaimSeven
namespace Go.Proofs.YtkgkgogpogggiaaDoor
namespace Rows

/-- THE TIED CARD OF 'laws.FnExactSlotSize'. -/
def fnExactSlotSizeCard : Claim7 := { stood := { row := fnExactSlotSizeRow, standIns := [], harness := (true, "4d94f2887a606ce41112c18294e13eddb5b735d934811ee7df0f17f20705f586"), looks := false }, kinds := [], alts := [], laidByText := true, laidKinds := [.data], laidTests := true, laidLooks := .later }
def FnExactSlotSizeCardSaid : Prop := Claim7.holds Tryd.pinned (.plain (OpenSpec.ofChange fnExactSlotSizeSpec)) fnExactSlotSizeCard

/-- THE TIED CARD OF 'laws.FnExactUsable'. -/
def fnExactUsableCard : Claim7 := { stood := { row := fnExactUsableRow, standIns := [], harness := (true, "4d94f2887a606ce41112c18294e13eddb5b735d934811ee7df0f17f20705f586"), looks := false }, kinds := [], alts := [], laidByText := true, laidKinds := [.data], laidTests := true, laidLooks := .later }
def FnExactUsableCardSaid : Prop := Claim7.holds Tryd.pinned (.plain (OpenSpec.ofChange fnExactUsableSpec)) fnExactUsableCard

/-- THE TIED CARD OF 'laws.FnExactSlabPages'. -/
def fnExactSlabPagesCard : Claim7 := { stood := { row := fnExactSlabPagesRow, standIns := [], harness := (true, "4d94f2887a606ce41112c18294e13eddb5b735d934811ee7df0f17f20705f586"), looks := false }, kinds := [], alts := [], laidByText := true, laidKinds := [.data], laidTests := true, laidLooks := .later }
def FnExactSlabPagesCardSaid : Prop := Claim7.holds Tryd.pinned (.plain (OpenSpec.ofChange fnExactSlabPagesSpec)) fnExactSlabPagesCard

/-- THE TIED CARD OF 'laws.FnExactClassOf'. -/
def fnExactClassOfCard : Claim7 := { stood := { row := fnExactClassOfRow, standIns := [], harness := (true, "4d94f2887a606ce41112c18294e13eddb5b735d934811ee7df0f17f20705f586"), looks := false }, kinds := [], alts := [], laidByText := true, laidKinds := [.data], laidTests := true, laidLooks := .later }
def FnExactClassOfCardSaid : Prop := Claim7.holds Tryd.pinned (.plain (OpenSpec.ofChange fnExactClassOfSpec)) fnExactClassOfCard

/-- THE TIED CARD OF 'laws.FnExactRegionPages'. -/
def fnExactRegionPagesCard : Claim7 := { stood := { row := fnExactRegionPagesRow, standIns := [], harness := (true, "4d94f2887a606ce41112c18294e13eddb5b735d934811ee7df0f17f20705f586"), looks := false }, kinds := [], alts := [], laidByText := true, laidKinds := [.data], laidTests := true, laidLooks := .later }
def FnExactRegionPagesCardSaid : Prop := Claim7.holds Tryd.pinned (.plain (OpenSpec.ofChange fnExactRegionPagesSpec)) fnExactRegionPagesCard

/-- THE TIED CARD OF 'laws.FnExactSlabSlots'. -/
def fnExactSlabSlotsCard : Claim7 := { stood := { row := fnExactSlabSlotsRow, standIns := [], harness := (true, "4d94f2887a606ce41112c18294e13eddb5b735d934811ee7df0f17f20705f586"), looks := false }, kinds := [], alts := [], laidByText := true, laidKinds := [.data], laidTests := true, laidLooks := .later }
def FnExactSlabSlotsCardSaid : Prop := Claim7.holds Tryd.pinned (.plain (OpenSpec.ofChange fnExactSlabSlotsSpec)) fnExactSlabSlotsCard

/-- THE TIED CARD OF 'laws.FnExactRegionStart'. -/
def fnExactRegionStartCard : Claim7 := { stood := { row := fnExactRegionStartRow, standIns := [], harness := (true, "4d94f2887a606ce41112c18294e13eddb5b735d934811ee7df0f17f20705f586"), looks := false }, kinds := [], alts := [], laidByText := true, laidKinds := [.data], laidTests := true, laidLooks := .later }
def FnExactRegionStartCardSaid : Prop := Claim7.holds Tryd.pinned (.plain (OpenSpec.ofChange fnExactRegionStartSpec)) fnExactRegionStartCard

/-- THE TIED CARD OF 'laws.FnExactLargeStart'. -/
def fnExactLargeStartCard : Claim7 := { stood := { row := fnExactLargeStartRow, standIns := [], harness := (true, "4d94f2887a606ce41112c18294e13eddb5b735d934811ee7df0f17f20705f586"), looks := false }, kinds := [], alts := [], laidByText := true, laidKinds := [.data], laidTests := true, laidLooks := .later }
def FnExactLargeStartCardSaid : Prop := Claim7.holds Tryd.pinned (.plain (OpenSpec.ofChange fnExactLargeStartSpec)) fnExactLargeStartCard

/-- THE SECOND FORM's CARD OF 'laws.FnExactSlotSize'. -/
def fnExactSlotSizeUptoCard : Claim7 := { stood := { row := fnExactSlotSizeUptoRow, standIns := [], harness := (true, "4d94f2887a606ce41112c18294e13eddb5b735d934811ee7df0f17f20705f586"), looks := false }, kinds := [], alts := [], laidByText := true, laidKinds := [.data], laidTests := true, laidLooks := .later }
def FnExactSlotSizeUptoCardSaid : Prop := Claim7.holds Tryd.pinned (.plain (OpenSpec.upto fnExactSlotSizeSpec)) fnExactSlotSizeUptoCard

/-- THE SECOND FORM's CARD OF 'laws.FnExactUsable'. -/
def fnExactUsableUptoCard : Claim7 := { stood := { row := fnExactUsableUptoRow, standIns := [], harness := (true, "4d94f2887a606ce41112c18294e13eddb5b735d934811ee7df0f17f20705f586"), looks := false }, kinds := [], alts := [], laidByText := true, laidKinds := [.data], laidTests := true, laidLooks := .later }
def FnExactUsableUptoCardSaid : Prop := Claim7.holds Tryd.pinned (.plain (OpenSpec.upto fnExactUsableSpec)) fnExactUsableUptoCard

/-- THE SECOND FORM's CARD OF 'laws.FnExactSlabPages'. -/
def fnExactSlabPagesUptoCard : Claim7 := { stood := { row := fnExactSlabPagesUptoRow, standIns := [], harness := (true, "4d94f2887a606ce41112c18294e13eddb5b735d934811ee7df0f17f20705f586"), looks := false }, kinds := [], alts := [], laidByText := true, laidKinds := [.data], laidTests := true, laidLooks := .later }
def FnExactSlabPagesUptoCardSaid : Prop := Claim7.holds Tryd.pinned (.plain (OpenSpec.upto fnExactSlabPagesSpec)) fnExactSlabPagesUptoCard

/-- THE SECOND FORM's CARD OF 'laws.FnExactClassOf'. -/
def fnExactClassOfUptoCard : Claim7 := { stood := { row := fnExactClassOfUptoRow, standIns := [], harness := (true, "4d94f2887a606ce41112c18294e13eddb5b735d934811ee7df0f17f20705f586"), looks := false }, kinds := [], alts := [], laidByText := true, laidKinds := [.data], laidTests := true, laidLooks := .later }
def FnExactClassOfUptoCardSaid : Prop := Claim7.holds Tryd.pinned (.plain (OpenSpec.upto fnExactClassOfSpec)) fnExactClassOfUptoCard

/-- THE SECOND FORM's CARD OF 'laws.FnExactRegionPages'. -/
def fnExactRegionPagesUptoCard : Claim7 := { stood := { row := fnExactRegionPagesUptoRow, standIns := [], harness := (true, "4d94f2887a606ce41112c18294e13eddb5b735d934811ee7df0f17f20705f586"), looks := false }, kinds := [], alts := [], laidByText := true, laidKinds := [.data], laidTests := true, laidLooks := .later }
def FnExactRegionPagesUptoCardSaid : Prop := Claim7.holds Tryd.pinned (.plain (OpenSpec.upto fnExactRegionPagesSpec)) fnExactRegionPagesUptoCard

/-- THE SECOND FORM's CARD OF 'laws.FnExactSlabSlots'. -/
def fnExactSlabSlotsUptoCard : Claim7 := { stood := { row := fnExactSlabSlotsUptoRow, standIns := [], harness := (true, "4d94f2887a606ce41112c18294e13eddb5b735d934811ee7df0f17f20705f586"), looks := false }, kinds := [], alts := [], laidByText := true, laidKinds := [.data], laidTests := true, laidLooks := .later }
def FnExactSlabSlotsUptoCardSaid : Prop := Claim7.holds Tryd.pinned (.plain (OpenSpec.upto fnExactSlabSlotsSpec)) fnExactSlabSlotsUptoCard

/-- THE SECOND FORM's CARD OF 'laws.FnExactRegionStart'. -/
def fnExactRegionStartUptoCard : Claim7 := { stood := { row := fnExactRegionStartUptoRow, standIns := [], harness := (true, "4d94f2887a606ce41112c18294e13eddb5b735d934811ee7df0f17f20705f586"), looks := false }, kinds := [], alts := [], laidByText := true, laidKinds := [.data], laidTests := true, laidLooks := .later }
def FnExactRegionStartUptoCardSaid : Prop := Claim7.holds Tryd.pinned (.plain (OpenSpec.upto fnExactRegionStartSpec)) fnExactRegionStartUptoCard

/-- THE SECOND FORM's CARD OF 'laws.FnExactLargeStart'. -/
def fnExactLargeStartUptoCard : Claim7 := { stood := { row := fnExactLargeStartUptoRow, standIns := [], harness := (true, "4d94f2887a606ce41112c18294e13eddb5b735d934811ee7df0f17f20705f586"), looks := false }, kinds := [], alts := [], laidByText := true, laidKinds := [.data], laidTests := true, laidLooks := .later }
def FnExactLargeStartUptoCardSaid : Prop := Claim7.holds Tryd.pinned (.plain (OpenSpec.upto fnExactLargeStartSpec)) fnExactLargeStartUptoCard
end Rows
end Go.Proofs.YtkgkgogpogggiaaDoor
