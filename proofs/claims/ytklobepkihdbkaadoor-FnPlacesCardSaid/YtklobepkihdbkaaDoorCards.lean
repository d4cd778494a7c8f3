/-
  DERIVED. GIVEN WITH THE SEED: THE CARDS: each row of YtklobepkihdbkaaDoorRows.lean that lists a variable, with what it lists TIED to the program's text (the seventh form; the later family's looks); each row that meets fmt, with fmt's text TOLD by the authors' own Lean function (tested against real Go, not proved from fmt's source: count such statements apart). THE CARD IS WHAT COUNTS. Prove the row's statement (the work); the ties are given (YtklobepkihdbkaaDoorTie.lean); close each card by the builder's one call (the guide's Derived/Test/ToyasCard.lean, 'card_holds'). Laid BY PROGRAM, IN A SANDBOX (cutbox-door.mjs). By AI agents, Wed Nov 11 2026. No macro, syntax, notation, axiom, sorry.
-/
import Derived.Test.YtklobepkihdbkaaDoorRows
import GoSem.ClaimSeven
namespace Go.Proofs.YtklobepkihdbkaaDoor
namespace Rows

/-- THE TIED CARD OF 'laws.FnExactArenaPages'. -/
def fnExactArenaPagesCard : Claim7 := { stood := { row := fnExactArenaPagesRow, standIns := [], harness := (true, "685d126cf02416a675a877c611fad3cfecfffbad6898cf67e2ca4ee0daab7319"), looks := false }, kinds := [], alts := [], laidByText := true, laidKinds := [.data], laidTests := true, laidLooks := .later }
def FnExactArenaPagesCardSaid : Prop := Claim7.holds Tryd.pinned (.plain (OpenSpec.ofChange fnExactArenaPagesSpec)) fnExactArenaPagesCard

/-- THE TIED CARD OF 'laws.FnExactSlotAddr'. -/
def fnExactSlotAddrCard : Claim7 := { stood := { row := fnExactSlotAddrRow, standIns := [], harness := (true, "685d126cf02416a675a877c611fad3cfecfffbad6898cf67e2ca4ee0daab7319"), looks := false }, kinds := [], alts := [], laidByText := true, laidKinds := [.data], laidTests := true, laidLooks := .later }
def FnExactSlotAddrCardSaid : Prop := Claim7.holds Tryd.pinned (.plain (OpenSpec.ofChange fnExactSlotAddrSpec)) fnExactSlotAddrCard

/-- THE TIED CARD OF 'laws.FnClasses'. -/
def fnClassesCard : Claim7 := { stood := { row := fnClassesRow, standIns := [], harness := (true, "685d126cf02416a675a877c611fad3cfecfffbad6898cf67e2ca4ee0daab7319"), looks := false }, kinds := [], alts := [], laidByText := true, laidKinds := [.data], laidTests := true, laidLooks := .later }
def FnClassesCardSaid : Prop := Claim7.holds Tryd.pinned (.plain (OpenSpec.ofChange fnClassesSpec)) fnClassesCard

/-- THE TIED CARD OF 'laws.FnExactDecode'. -/
def fnExactDecodeCard : Claim7 := { stood := { row := fnExactDecodeRow, standIns := [], harness := (true, "685d126cf02416a675a877c611fad3cfecfffbad6898cf67e2ca4ee0daab7319"), looks := false }, kinds := [], alts := [], laidByText := true, laidKinds := [.data], laidTests := true, laidLooks := .later }
def FnExactDecodeCardSaid : Prop := Claim7.holds Tryd.pinned (.plain (OpenSpec.ofChange fnExactDecodeSpec)) fnExactDecodeCard

/-- THE TIED CARD OF 'laws.FnPlaces'. -/
def fnPlacesCard : Claim7 := { stood := { row := fnPlacesRow, standIns := [], harness := (true, "685d126cf02416a675a877c611fad3cfecfffbad6898cf67e2ca4ee0daab7319"), looks := false }, kinds := [], alts := [], laidByText := true, laidKinds := [.data], laidTests := true, laidLooks := .later }
def FnPlacesCardSaid : Prop := Claim7.holds Tryd.pinned (.plain (OpenSpec.ofChange fnPlacesSpec)) fnPlacesCard

/-- THE SECOND FORM's CARD OF 'laws.FnExactArenaPages'. -/
def fnExactArenaPagesUptoCard : Claim7 := { stood := { row := fnExactArenaPagesUptoRow, standIns := [], harness := (true, "685d126cf02416a675a877c611fad3cfecfffbad6898cf67e2ca4ee0daab7319"), looks := false }, kinds := [], alts := [], laidByText := true, laidKinds := [.data], laidTests := true, laidLooks := .later }
def FnExactArenaPagesUptoCardSaid : Prop := Claim7.holds Tryd.pinned (.plain (OpenSpec.upto fnExactArenaPagesSpec)) fnExactArenaPagesUptoCard

/-- THE SECOND FORM's CARD OF 'laws.FnExactSlotAddr'. -/
def fnExactSlotAddrUptoCard : Claim7 := { stood := { row := fnExactSlotAddrUptoRow, standIns := [], harness := (true, "685d126cf02416a675a877c611fad3cfecfffbad6898cf67e2ca4ee0daab7319"), looks := false }, kinds := [], alts := [], laidByText := true, laidKinds := [.data], laidTests := true, laidLooks := .later }
def FnExactSlotAddrUptoCardSaid : Prop := Claim7.holds Tryd.pinned (.plain (OpenSpec.upto fnExactSlotAddrSpec)) fnExactSlotAddrUptoCard

/-- THE SECOND FORM's CARD OF 'laws.FnClasses'. -/
def fnClassesUptoCard : Claim7 := { stood := { row := fnClassesUptoRow, standIns := [], harness := (true, "685d126cf02416a675a877c611fad3cfecfffbad6898cf67e2ca4ee0daab7319"), looks := false }, kinds := [], alts := [], laidByText := true, laidKinds := [.data], laidTests := true, laidLooks := .later }
def FnClassesUptoCardSaid : Prop := Claim7.holds Tryd.pinned (.plain (OpenSpec.upto fnClassesSpec)) fnClassesUptoCard

/-- THE SECOND FORM's CARD OF 'laws.FnExactDecode'. -/
def fnExactDecodeUptoCard : Claim7 := { stood := { row := fnExactDecodeUptoRow, standIns := [], harness := (true, "685d126cf02416a675a877c611fad3cfecfffbad6898cf67e2ca4ee0daab7319"), looks := false }, kinds := [], alts := [], laidByText := true, laidKinds := [.data], laidTests := true, laidLooks := .later }
def FnExactDecodeUptoCardSaid : Prop := Claim7.holds Tryd.pinned (.plain (OpenSpec.upto fnExactDecodeSpec)) fnExactDecodeUptoCard

/-- THE SECOND FORM's CARD OF 'laws.FnPlaces'. -/
def fnPlacesUptoCard : Claim7 := { stood := { row := fnPlacesUptoRow, standIns := [], harness := (true, "685d126cf02416a675a877c611fad3cfecfffbad6898cf67e2ca4ee0daab7319"), looks := false }, kinds := [], alts := [], laidByText := true, laidKinds := [.data], laidTests := true, laidLooks := .later }
def FnPlacesUptoCardSaid : Prop := Claim7.holds Tryd.pinned (.plain (OpenSpec.upto fnPlacesSpec)) fnPlacesUptoCard
end Rows
end Go.Proofs.YtklobepkihdbkaaDoor
