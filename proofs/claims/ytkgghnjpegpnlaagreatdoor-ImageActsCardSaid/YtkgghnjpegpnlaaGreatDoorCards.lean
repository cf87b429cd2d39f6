/-
  DERIVED. GIVEN WITH THE SEED: THE CARDS: each row of YtkgghnjpegpnlaaGreatDoorRows.lean that lists a variable, with what it lists TIED to the program's text (the seventh form; the later family's looks); each row that meets fmt, with fmt's text TOLD by the authors' own Lean function (tested against real Go, not proved from fmt's source: count such statements apart). THE CARD IS WHAT COUNTS. Prove the row's statement (the work); the ties are given (YtkgghnjpegpnlaaGreatDoorTie.lean); close each card by the builder's one call (the guide's Derived/Test/ToyasCard.lean, 'card_holds'). Laid BY PROGRAM, IN A SANDBOX (cutbox-door.mjs). By AI agents, Wed Nov 11 2026. No macro, syntax, notation, axiom, sorry.
-/
import Derived.Test.YtkgghnjpegpnlaaGreatDoorRows
import GoSem.ClaimSeven
namespace Go.Proofs.YtkgghnjpegpnlaaGreatDoor
namespace Rows

/-- THE TIED CARD OF 'millpondlaw09.ImagePut'. -/
def imagePutCard : Claim7 := { stood := { row := imagePutRow, standIns := [], harness := (true, "ee237351edccd4682fda308fb2cd7c246b0f51a3551fc93bb30bcffd8f8a275b"), looks := true }, kinds := [], alts := [], laidByText := true, laidKinds := [.data, .data, .data, .data, .sentinel, .sentinel, .pinned], laidTests := true, laidLooks := .later }
def ImagePutCardSaid : Prop := Claim7.holds Tryz.pinned (.plain (OpenSpec.ofChange imagePutSpec)) imagePutCard

/-- THE TIED CARD OF 'millpondlaw09.ImageActs'. -/
def imageActsCard : Claim7 := { stood := { row := imageActsRow, standIns := [], harness := (true, "ee237351edccd4682fda308fb2cd7c246b0f51a3551fc93bb30bcffd8f8a275b"), looks := true }, kinds := [], alts := [], laidByText := true, laidKinds := [.data, .data, .data, .data, .sentinel, .sentinel, .pinned], laidTests := true, laidLooks := .later }
def ImageActsCardSaid : Prop := Claim7.holds Tryz.pinned (.plain (OpenSpec.ofChange imageActsSpec)) imageActsCard

/-- THE TIED CARD OF 'millpondlaw09.ImageCanons'. -/
def imageCanonsCard : Claim7 := { stood := { row := imageCanonsRow, standIns := [], harness := (true, "ee237351edccd4682fda308fb2cd7c246b0f51a3551fc93bb30bcffd8f8a275b"), looks := true }, kinds := [], alts := [], laidByText := true, laidKinds := [.data, .data, .data, .data, .sentinel, .sentinel, .pinned], laidTests := true, laidLooks := .later }
def ImageCanonsCardSaid : Prop := Claim7.holds Tryz.pinned (.plain (OpenSpec.ofChange imageCanonsSpec)) imageCanonsCard

/-- THE SECOND FORM's CARD OF 'millpondlaw09.ImagePut'. -/
def imagePutUptoCard : Claim7 := { stood := { row := imagePutUptoRow, standIns := [], harness := (true, "ee237351edccd4682fda308fb2cd7c246b0f51a3551fc93bb30bcffd8f8a275b"), looks := true }, kinds := [], alts := [], laidByText := true, laidKinds := [.data, .data, .data, .data, .sentinel, .sentinel, .pinned], laidTests := true, laidLooks := .later }
def ImagePutUptoCardSaid : Prop := Claim7.holds Tryz.pinned (.plain (OpenSpec.upto imagePutSpec)) imagePutUptoCard

/-- THE SECOND FORM's CARD OF 'millpondlaw09.ImageActs'. -/
def imageActsUptoCard : Claim7 := { stood := { row := imageActsUptoRow, standIns := [], harness := (true, "ee237351edccd4682fda308fb2cd7c246b0f51a3551fc93bb30bcffd8f8a275b"), looks := true }, kinds := [], alts := [], laidByText := true, laidKinds := [.data, .data, .data, .data, .sentinel, .sentinel, .pinned], laidTests := true, laidLooks := .later }
def ImageActsUptoCardSaid : Prop := Claim7.holds Tryz.pinned (.plain (OpenSpec.upto imageActsSpec)) imageActsUptoCard

/-- THE SECOND FORM's CARD OF 'millpondlaw09.ImageCanons'. -/
def imageCanonsUptoCard : Claim7 := { stood := { row := imageCanonsUptoRow, standIns := [], harness := (true, "ee237351edccd4682fda308fb2cd7c246b0f51a3551fc93bb30bcffd8f8a275b"), looks := true }, kinds := [], alts := [], laidByText := true, laidKinds := [.data, .data, .data, .data, .sentinel, .sentinel, .pinned], laidTests := true, laidLooks := .later }
def ImageCanonsUptoCardSaid : Prop := Claim7.holds Tryz.pinned (.plain (OpenSpec.upto imageCanonsSpec)) imageCanonsUptoCard
end Rows
end Go.Proofs.YtkgghnjpegpnlaaGreatDoor
