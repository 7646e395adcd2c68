/-
  DERIVED. GIVEN WITH THE SEED: THE CARDS: each row of YtcagogkgnnckaaaGreatDoorRows.lean that lists a variable, with what it lists TIED to the program's text (the seventh form; the later family's looks); each row that meets fmt, with fmt's text TOLD by the authors' own Lean function (tested against real Go, not proved from fmt's source: count such statements apart). THE CARD IS WHAT COUNTS. Prove the row's statement (the work); the ties are given (YtcagogkgnnckaaaGreatDoorTie.lean); close each card by the builder's one call (the guide's Derived/Test/ToyasCard.lean, 'card_holds'). Laid BY PROGRAM, IN A SANDBOX (cutbox-door.mjs). By AI agents, Wed Nov 11 2026. No macro, syntax, notation, axiom, sorry.
-/
import Derived.Test.YtcagogkgnnckaaaGreatDoorRows
import GoSem.ClaimSeven
namespace Go.Proofs.YtcagogkgnnckaaaGreatDoor
namespace Rows

/-- THE TIED CARD OF 'estraylaw44.AuditBegins'. -/
def auditBeginsCard : Claim7 := { stood := { row := auditBeginsRow, standIns := [], harness := (true, "21afe4cb5250a5a16a928ab715da8bcab2379c72f9462aa2634f37ea0fa3d4b8"), looks := true }, kinds := [], alts := [], laidByText := true, laidKinds := [.widerDeep], laidTests := true, laidLooks := .later }
def AuditBeginsCardSaid : Prop := Claim7.holds Tryz.pinned (.plain (OpenSpec.ofChange auditBeginsSpec)) auditBeginsCard

/-- THE SECOND FORM's CARD OF 'estraylaw44.AuditBegins'. -/
def auditBeginsUptoCard : Claim7 := { stood := { row := auditBeginsUptoRow, standIns := [], harness := (true, "21afe4cb5250a5a16a928ab715da8bcab2379c72f9462aa2634f37ea0fa3d4b8"), looks := true }, kinds := [], alts := [], laidByText := true, laidKinds := [.widerDeep], laidTests := true, laidLooks := .later }
def AuditBeginsUptoCardSaid : Prop := Claim7.holds Tryz.pinned (.plain (OpenSpec.upto auditBeginsSpec)) auditBeginsUptoCard
end Rows
end Go.Proofs.YtcagogkgnnckaaaGreatDoor
