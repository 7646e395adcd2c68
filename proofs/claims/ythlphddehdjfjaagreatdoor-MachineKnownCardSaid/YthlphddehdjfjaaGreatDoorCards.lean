/-
  DERIVED. GIVEN WITH THE SEED: THE CARDS: each row of YthlphddehdjfjaaGreatDoorRows.lean that lists a variable, with what it lists TIED to the program's text (the seventh form; the later family's looks); each row that meets fmt, with fmt's text TOLD by the authors' own Lean function (tested against real Go, not proved from fmt's source: count such statements apart). THE CARD IS WHAT COUNTS. Prove the row's statement (the work); the ties are given (YthlphddehdjfjaaGreatDoorTie.lean); close each card by the builder's one call (the guide's Derived/Test/ToyasCard.lean, 'card_holds'). Laid BY PROGRAM, IN A SANDBOX (cutbox-door.mjs). By AI agents, Wed Nov 11 2026. No macro, syntax, notation, axiom, sorry.
-/
import Derived.Test.YthlphddehdjfjaaGreatDoorRows
import GoSem.ClaimSeven
namespace Go.Proofs.YthlphddehdjfjaaGreatDoor
namespace Rows

/-- THE TIED CARD OF 'estraylaw38.RegistryNil'. -/
def registryNilCard : Claim7 := { stood := { row := registryNilRow, standIns := [], harness := (true, "a880053bada1bc11a1e66aa903b5cb5be15957c11b63f10df7609e3cba9a0378"), looks := true }, kinds := [], alts := [], laidByText := true, laidKinds := [.widerDeep], laidTests := true, laidLooks := .later }
def RegistryNilCardSaid : Prop := Claim7.holds Tryz.pinned (.plain (OpenSpec.ofChange registryNilSpec)) registryNilCard

/-- THE TIED CARD OF 'estraylaw40.MachineKnown'. -/
def machineKnownCard : Claim7 := { stood := { row := machineKnownRow, standIns := [], harness := (true, "a880053bada1bc11a1e66aa903b5cb5be15957c11b63f10df7609e3cba9a0378"), looks := true }, kinds := [], alts := [], laidByText := true, laidKinds := [.widerDeep], laidTests := true, laidLooks := .later }
def MachineKnownCardSaid : Prop := Claim7.holds Tryz.pinned (.plain (OpenSpec.ofChange machineKnownSpec)) machineKnownCard

/-- THE SECOND FORM's CARD OF 'estraylaw38.RegistryNil'. -/
def registryNilUptoCard : Claim7 := { stood := { row := registryNilUptoRow, standIns := [], harness := (true, "a880053bada1bc11a1e66aa903b5cb5be15957c11b63f10df7609e3cba9a0378"), looks := true }, kinds := [], alts := [], laidByText := true, laidKinds := [.widerDeep], laidTests := true, laidLooks := .later }
def RegistryNilUptoCardSaid : Prop := Claim7.holds Tryz.pinned (.plain (OpenSpec.upto registryNilSpec)) registryNilUptoCard

/-- THE SECOND FORM's CARD OF 'estraylaw40.MachineKnown'. -/
def machineKnownUptoCard : Claim7 := { stood := { row := machineKnownUptoRow, standIns := [], harness := (true, "a880053bada1bc11a1e66aa903b5cb5be15957c11b63f10df7609e3cba9a0378"), looks := true }, kinds := [], alts := [], laidByText := true, laidKinds := [.widerDeep], laidTests := true, laidLooks := .later }
def MachineKnownUptoCardSaid : Prop := Claim7.holds Tryz.pinned (.plain (OpenSpec.upto machineKnownSpec)) machineKnownUptoCard
end Rows
end Go.Proofs.YthlphddehdjfjaaGreatDoor
