/-
  DERIVED. GIVEN WITH THE SEED: THE CARDS: each row of YtblpckghfakmfaaGreatDoorRows.lean that lists a variable, with what it lists TIED to the program's text (the seventh form; the later family's looks); each row that meets fmt, with fmt's text TOLD by the authors' own Lean function (tested against real Go, not proved from fmt's source: count such statements apart). THE CARD IS WHAT COUNTS. Prove the row's statement (the work); the ties are given (YtblpckghfakmfaaGreatDoorTie.lean); close each card by the builder's one call (the guide's Derived/Test/ToyasCard.lean, 'card_holds'). Laid BY PROGRAM, IN A SANDBOX (cutbox-door.mjs). By AI agents, Wed Nov 11 2026. No macro, syntax, notation, axiom, sorry.
-/
import Derived.Test.YtblpckghfakmfaaGreatDoorRows
import GoSem.ClaimSeven
namespace Go.Proofs.YtblpckghfakmfaaGreatDoor
namespace Rows

/-- THE TIED CARD OF 'estraylaw38.RegistryNil'. -/
def registryNilCard : Claim7 := { stood := { row := registryNilRow, standIns := [], harness := (true, "d6bd2fb70cd12b6f80ddd6b8aeaee9f5cd346062bb2aeae6a6f074c344317910"), looks := true }, kinds := [], alts := [], laidByText := true, laidKinds := [.widerDeep], laidTests := true, laidLooks := .later }
def RegistryNilCardSaid : Prop := Claim7.holds Tryz.pinned (.plain (OpenSpec.ofChange registryNilSpec)) registryNilCard

/-- THE TIED CARD OF 'estraylaw40.MachineNil'. -/
def machineNilCard : Claim7 := { stood := { row := machineNilRow, standIns := [], harness := (true, "d6bd2fb70cd12b6f80ddd6b8aeaee9f5cd346062bb2aeae6a6f074c344317910"), looks := true }, kinds := [], alts := [], laidByText := true, laidKinds := [.widerDeep], laidTests := true, laidLooks := .later }
def MachineNilCardSaid : Prop := Claim7.holds Tryz.pinned (.plain (OpenSpec.ofChange machineNilSpec)) machineNilCard

/-- THE TIED CARD OF 'estraylaw44.AuditFinds'. -/
def auditFindsCard : Claim7 := { stood := { row := auditFindsRow, standIns := [], harness := (true, "d6bd2fb70cd12b6f80ddd6b8aeaee9f5cd346062bb2aeae6a6f074c344317910"), looks := true }, kinds := [], alts := [], laidByText := true, laidKinds := [.widerDeep], laidTests := true, laidLooks := .later }
def AuditFindsCardSaid : Prop := Claim7.holds Tryz.pinned (.plain (OpenSpec.ofChange auditFindsSpec)) auditFindsCard

/-- THE TIED CARD OF 'estraylaw44.AuditKnown'. -/
def auditKnownCard : Claim7 := { stood := { row := auditKnownRow, standIns := [], harness := (true, "d6bd2fb70cd12b6f80ddd6b8aeaee9f5cd346062bb2aeae6a6f074c344317910"), looks := true }, kinds := [], alts := [], laidByText := true, laidKinds := [.widerDeep], laidTests := true, laidLooks := .later }
def AuditKnownCardSaid : Prop := Claim7.holds Tryz.pinned (.plain (OpenSpec.ofChange auditKnownSpec)) auditKnownCard

/-- THE SECOND FORM's CARD OF 'estraylaw38.RegistryNil'. -/
def registryNilUptoCard : Claim7 := { stood := { row := registryNilUptoRow, standIns := [], harness := (true, "d6bd2fb70cd12b6f80ddd6b8aeaee9f5cd346062bb2aeae6a6f074c344317910"), looks := true }, kinds := [], alts := [], laidByText := true, laidKinds := [.widerDeep], laidTests := true, laidLooks := .later }
def RegistryNilUptoCardSaid : Prop := Claim7.holds Tryz.pinned (.plain (OpenSpec.upto registryNilSpec)) registryNilUptoCard

/-- THE SECOND FORM's CARD OF 'estraylaw40.MachineNil'. -/
def machineNilUptoCard : Claim7 := { stood := { row := machineNilUptoRow, standIns := [], harness := (true, "d6bd2fb70cd12b6f80ddd6b8aeaee9f5cd346062bb2aeae6a6f074c344317910"), looks := true }, kinds := [], alts := [], laidByText := true, laidKinds := [.widerDeep], laidTests := true, laidLooks := .later }
def MachineNilUptoCardSaid : Prop := Claim7.holds Tryz.pinned (.plain (OpenSpec.upto machineNilSpec)) machineNilUptoCard

/-- THE SECOND FORM's CARD OF 'estraylaw44.AuditFinds'. -/
def auditFindsUptoCard : Claim7 := { stood := { row := auditFindsUptoRow, standIns := [], harness := (true, "d6bd2fb70cd12b6f80ddd6b8aeaee9f5cd346062bb2aeae6a6f074c344317910"), looks := true }, kinds := [], alts := [], laidByText := true, laidKinds := [.widerDeep], laidTests := true, laidLooks := .later }
def AuditFindsUptoCardSaid : Prop := Claim7.holds Tryz.pinned (.plain (OpenSpec.upto auditFindsSpec)) auditFindsUptoCard

/-- THE SECOND FORM's CARD OF 'estraylaw44.AuditKnown'. -/
def auditKnownUptoCard : Claim7 := { stood := { row := auditKnownUptoRow, standIns := [], harness := (true, "d6bd2fb70cd12b6f80ddd6b8aeaee9f5cd346062bb2aeae6a6f074c344317910"), looks := true }, kinds := [], alts := [], laidByText := true, laidKinds := [.widerDeep], laidTests := true, laidLooks := .later }
def AuditKnownUptoCardSaid : Prop := Claim7.holds Tryz.pinned (.plain (OpenSpec.upto auditKnownSpec)) auditKnownUptoCard
end Rows
end Go.Proofs.YtblpckghfakmfaaGreatDoor
