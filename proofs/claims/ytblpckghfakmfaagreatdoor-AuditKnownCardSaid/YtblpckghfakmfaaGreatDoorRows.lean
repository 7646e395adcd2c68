/-
  NARROWER THAN 'FOR EVERY INPUT', by the rows' own cells (each row's printed sentence says how): RegistryNil: laid · MachineNil: laid · AuditFinds: laid · AuditKnown: laid.
  DERIVED. THE GIVEN ROWS OF THIS SEAT. 4 by the template 'for every input the law returns true; each argument reads behind the call as it read before'; 0 by the template 'total and deterministic' (their statements: YtblpckghfakmfaaGreatDoorTotals.lean).
  GIVEN WITH THE SEED: the statements are not yours to turn. If you find one false, say at which input.
  Laid BY PROGRAM, IN A SANDBOX (cutbox-rows.mjs): the forced cells as the released guide's own fill.sh prints them over the translation 2bfae803333cabec… (all of the seat's roots in one cut). By AI agents, Wed Nov 11 2026. No macro, syntax, notation, axiom, sorry.
-/
import Derived.Test.YtblpckghfakmfaaGreatDoorChecked
import GoSem.Claim
import GoSem.ClaimJoined
import GoSem.ClaimMapViews
import Derived.JoinedTies
import Derived.KernelRfl
namespace Go.Proofs.YtblpckghfakmfaaGreatDoor
/- THE CELL 'sum', in the pinned program and in every row, IS THE sha256 OF THE DUMP (.gsa) THAT YtblpckghfakmfaaGreatDoorProg.lean LOADS. Nothing in Lean hashes anything: it is a label: what it is worth is what the hold of that sum in a sandbox is worth. -/
noncomputable def Tryz.pinned : Pinned := { name := "ytblpckghfakmfaagreatdoor", sum := "2bfae803333cabecadf9259e0d1dd3c238d95192beaddc1f774426fe5bce7539", checked := Tryz.checked }
namespace Rows
def none {H : Type} : Left H := { results := [], args := [] }

/- WHAT THE LISTED PACKAGE-LEVEL VARIABLES READ AS WHEN THE CALL BEGINS. Each datum BY PROGRAM (the guide's laid-datum.mjs) off the statement by which the dump's own 'gosem.cut.vars' lays the variable. In a bare row this is a premise. The card (YtblpckghfakmfaaGreatDoorCards.lean) ties it to the program's text. -/
def laid_estray_answer_letters {H : Type} : DataW H := .agg [.lit (.int .u8 0), .lit (.int .u8 111), .lit (.int .u8 108), .lit (.int .u8 102)]

/-- 'estraylaw38.RegistryNil': WHATEVER THE INPUT: true; the input reads as it did. -/
def registryNilSpec : ChangeSpec := { name := "registryNil", fn := fun _ => fun
  | [d] => { results := [.lit (.bool true)], args := [d] }
  | _ => none }
def registryNilRow : OpenClaim := { program := "ytblpckghfakmfaagreatdoor", sum := "2bfae803333cabecadf9259e0d1dd3c238d95192beaddc1f774426fe5bce7539", func := "estray/estraylaw38.RegistryNil", spec := "registryNil", inPlace := ["maps.clone"], unfollowed := true, recurses := true, named := ["estray/answer.letters"], plainKeys := false, apart := false, laid := [("estray/answer.letters", laid_estray_answer_letters)] }
def RegistryNilSaid : Prop := registryNilRow.holds Tryz.pinned (OpenSpec.ofChange registryNilSpec)

/-- ITS FALSE NEIGHBOUR: 'it returns false'. Refute it at one input. -/
def registryNilWrong : ChangeSpec := { name := "registryNil", fn := fun _ => fun
  | [d] => { results := [.lit (.bool false)], args := [d] }
  | _ => none }
def RegistryNilWrongFalsely : Prop := registryNilRow.holds Tryz.pinned (OpenSpec.ofChange registryNilWrong)

/-- 'estraylaw40.MachineNil': WHATEVER THE INPUT: true; the input reads as it did. -/
def machineNilSpec : ChangeSpec := { name := "machineNil", fn := fun _ => fun
  | [d1, d2] => { results := [.lit (.bool true)], args := [d1, d2] }
  | _ => none }
def machineNilRow : OpenClaim := { program := "ytblpckghfakmfaagreatdoor", sum := "2bfae803333cabecadf9259e0d1dd3c238d95192beaddc1f774426fe5bce7539", func := "estray/estraylaw40.MachineNil", spec := "machineNil", inPlace := ["maps.clone"], unfollowed := true, recurses := true, named := ["estray/answer.letters"], plainKeys := false, apart := false, laid := [("estray/answer.letters", laid_estray_answer_letters)] }
def MachineNilSaid : Prop := machineNilRow.holds Tryz.pinned (OpenSpec.ofChange machineNilSpec)

/-- ITS FALSE NEIGHBOUR: 'it returns false'. Refute it at one input. -/
def machineNilWrong : ChangeSpec := { name := "machineNil", fn := fun _ => fun
  | [d1, d2] => { results := [.lit (.bool false)], args := [d1, d2] }
  | _ => none }
def MachineNilWrongFalsely : Prop := machineNilRow.holds Tryz.pinned (OpenSpec.ofChange machineNilWrong)

/-- 'estraylaw44.AuditFinds': WHATEVER THE INPUT: true; the input reads as it did. -/
def auditFindsSpec : ChangeSpec := { name := "auditFinds", fn := fun _ => fun
  | [d1, d2] => { results := [.lit (.bool true)], args := [d1, d2] }
  | _ => none }
def auditFindsRow : OpenClaim := { program := "ytblpckghfakmfaagreatdoor", sum := "2bfae803333cabecadf9259e0d1dd3c238d95192beaddc1f774426fe5bce7539", func := "estray/estraylaw44.AuditFinds", spec := "auditFinds", inPlace := ["maps.clone"], unfollowed := true, recurses := true, named := ["estray/answer.letters"], plainKeys := false, apart := false, laid := [("estray/answer.letters", laid_estray_answer_letters)] }
def AuditFindsSaid : Prop := auditFindsRow.holds Tryz.pinned (OpenSpec.ofChange auditFindsSpec)

/-- ITS FALSE NEIGHBOUR: 'it returns false'. Refute it at one input. -/
def auditFindsWrong : ChangeSpec := { name := "auditFinds", fn := fun _ => fun
  | [d1, d2] => { results := [.lit (.bool false)], args := [d1, d2] }
  | _ => none }
def AuditFindsWrongFalsely : Prop := auditFindsRow.holds Tryz.pinned (OpenSpec.ofChange auditFindsWrong)

/-- 'estraylaw44.AuditKnown': WHATEVER THE INPUT: true; the input reads as it did. -/
def auditKnownSpec : ChangeSpec := { name := "auditKnown", fn := fun _ => fun
  | [] => { results := [.lit (.bool true)], args := [] }
  | _ => none }
def auditKnownRow : OpenClaim := { program := "ytblpckghfakmfaagreatdoor", sum := "2bfae803333cabecadf9259e0d1dd3c238d95192beaddc1f774426fe5bce7539", func := "estray/estraylaw44.AuditKnown", spec := "auditKnown", inPlace := ["maps.clone"], unfollowed := true, recurses := true, named := ["estray/answer.letters"], plainKeys := false, apart := false, laid := [("estray/answer.letters", laid_estray_answer_letters)] }
def AuditKnownSaid : Prop := auditKnownRow.holds Tryz.pinned (OpenSpec.ofChange auditKnownSpec)

/-- ITS FALSE NEIGHBOUR: 'it returns false'. Refute it at one input. -/
def auditKnownWrong : ChangeSpec := { name := "auditKnown", fn := fun _ => fun
  | [] => { results := [.lit (.bool false)], args := [] }
  | _ => none }
def AuditKnownWrongFalsely : Prop := auditKnownRow.holds Tryz.pinned (OpenSpec.ofChange auditKnownWrong)

/- THE SECOND FORM. 'bulk': how many values and letters a reading holds, each counted each time it is reached (what is shared counts as often as it is met; a slice's spare places count too). A statement '..UptoSaid' is the law's where the arguments, and the package variables that the reading takes, are together of bulk at most 1048576: NARROWER than '..Said'. Prove '..Said' where nothing that the law and all that it calls make is longer than what came in: it says more and counts as full. Else prove '..UptoSaid'. A law counts once. -/
mutual
def uptoBulk {H : Type} : DataW H → Nat
  | .lit (.string bytes) => bytes.length + 1
  | .lit _ => 1
  | .nil => 1
  | .ptr d => uptoBulk d + 1
  | .slice elems spare => uptoBulkAll elems + uptoBulkAll spare + 1
  | .agg parts => uptoBulkAll parts + 1
  | .iface _ d => uptoBulk d + 1
  | .map entries => uptoBulkEntries entries + 1
  | .held _ => 1
def uptoBulkAll {H : Type} : List (DataW H) → Nat
  | [] => 0
  | d :: r => uptoBulk d + uptoBulkAll r
def uptoBulkEntries {H : Type} : List (Lit × DataW H) → Nat
  | [] => 0
  | x :: r => uptoBulkEntry x + uptoBulkEntries r
def uptoBulkEntry {H : Type} : Lit × DataW H → Nat
  | (.string bytes, d) => bytes.length + uptoBulk d + 1
  | (_, d) => uptoBulk d + 1
 end
def uptoSmall : (H : Type) → List (DataW H) → Bool := fun _ ds => decide (uptoBulkAll ds ≤ 1048576)
def OpenSpec.upto (s : _root_.Go.ChangeSpec) : _root_.Go.OpenSpec := { _root_.Go.OpenSpec.ofChange s with cond := some uptoSmall }

/-- 'estraylaw38.RegistryNil', WHERE WHAT IT READS IS OF BULK AT MOST 1048576: true; the input reads as it did. -/
def registryNilUptoRow : OpenClaim := { program := "ytblpckghfakmfaagreatdoor", sum := "2bfae803333cabecadf9259e0d1dd3c238d95192beaddc1f774426fe5bce7539", func := "estray/estraylaw38.RegistryNil", spec := "registryNil", inPlace := ["maps.clone"], unfollowed := true, recurses := true, named := ["estray/answer.letters"], plainKeys := false, apart := false, laid := [("estray/answer.letters", laid_estray_answer_letters)], narrowed := true }
def RegistryNilUptoSaid : Prop := registryNilUptoRow.holds Tryz.pinned (OpenSpec.upto registryNilSpec)

/-- 'estraylaw40.MachineNil', WHERE WHAT IT READS IS OF BULK AT MOST 1048576: true; the input reads as it did. -/
def machineNilUptoRow : OpenClaim := { program := "ytblpckghfakmfaagreatdoor", sum := "2bfae803333cabecadf9259e0d1dd3c238d95192beaddc1f774426fe5bce7539", func := "estray/estraylaw40.MachineNil", spec := "machineNil", inPlace := ["maps.clone"], unfollowed := true, recurses := true, named := ["estray/answer.letters"], plainKeys := false, apart := false, laid := [("estray/answer.letters", laid_estray_answer_letters)], narrowed := true }
def MachineNilUptoSaid : Prop := machineNilUptoRow.holds Tryz.pinned (OpenSpec.upto machineNilSpec)

/-- 'estraylaw44.AuditFinds', WHERE WHAT IT READS IS OF BULK AT MOST 1048576: true; the input reads as it did. -/
def auditFindsUptoRow : OpenClaim := { program := "ytblpckghfakmfaagreatdoor", sum := "2bfae803333cabecadf9259e0d1dd3c238d95192beaddc1f774426fe5bce7539", func := "estray/estraylaw44.AuditFinds", spec := "auditFinds", inPlace := ["maps.clone"], unfollowed := true, recurses := true, named := ["estray/answer.letters"], plainKeys := false, apart := false, laid := [("estray/answer.letters", laid_estray_answer_letters)], narrowed := true }
def AuditFindsUptoSaid : Prop := auditFindsUptoRow.holds Tryz.pinned (OpenSpec.upto auditFindsSpec)

/-- 'estraylaw44.AuditKnown', WHERE WHAT IT READS IS OF BULK AT MOST 1048576: true; the input reads as it did. -/
def auditKnownUptoRow : OpenClaim := { program := "ytblpckghfakmfaagreatdoor", sum := "2bfae803333cabecadf9259e0d1dd3c238d95192beaddc1f774426fe5bce7539", func := "estray/estraylaw44.AuditKnown", spec := "auditKnown", inPlace := ["maps.clone"], unfollowed := true, recurses := true, named := ["estray/answer.letters"], plainKeys := false, apart := false, laid := [("estray/answer.letters", laid_estray_answer_letters)], narrowed := true }
def AuditKnownUptoSaid : Prop := auditKnownUptoRow.holds Tryz.pinned (OpenSpec.upto auditKnownSpec)

end Rows
end Go.Proofs.YtblpckghfakmfaaGreatDoor
