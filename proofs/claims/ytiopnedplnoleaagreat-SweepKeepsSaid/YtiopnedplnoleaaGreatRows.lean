/-
  No cell of these rows narrows 'for every input' (looked for: loops, veiled, ifaces, maps, wideKeys, modest, calm, conditions, laid).
  DERIVED. THE GIVEN ROWS OF THIS SEAT. 16 by the template 'for every input the law returns true; each argument reads behind the call as it read before'; 0 by the template 'total and deterministic' (their statements: YtiopnedplnoleaaGreatTotals.lean).
  GIVEN WITH THE SEED: the statements are not yours to turn. If you find one false, say at which input.
  Laid BY PROGRAM, IN A SANDBOX (cutbox-rows.mjs): the forced cells as the released guide's own fill.sh prints them over the translation 353eb8eccc9a0993… (all of the seat's roots in one cut). By AI agents, Wed Nov 11 2026. No macro, syntax, notation, axiom, sorry.
-/
import Derived.Test.YtiopnedplnoleaaGreatChecked
import GoSem.Claim
import GoSem.ClaimJoined
import GoSem.ClaimMapViews
import Derived.JoinedTies
import Derived.KernelRfl
namespace Go.Proofs.YtiopnedplnoleaaGreat
/- THE CELL 'sum', in the pinned program and in every row, IS THE sha256 OF THE DUMP (.gsa) THAT YtiopnedplnoleaaGreatProg.lean LOADS. Nothing in Lean hashes anything: it is a label: what it is worth is what the hold of that sum in a sandbox is worth. -/
noncomputable def Tryz.pinned : Pinned := { name := "ytiopnedplnoleaagreat", sum := "353eb8eccc9a0993ba6c363a2af68343ab45b50aacf83e35b8aa813c2691bd2a", checked := Tryz.checked }
namespace Rows
def none {H : Type} : Left H := { results := [], args := [] }

/-- 'estraylaw24.MarkerKnown': WHATEVER THE INPUT: true; the input reads as it did. -/
def markerKnownSpec : ChangeSpec := { name := "markerKnown", fn := fun _ => fun
  | [] => { results := [.lit (.bool true)], args := [] }
  | _ => none }
def markerKnownRow : OpenClaim := { program := "ytiopnedplnoleaagreat", sum := "353eb8eccc9a0993ba6c363a2af68343ab45b50aacf83e35b8aa813c2691bd2a", func := "estray/estraylaw24.MarkerKnown", spec := "markerKnown", unfollowed := true, recurses := true, plainKeys := false, apart := false }
def MarkerKnownSaid : Prop := markerKnownRow.holds Tryz.pinned (OpenSpec.ofChange markerKnownSpec)

/-- ITS FALSE NEIGHBOUR: 'it returns false'. Refute it at one input. -/
def markerKnownWrong : ChangeSpec := { name := "markerKnown", fn := fun _ => fun
  | [] => { results := [.lit (.bool false)], args := [] }
  | _ => none }
def MarkerKnownWrongFalsely : Prop := markerKnownRow.holds Tryz.pinned (OpenSpec.ofChange markerKnownWrong)

/-- 'estraylaw24.MarkerNil': WHATEVER THE INPUT: true; the input reads as it did. -/
def markerNilSpec : ChangeSpec := { name := "markerNil", fn := fun _ => fun
  | [d] => { results := [.lit (.bool true)], args := [d] }
  | _ => none }
def markerNilRow : OpenClaim := { program := "ytiopnedplnoleaagreat", sum := "353eb8eccc9a0993ba6c363a2af68343ab45b50aacf83e35b8aa813c2691bd2a", func := "estray/estraylaw24.MarkerNil", spec := "markerNil", unfollowed := true, recurses := true, plainKeys := false, apart := false }
def MarkerNilSaid : Prop := markerNilRow.holds Tryz.pinned (OpenSpec.ofChange markerNilSpec)

/-- ITS FALSE NEIGHBOUR: 'it returns false'. Refute it at one input. -/
def markerNilWrong : ChangeSpec := { name := "markerNil", fn := fun _ => fun
  | [d] => { results := [.lit (.bool false)], args := [d] }
  | _ => none }
def MarkerNilWrongFalsely : Prop := markerNilRow.holds Tryz.pinned (OpenSpec.ofChange markerNilWrong)

/-- 'estraylaw25.SweepNews': WHATEVER THE INPUT: true; the input reads as it did. -/
def sweepNewsSpec : ChangeSpec := { name := "sweepNews", fn := fun _ => fun
  | [d] => { results := [.lit (.bool true)], args := [d] }
  | _ => none }
def sweepNewsRow : OpenClaim := { program := "ytiopnedplnoleaagreat", sum := "353eb8eccc9a0993ba6c363a2af68343ab45b50aacf83e35b8aa813c2691bd2a", func := "estray/estraylaw25.SweepNews", spec := "sweepNews", unfollowed := true, recurses := true, plainKeys := false, apart := false }
def SweepNewsSaid : Prop := sweepNewsRow.holds Tryz.pinned (OpenSpec.ofChange sweepNewsSpec)

/-- ITS FALSE NEIGHBOUR: 'it returns false'. Refute it at one input. -/
def sweepNewsWrong : ChangeSpec := { name := "sweepNews", fn := fun _ => fun
  | [d] => { results := [.lit (.bool false)], args := [d] }
  | _ => none }
def SweepNewsWrongFalsely : Prop := sweepNewsRow.holds Tryz.pinned (OpenSpec.ofChange sweepNewsWrong)

/-- 'estraylaw24.MarkerPlays': WHATEVER THE INPUT: true; the input reads as it did. -/
def markerPlaysSpec : ChangeSpec := { name := "markerPlays", fn := fun _ => fun
  | [d1, d2, d3, d4, d5] => { results := [.lit (.bool true)], args := [d1, d2, d3, d4, d5] }
  | _ => none }
def markerPlaysRow : OpenClaim := { program := "ytiopnedplnoleaagreat", sum := "353eb8eccc9a0993ba6c363a2af68343ab45b50aacf83e35b8aa813c2691bd2a", func := "estray/estraylaw24.MarkerPlays", spec := "markerPlays", unfollowed := true, recurses := true, plainKeys := false, apart := false }
def MarkerPlaysSaid : Prop := markerPlaysRow.holds Tryz.pinned (OpenSpec.ofChange markerPlaysSpec)

/-- ITS FALSE NEIGHBOUR: 'it returns false'. Refute it at one input. -/
def markerPlaysWrong : ChangeSpec := { name := "markerPlays", fn := fun _ => fun
  | [d1, d2, d3, d4, d5] => { results := [.lit (.bool false)], args := [d1, d2, d3, d4, d5] }
  | _ => none }
def MarkerPlaysWrongFalsely : Prop := markerPlaysRow.holds Tryz.pinned (OpenSpec.ofChange markerPlaysWrong)

/-- 'estraylaw25.SweepNil': WHATEVER THE INPUT: true; the input reads as it did. -/
def sweepNilSpec : ChangeSpec := { name := "sweepNil", fn := fun _ => fun
  | [d] => { results := [.lit (.bool true)], args := [d] }
  | _ => none }
def sweepNilRow : OpenClaim := { program := "ytiopnedplnoleaagreat", sum := "353eb8eccc9a0993ba6c363a2af68343ab45b50aacf83e35b8aa813c2691bd2a", func := "estray/estraylaw25.SweepNil", spec := "sweepNil", unfollowed := true, recurses := true, plainKeys := false, apart := false }
def SweepNilSaid : Prop := sweepNilRow.holds Tryz.pinned (OpenSpec.ofChange sweepNilSpec)

/-- ITS FALSE NEIGHBOUR: 'it returns false'. Refute it at one input. -/
def sweepNilWrong : ChangeSpec := { name := "sweepNil", fn := fun _ => fun
  | [d] => { results := [.lit (.bool false)], args := [d] }
  | _ => none }
def SweepNilWrongFalsely : Prop := sweepNilRow.holds Tryz.pinned (OpenSpec.ofChange sweepNilWrong)

/-- 'estraylaw25.SweepPlays': WHATEVER THE INPUT: true; the input reads as it did. -/
def sweepPlaysSpec : ChangeSpec := { name := "sweepPlays", fn := fun _ => fun
  | [d1, d2, d3] => { results := [.lit (.bool true)], args := [d1, d2, d3] }
  | _ => none }
def sweepPlaysRow : OpenClaim := { program := "ytiopnedplnoleaagreat", sum := "353eb8eccc9a0993ba6c363a2af68343ab45b50aacf83e35b8aa813c2691bd2a", func := "estray/estraylaw25.SweepPlays", spec := "sweepPlays", unfollowed := true, recurses := true, plainKeys := false, apart := false }
def SweepPlaysSaid : Prop := sweepPlaysRow.holds Tryz.pinned (OpenSpec.ofChange sweepPlaysSpec)

/-- ITS FALSE NEIGHBOUR: 'it returns false'. Refute it at one input. -/
def sweepPlaysWrong : ChangeSpec := { name := "sweepPlays", fn := fun _ => fun
  | [d1, d2, d3] => { results := [.lit (.bool false)], args := [d1, d2, d3] }
  | _ => none }
def SweepPlaysWrongFalsely : Prop := sweepPlaysRow.holds Tryz.pinned (OpenSpec.ofChange sweepPlaysWrong)

/-- 'estraylaw25.SweepRefuses': WHATEVER THE INPUT: true; the input reads as it did. -/
def sweepRefusesSpec : ChangeSpec := { name := "sweepRefuses", fn := fun _ => fun
  | [d1, d2] => { results := [.lit (.bool true)], args := [d1, d2] }
  | _ => none }
def sweepRefusesRow : OpenClaim := { program := "ytiopnedplnoleaagreat", sum := "353eb8eccc9a0993ba6c363a2af68343ab45b50aacf83e35b8aa813c2691bd2a", func := "estray/estraylaw25.SweepRefuses", spec := "sweepRefuses", unfollowed := true, recurses := true, plainKeys := false, apart := false }
def SweepRefusesSaid : Prop := sweepRefusesRow.holds Tryz.pinned (OpenSpec.ofChange sweepRefusesSpec)

/-- ITS FALSE NEIGHBOUR: 'it returns false'. Refute it at one input. -/
def sweepRefusesWrong : ChangeSpec := { name := "sweepRefuses", fn := fun _ => fun
  | [d1, d2] => { results := [.lit (.bool false)], args := [d1, d2] }
  | _ => none }
def SweepRefusesWrongFalsely : Prop := sweepRefusesRow.holds Tryz.pinned (OpenSpec.ofChange sweepRefusesWrong)

/-- 'estraylaw25.SweepKeeps': WHATEVER THE INPUT: true; the input reads as it did. -/
def sweepKeepsSpec : ChangeSpec := { name := "sweepKeeps", fn := fun _ => fun
  | [d1, d2] => { results := [.lit (.bool true)], args := [d1, d2] }
  | _ => none }
def sweepKeepsRow : OpenClaim := { program := "ytiopnedplnoleaagreat", sum := "353eb8eccc9a0993ba6c363a2af68343ab45b50aacf83e35b8aa813c2691bd2a", func := "estray/estraylaw25.SweepKeeps", spec := "sweepKeeps", unfollowed := true, recurses := true, plainKeys := false, apart := false }
def SweepKeepsSaid : Prop := sweepKeepsRow.holds Tryz.pinned (OpenSpec.ofChange sweepKeepsSpec)

/-- ITS FALSE NEIGHBOUR: 'it returns false'. Refute it at one input. -/
def sweepKeepsWrong : ChangeSpec := { name := "sweepKeeps", fn := fun _ => fun
  | [d1, d2] => { results := [.lit (.bool false)], args := [d1, d2] }
  | _ => none }
def SweepKeepsWrongFalsely : Prop := sweepKeepsRow.holds Tryz.pinned (OpenSpec.ofChange sweepKeepsWrong)

/-- 'estraylaw25.SweepApart': WHATEVER THE INPUT: true; the input reads as it did. -/
def sweepApartSpec : ChangeSpec := { name := "sweepApart", fn := fun _ => fun
  | [d1, d2] => { results := [.lit (.bool true)], args := [d1, d2] }
  | _ => none }
def sweepApartRow : OpenClaim := { program := "ytiopnedplnoleaagreat", sum := "353eb8eccc9a0993ba6c363a2af68343ab45b50aacf83e35b8aa813c2691bd2a", func := "estray/estraylaw25.SweepApart", spec := "sweepApart", unfollowed := true, recurses := true, plainKeys := false, apart := false }
def SweepApartSaid : Prop := sweepApartRow.holds Tryz.pinned (OpenSpec.ofChange sweepApartSpec)

/-- ITS FALSE NEIGHBOUR: 'it returns false'. Refute it at one input. -/
def sweepApartWrong : ChangeSpec := { name := "sweepApart", fn := fun _ => fun
  | [d1, d2] => { results := [.lit (.bool false)], args := [d1, d2] }
  | _ => none }
def SweepApartWrongFalsely : Prop := sweepApartRow.holds Tryz.pinned (OpenSpec.ofChange sweepApartWrong)

/-- 'estraylaw25.SweepAgain': WHATEVER THE INPUT: true; the input reads as it did. -/
def sweepAgainSpec : ChangeSpec := { name := "sweepAgain", fn := fun _ => fun
  | [d1, d2] => { results := [.lit (.bool true)], args := [d1, d2] }
  | _ => none }
def sweepAgainRow : OpenClaim := { program := "ytiopnedplnoleaagreat", sum := "353eb8eccc9a0993ba6c363a2af68343ab45b50aacf83e35b8aa813c2691bd2a", func := "estray/estraylaw25.SweepAgain", spec := "sweepAgain", unfollowed := true, recurses := true, plainKeys := false, apart := false }
def SweepAgainSaid : Prop := sweepAgainRow.holds Tryz.pinned (OpenSpec.ofChange sweepAgainSpec)

/-- ITS FALSE NEIGHBOUR: 'it returns false'. Refute it at one input. -/
def sweepAgainWrong : ChangeSpec := { name := "sweepAgain", fn := fun _ => fun
  | [d1, d2] => { results := [.lit (.bool false)], args := [d1, d2] }
  | _ => none }
def SweepAgainWrongFalsely : Prop := sweepAgainRow.holds Tryz.pinned (OpenSpec.ofChange sweepAgainWrong)

/-- 'estraylaw26.CycleMakes': WHATEVER THE INPUT: true; the input reads as it did. -/
def cycleMakesSpec : ChangeSpec := { name := "cycleMakes", fn := fun _ => fun
  | [d1, d2, d3, d4, d5] => { results := [.lit (.bool true)], args := [d1, d2, d3, d4, d5] }
  | _ => none }
def cycleMakesRow : OpenClaim := { program := "ytiopnedplnoleaagreat", sum := "353eb8eccc9a0993ba6c363a2af68343ab45b50aacf83e35b8aa813c2691bd2a", func := "estray/estraylaw26.CycleMakes", spec := "cycleMakes", unfollowed := true, recurses := true, plainKeys := false, apart := false }
def CycleMakesSaid : Prop := cycleMakesRow.holds Tryz.pinned (OpenSpec.ofChange cycleMakesSpec)

/-- ITS FALSE NEIGHBOUR: 'it returns false'. Refute it at one input. -/
def cycleMakesWrong : ChangeSpec := { name := "cycleMakes", fn := fun _ => fun
  | [d1, d2, d3, d4, d5] => { results := [.lit (.bool false)], args := [d1, d2, d3, d4, d5] }
  | _ => none }
def CycleMakesWrongFalsely : Prop := cycleMakesRow.holds Tryz.pinned (OpenSpec.ofChange cycleMakesWrong)

/-- 'estraylaw26.CycleEnds': WHATEVER THE INPUT: true; the input reads as it did. -/
def cycleEndsSpec : ChangeSpec := { name := "cycleEnds", fn := fun _ => fun
  | [d1, d2, d3, d4, d5, d6] => { results := [.lit (.bool true)], args := [d1, d2, d3, d4, d5, d6] }
  | _ => none }
def cycleEndsRow : OpenClaim := { program := "ytiopnedplnoleaagreat", sum := "353eb8eccc9a0993ba6c363a2af68343ab45b50aacf83e35b8aa813c2691bd2a", func := "estray/estraylaw26.CycleEnds", spec := "cycleEnds", unfollowed := true, recurses := true, plainKeys := false, apart := false }
def CycleEndsSaid : Prop := cycleEndsRow.holds Tryz.pinned (OpenSpec.ofChange cycleEndsSpec)

/-- ITS FALSE NEIGHBOUR: 'it returns false'. Refute it at one input. -/
def cycleEndsWrong : ChangeSpec := { name := "cycleEnds", fn := fun _ => fun
  | [d1, d2, d3, d4, d5, d6] => { results := [.lit (.bool false)], args := [d1, d2, d3, d4, d5, d6] }
  | _ => none }
def CycleEndsWrongFalsely : Prop := cycleEndsRow.holds Tryz.pinned (OpenSpec.ofChange cycleEndsWrong)

/-- 'estraylaw26.CycleKeeps': WHATEVER THE INPUT: true; the input reads as it did. -/
def cycleKeepsSpec : ChangeSpec := { name := "cycleKeeps", fn := fun _ => fun
  | [d1, d2, d3, d4, d5, d6] => { results := [.lit (.bool true)], args := [d1, d2, d3, d4, d5, d6] }
  | _ => none }
def cycleKeepsRow : OpenClaim := { program := "ytiopnedplnoleaagreat", sum := "353eb8eccc9a0993ba6c363a2af68343ab45b50aacf83e35b8aa813c2691bd2a", func := "estray/estraylaw26.CycleKeeps", spec := "cycleKeeps", unfollowed := true, recurses := true, plainKeys := false, apart := false }
def CycleKeepsSaid : Prop := cycleKeepsRow.holds Tryz.pinned (OpenSpec.ofChange cycleKeepsSpec)

/-- ITS FALSE NEIGHBOUR: 'it returns false'. Refute it at one input. -/
def cycleKeepsWrong : ChangeSpec := { name := "cycleKeeps", fn := fun _ => fun
  | [d1, d2, d3, d4, d5, d6] => { results := [.lit (.bool false)], args := [d1, d2, d3, d4, d5, d6] }
  | _ => none }
def CycleKeepsWrongFalsely : Prop := cycleKeepsRow.holds Tryz.pinned (OpenSpec.ofChange cycleKeepsWrong)

/-- 'estraylaw26.CyclePlays': WHATEVER THE INPUT: true; the input reads as it did. -/
def cyclePlaysSpec : ChangeSpec := { name := "cyclePlays", fn := fun _ => fun
  | [d1, d2, d3, d4, d5, d6] => { results := [.lit (.bool true)], args := [d1, d2, d3, d4, d5, d6] }
  | _ => none }
def cyclePlaysRow : OpenClaim := { program := "ytiopnedplnoleaagreat", sum := "353eb8eccc9a0993ba6c363a2af68343ab45b50aacf83e35b8aa813c2691bd2a", func := "estray/estraylaw26.CyclePlays", spec := "cyclePlays", unfollowed := true, recurses := true, plainKeys := false, apart := false }
def CyclePlaysSaid : Prop := cyclePlaysRow.holds Tryz.pinned (OpenSpec.ofChange cyclePlaysSpec)

/-- ITS FALSE NEIGHBOUR: 'it returns false'. Refute it at one input. -/
def cyclePlaysWrong : ChangeSpec := { name := "cyclePlays", fn := fun _ => fun
  | [d1, d2, d3, d4, d5, d6] => { results := [.lit (.bool false)], args := [d1, d2, d3, d4, d5, d6] }
  | _ => none }
def CyclePlaysWrongFalsely : Prop := cyclePlaysRow.holds Tryz.pinned (OpenSpec.ofChange cyclePlaysWrong)

/-- 'estraylaw26.CycleNil': WHATEVER THE INPUT: true; the input reads as it did. -/
def cycleNilSpec : ChangeSpec := { name := "cycleNil", fn := fun _ => fun
  | [d1, d2] => { results := [.lit (.bool true)], args := [d1, d2] }
  | _ => none }
def cycleNilRow : OpenClaim := { program := "ytiopnedplnoleaagreat", sum := "353eb8eccc9a0993ba6c363a2af68343ab45b50aacf83e35b8aa813c2691bd2a", func := "estray/estraylaw26.CycleNil", spec := "cycleNil", unfollowed := true, recurses := true, plainKeys := false, apart := false }
def CycleNilSaid : Prop := cycleNilRow.holds Tryz.pinned (OpenSpec.ofChange cycleNilSpec)

/-- ITS FALSE NEIGHBOUR: 'it returns false'. Refute it at one input. -/
def cycleNilWrong : ChangeSpec := { name := "cycleNil", fn := fun _ => fun
  | [d1, d2] => { results := [.lit (.bool false)], args := [d1, d2] }
  | _ => none }
def CycleNilWrongFalsely : Prop := cycleNilRow.holds Tryz.pinned (OpenSpec.ofChange cycleNilWrong)

/-- 'estraylaw24.MarkerWaits': WHATEVER THE INPUT: true; the input reads as it did. -/
def markerWaitsSpec : ChangeSpec := { name := "markerWaits", fn := fun _ => fun
  | [d1, d2, d3] => { results := [.lit (.bool true)], args := [d1, d2, d3] }
  | _ => none }
def markerWaitsRow : OpenClaim := { program := "ytiopnedplnoleaagreat", sum := "353eb8eccc9a0993ba6c363a2af68343ab45b50aacf83e35b8aa813c2691bd2a", func := "estray/estraylaw24.MarkerWaits", spec := "markerWaits", unfollowed := true, recurses := true, plainKeys := false, apart := false }
def MarkerWaitsSaid : Prop := markerWaitsRow.holds Tryz.pinned (OpenSpec.ofChange markerWaitsSpec)

/-- ITS FALSE NEIGHBOUR: 'it returns false'. Refute it at one input. -/
def markerWaitsWrong : ChangeSpec := { name := "markerWaits", fn := fun _ => fun
  | [d1, d2, d3] => { results := [.lit (.bool false)], args := [d1, d2, d3] }
  | _ => none }
def MarkerWaitsWrongFalsely : Prop := markerWaitsRow.holds Tryz.pinned (OpenSpec.ofChange markerWaitsWrong)

/- THE SECOND FORM. 'bulk': how many values and letters a reading holds, each counted each time it is reached (what is shared counts as often as it is met; a slice's spare places count too). A statement '..UptoSaid' is the law's where the arguments, and the package variables that the reading takes, are together of bulk at most 1048576: NARROWER than '..Said'. Prove '..Said' where nothing that the law and all that it calls make is longer than what came in: it says more and counts as full. Else prove '..UptoSaid'. A law counts once. -/
mutual
def uptoBulk {H : Type} : DataW H → Nat
  | .lit (.string bytes) => bytes.length + 1
  | .lit _ => 1
  | .nil => 1
  | .ptr d => uptoBulk d + 1
  | .slice elems spare => uptoBulkAll elems + uptoBulkAll spare + 1
  | .agg parts => uptoBulkAll parts + 1
  | .iface _ d => uptoBulk d + 1
  | .map entries => uptoBulkEntries entries + 1
  | .held _ => 1
def uptoBulkAll {H : Type} : List (DataW H) → Nat
  | [] => 0
  | d :: r => uptoBulk d + uptoBulkAll r
def uptoBulkEntries {H : Type} : List (Lit × DataW H) → Nat
  | [] => 0
  | x :: r => uptoBulkEntry x + uptoBulkEntries r
def uptoBulkEntry {H : Type} : Lit × DataW H → Nat
  | (.string bytes, d) => bytes.length + uptoBulk d + 1
  | (_, d) => uptoBulk d + 1
 end
def uptoSmall : (H : Type) → List (DataW H) → Bool := fun _ ds => decide (uptoBulkAll ds ≤ 1048576)
def OpenSpec.upto (s : _root_.Go.ChangeSpec) : _root_.Go.OpenSpec := { _root_.Go.OpenSpec.ofChange s with cond := some uptoSmall }

/-- 'estraylaw24.MarkerKnown', WHERE WHAT IT READS IS OF BULK AT MOST 1048576: true; the input reads as it did. -/
def markerKnownUptoRow : OpenClaim := { program := "ytiopnedplnoleaagreat", sum := "353eb8eccc9a0993ba6c363a2af68343ab45b50aacf83e35b8aa813c2691bd2a", func := "estray/estraylaw24.MarkerKnown", spec := "markerKnown", unfollowed := true, recurses := true, plainKeys := false, apart := false, narrowed := true }
def MarkerKnownUptoSaid : Prop := markerKnownUptoRow.holds Tryz.pinned (OpenSpec.upto markerKnownSpec)

/-- 'estraylaw24.MarkerNil', WHERE WHAT IT READS IS OF BULK AT MOST 1048576: true; the input reads as it did. -/
def markerNilUptoRow : OpenClaim := { program := "ytiopnedplnoleaagreat", sum := "353eb8eccc9a0993ba6c363a2af68343ab45b50aacf83e35b8aa813c2691bd2a", func := "estray/estraylaw24.MarkerNil", spec := "markerNil", unfollowed := true, recurses := true, plainKeys := false, apart := false, narrowed := true }
def MarkerNilUptoSaid : Prop := markerNilUptoRow.holds Tryz.pinned (OpenSpec.upto markerNilSpec)

/-- 'estraylaw25.SweepNews', WHERE WHAT IT READS IS OF BULK AT MOST 1048576: true; the input reads as it did. -/
def sweepNewsUptoRow : OpenClaim := { program := "ytiopnedplnoleaagreat", sum := "353eb8eccc9a0993ba6c363a2af68343ab45b50aacf83e35b8aa813c2691bd2a", func := "estray/estraylaw25.SweepNews", spec := "sweepNews", unfollowed := true, recurses := true, plainKeys := false, apart := false, narrowed := true }
def SweepNewsUptoSaid : Prop := sweepNewsUptoRow.holds Tryz.pinned (OpenSpec.upto sweepNewsSpec)

/-- 'estraylaw24.MarkerPlays', WHERE WHAT IT READS IS OF BULK AT MOST 1048576: true; the input reads as it did. -/
def markerPlaysUptoRow : OpenClaim := { program := "ytiopnedplnoleaagreat", sum := "353eb8eccc9a0993ba6c363a2af68343ab45b50aacf83e35b8aa813c2691bd2a", func := "estray/estraylaw24.MarkerPlays", spec := "markerPlays", unfollowed := true, recurses := true, plainKeys := false, apart := false, narrowed := true }
def MarkerPlaysUptoSaid : Prop := markerPlaysUptoRow.holds Tryz.pinned (OpenSpec.upto markerPlaysSpec)

/-- 'estraylaw25.SweepNil', WHERE WHAT IT READS IS OF BULK AT MOST 1048576: true; the input reads as it did. -/
def sweepNilUptoRow : OpenClaim := { program := "ytiopnedplnoleaagreat", sum := "353eb8eccc9a0993ba6c363a2af68343ab45b50aacf83e35b8aa813c2691bd2a", func := "estray/estraylaw25.SweepNil", spec := "sweepNil", unfollowed := true, recurses := true, plainKeys := false, apart := false, narrowed := true }
def SweepNilUptoSaid : Prop := sweepNilUptoRow.holds Tryz.pinned (OpenSpec.upto sweepNilSpec)

/-- 'estraylaw25.SweepPlays', WHERE WHAT IT READS IS OF BULK AT MOST 1048576: true; the input reads as it did. -/
def sweepPlaysUptoRow : OpenClaim := { program := "ytiopnedplnoleaagreat", sum := "353eb8eccc9a0993ba6c363a2af68343ab45b50aacf83e35b8aa813c2691bd2a", func := "estray/estraylaw25.SweepPlays", spec := "sweepPlays", unfollowed := true, recurses := true, plainKeys := false, apart := false, narrowed := true }
def SweepPlaysUptoSaid : Prop := sweepPlaysUptoRow.holds Tryz.pinned (OpenSpec.upto sweepPlaysSpec)

/-- 'estraylaw25.SweepRefuses', WHERE WHAT IT READS IS OF BULK AT MOST 1048576: true; the input reads as it did. -/
def sweepRefusesUptoRow : OpenClaim := { program := "ytiopnedplnoleaagreat", sum := "353eb8eccc9a0993ba6c363a2af68343ab45b50aacf83e35b8aa813c2691bd2a", func := "estray/estraylaw25.SweepRefuses", spec := "sweepRefuses", unfollowed := true, recurses := true, plainKeys := false, apart := false, narrowed := true }
def SweepRefusesUptoSaid : Prop := sweepRefusesUptoRow.holds Tryz.pinned (OpenSpec.upto sweepRefusesSpec)

/-- 'estraylaw25.SweepKeeps', WHERE WHAT IT READS IS OF BULK AT MOST 1048576: true; the input reads as it did. -/
def sweepKeepsUptoRow : OpenClaim := { program := "ytiopnedplnoleaagreat", sum := "353eb8eccc9a0993ba6c363a2af68343ab45b50aacf83e35b8aa813c2691bd2a", func := "estray/estraylaw25.SweepKeeps", spec := "sweepKeeps", unfollowed := true, recurses := true, plainKeys := false, apart := false, narrowed := true }
def SweepKeepsUptoSaid : Prop := sweepKeepsUptoRow.holds Tryz.pinned (OpenSpec.upto sweepKeepsSpec)

/-- 'estraylaw25.SweepApart', WHERE WHAT IT READS IS OF BULK AT MOST 1048576: true; the input reads as it did. -/
def sweepApartUptoRow : OpenClaim := { program := "ytiopnedplnoleaagreat", sum := "353eb8eccc9a0993ba6c363a2af68343ab45b50aacf83e35b8aa813c2691bd2a", func := "estray/estraylaw25.SweepApart", spec := "sweepApart", unfollowed := true, recurses := true, plainKeys := false, apart := false, narrowed := true }
def SweepApartUptoSaid : Prop := sweepApartUptoRow.holds Tryz.pinned (OpenSpec.upto sweepApartSpec)

/-- 'estraylaw25.SweepAgain', WHERE WHAT IT READS IS OF BULK AT MOST 1048576: true; the input reads as it did. -/
def sweepAgainUptoRow : OpenClaim := { program := "ytiopnedplnoleaagreat", sum := "353eb8eccc9a0993ba6c363a2af68343ab45b50aacf83e35b8aa813c2691bd2a", func := "estray/estraylaw25.SweepAgain", spec := "sweepAgain", unfollowed := true, recurses := true, plainKeys := false, apart := false, narrowed := true }
def SweepAgainUptoSaid : Prop := sweepAgainUptoRow.holds Tryz.pinned (OpenSpec.upto sweepAgainSpec)

/-- 'estraylaw26.CycleMakes', WHERE WHAT IT READS IS OF BULK AT MOST 1048576: true; the input reads as it did. -/
def cycleMakesUptoRow : OpenClaim := { program := "ytiopnedplnoleaagreat", sum := "353eb8eccc9a0993ba6c363a2af68343ab45b50aacf83e35b8aa813c2691bd2a", func := "estray/estraylaw26.CycleMakes", spec := "cycleMakes", unfollowed := true, recurses := true, plainKeys := false, apart := false, narrowed := true }
def CycleMakesUptoSaid : Prop := cycleMakesUptoRow.holds Tryz.pinned (OpenSpec.upto cycleMakesSpec)

/-- 'estraylaw26.CycleEnds', WHERE WHAT IT READS IS OF BULK AT MOST 1048576: true; the input reads as it did. -/
def cycleEndsUptoRow : OpenClaim := { program := "ytiopnedplnoleaagreat", sum := "353eb8eccc9a0993ba6c363a2af68343ab45b50aacf83e35b8aa813c2691bd2a", func := "estray/estraylaw26.CycleEnds", spec := "cycleEnds", unfollowed := true, recurses := true, plainKeys := false, apart := false, narrowed := true }
def CycleEndsUptoSaid : Prop := cycleEndsUptoRow.holds Tryz.pinned (OpenSpec.upto cycleEndsSpec)

/-- 'estraylaw26.CycleKeeps', WHERE WHAT IT READS IS OF BULK AT MOST 1048576: true; the input reads as it did. -/
def cycleKeepsUptoRow : OpenClaim := { program := "ytiopnedplnoleaagreat", sum := "353eb8eccc9a0993ba6c363a2af68343ab45b50aacf83e35b8aa813c2691bd2a", func := "estray/estraylaw26.CycleKeeps", spec := "cycleKeeps", unfollowed := true, recurses := true, plainKeys := false, apart := false, narrowed := true }
def CycleKeepsUptoSaid : Prop := cycleKeepsUptoRow.holds Tryz.pinned (OpenSpec.upto cycleKeepsSpec)

/-- 'estraylaw26.CyclePlays', WHERE WHAT IT READS IS OF BULK AT MOST 1048576: true; the input reads as it did. -/
def cyclePlaysUptoRow : OpenClaim := { program := "ytiopnedplnoleaagreat", sum := "353eb8eccc9a0993ba6c363a2af68343ab45b50aacf83e35b8aa813c2691bd2a", func := "estray/estraylaw26.CyclePlays", spec := "cyclePlays", unfollowed := true, recurses := true, plainKeys := false, apart := false, narrowed := true }
def CyclePlaysUptoSaid : Prop := cyclePlaysUptoRow.holds Tryz.pinned (OpenSpec.upto cyclePlaysSpec)

/-- 'estraylaw26.CycleNil', WHERE WHAT IT READS IS OF BULK AT MOST 1048576: true; the input reads as it did. -/
def cycleNilUptoRow : OpenClaim := { program := "ytiopnedplnoleaagreat", sum := "353eb8eccc9a0993ba6c363a2af68343ab45b50aacf83e35b8aa813c2691bd2a", func := "estray/estraylaw26.CycleNil", spec := "cycleNil", unfollowed := true, recurses := true, plainKeys := false, apart := false, narrowed := true }
def CycleNilUptoSaid : Prop := cycleNilUptoRow.holds Tryz.pinned (OpenSpec.upto cycleNilSpec)

/-- 'estraylaw24.MarkerWaits', WHERE WHAT IT READS IS OF BULK AT MOST 1048576: true; the input reads as it did. -/
def markerWaitsUptoRow : OpenClaim := { program := "ytiopnedplnoleaagreat", sum := "353eb8eccc9a0993ba6c363a2af68343ab45b50aacf83e35b8aa813c2691bd2a", func := "estray/estraylaw24.MarkerWaits", spec := "markerWaits", unfollowed := true, recurses := true, plainKeys := false, apart := false, narrowed := true }
def MarkerWaitsUptoSaid : Prop := markerWaitsUptoRow.holds Tryz.pinned (OpenSpec.upto markerWaitsSpec)

end Rows
end Go.Proofs.YtiopnedplnoleaaGreat
