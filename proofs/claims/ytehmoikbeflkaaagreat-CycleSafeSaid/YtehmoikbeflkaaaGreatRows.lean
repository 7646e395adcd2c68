/-
  No cell of these rows narrows 'for every input' (looked for: loops, veiled, ifaces, maps, wideKeys, modest, calm, conditions, laid).
  DERIVED. THE GIVEN ROWS OF THIS SEAT. 11 by the template 'for every input the law returns true; each argument reads behind the call as it read before'; 0 by the template 'total and deterministic' (their statements: YtehmoikbeflkaaaGreatTotals.lean).
  GIVEN WITH THE SEED: the statements are not yours to turn. If you find one false, say at which input.
  Laid BY PROGRAM, IN A SANDBOX (cutbox-rows.mjs): the forced cells as the released guide's own fill.sh prints them over the translation ea46a806c8006aeb… (all of the seat's roots in one cut). By AI agents, Wed Nov 11 2026. No macro, syntax, notation, axiom, sorry.
-/
import Derived.Test.YtehmoikbeflkaaaGreatChecked
import GoSem.Claim
import GoSem.ClaimJoined
import GoSem.ClaimMapViews
import Derived.JoinedTies
import Derived.KernelRfl
namespace Go.Proofs.YtehmoikbeflkaaaGreat
/- THE CELL 'sum', in the pinned program and in every row, IS THE sha256 OF THE DUMP (.gsa) THAT YtehmoikbeflkaaaGreatProg.lean LOADS. Nothing in Lean hashes anything: it is a label: what it is worth is what the hold of that sum in a sandbox is worth. -/
noncomputable def Tryz.pinned : Pinned := { name := "ytehmoikbeflkaaagreat", sum := "ea46a806c8006aeb558655fdebf184a7fca88f46b1892943bf0f19548b5af403", checked := Tryz.checked }
namespace Rows
def none {H : Type} : Left H := { results := [], args := [] }

/-- 'estraylaw19.ReachParts': WHATEVER THE INPUT: true; the input reads as it did. -/
def reachPartsSpec : ChangeSpec := { name := "reachParts", fn := fun _ => fun
  | [d1, d2, d3] => { results := [.lit (.bool true)], args := [d1, d2, d3] }
  | _ => none }
def reachPartsRow : OpenClaim := { program := "ytehmoikbeflkaaagreat", sum := "ea46a806c8006aeb558655fdebf184a7fca88f46b1892943bf0f19548b5af403", func := "estray/estraylaw19.ReachParts", spec := "reachParts", unfollowed := true, recurses := true, plainKeys := false, apart := false }
def ReachPartsSaid : Prop := reachPartsRow.holds Tryz.pinned (OpenSpec.ofChange reachPartsSpec)

/-- ITS FALSE NEIGHBOUR: 'it returns false'. Refute it at one input. -/
def reachPartsWrong : ChangeSpec := { name := "reachParts", fn := fun _ => fun
  | [d1, d2, d3] => { results := [.lit (.bool false)], args := [d1, d2, d3] }
  | _ => none }
def ReachPartsWrongFalsely : Prop := reachPartsRow.holds Tryz.pinned (OpenSpec.ofChange reachPartsWrong)

/-- 'estraylaw19.ReachFrom': WHATEVER THE INPUT: true; the input reads as it did. -/
def reachFromSpec : ChangeSpec := { name := "reachFrom", fn := fun _ => fun
  | [d1, d2, d3] => { results := [.lit (.bool true)], args := [d1, d2, d3] }
  | _ => none }
def reachFromRow : OpenClaim := { program := "ytehmoikbeflkaaagreat", sum := "ea46a806c8006aeb558655fdebf184a7fca88f46b1892943bf0f19548b5af403", func := "estray/estraylaw19.ReachFrom", spec := "reachFrom", unfollowed := true, recurses := true, plainKeys := false, apart := false }
def ReachFromSaid : Prop := reachFromRow.holds Tryz.pinned (OpenSpec.ofChange reachFromSpec)

/-- ITS FALSE NEIGHBOUR: 'it returns false'. Refute it at one input. -/
def reachFromWrong : ChangeSpec := { name := "reachFrom", fn := fun _ => fun
  | [d1, d2, d3] => { results := [.lit (.bool false)], args := [d1, d2, d3] }
  | _ => none }
def ReachFromWrongFalsely : Prop := reachFromRow.holds Tryz.pinned (OpenSpec.ofChange reachFromWrong)

/-- 'estraylaw19.ReachAll': WHATEVER THE INPUT: true; the input reads as it did. -/
def reachAllSpec : ChangeSpec := { name := "reachAll", fn := fun _ => fun
  | [d1, d2, d3, d4, d5] => { results := [.lit (.bool true)], args := [d1, d2, d3, d4, d5] }
  | _ => none }
def reachAllRow : OpenClaim := { program := "ytehmoikbeflkaaagreat", sum := "ea46a806c8006aeb558655fdebf184a7fca88f46b1892943bf0f19548b5af403", func := "estray/estraylaw19.ReachAll", spec := "reachAll", unfollowed := true, recurses := true, plainKeys := false, apart := false }
def ReachAllSaid : Prop := reachAllRow.holds Tryz.pinned (OpenSpec.ofChange reachAllSpec)

/-- ITS FALSE NEIGHBOUR: 'it returns false'. Refute it at one input. -/
def reachAllWrong : ChangeSpec := { name := "reachAll", fn := fun _ => fun
  | [d1, d2, d3, d4, d5] => { results := [.lit (.bool false)], args := [d1, d2, d3, d4, d5] }
  | _ => none }
def ReachAllWrongFalsely : Prop := reachAllRow.holds Tryz.pinned (OpenSpec.ofChange reachAllWrong)

/-- 'estraylaw24.MarkerPrecise': WHATEVER THE INPUT: true; the input reads as it did. -/
def markerPreciseSpec : ChangeSpec := { name := "markerPrecise", fn := fun _ => fun
  | [d1, d2] => { results := [.lit (.bool true)], args := [d1, d2] }
  | _ => none }
def markerPreciseRow : OpenClaim := { program := "ytehmoikbeflkaaagreat", sum := "ea46a806c8006aeb558655fdebf184a7fca88f46b1892943bf0f19548b5af403", func := "estray/estraylaw24.MarkerPrecise", spec := "markerPrecise", unfollowed := true, recurses := true, plainKeys := false, apart := false }
def MarkerPreciseSaid : Prop := markerPreciseRow.holds Tryz.pinned (OpenSpec.ofChange markerPreciseSpec)

/-- ITS FALSE NEIGHBOUR: 'it returns false'. Refute it at one input. -/
def markerPreciseWrong : ChangeSpec := { name := "markerPrecise", fn := fun _ => fun
  | [d1, d2] => { results := [.lit (.bool false)], args := [d1, d2] }
  | _ => none }
def MarkerPreciseWrongFalsely : Prop := markerPreciseRow.holds Tryz.pinned (OpenSpec.ofChange markerPreciseWrong)

/-- 'estraylaw24.MarkerClean': WHATEVER THE INPUT: true; the input reads as it did. -/
def markerCleanSpec : ChangeSpec := { name := "markerClean", fn := fun _ => fun
  | [d1, d2, d3] => { results := [.lit (.bool true)], args := [d1, d2, d3] }
  | _ => none }
def markerCleanRow : OpenClaim := { program := "ytehmoikbeflkaaagreat", sum := "ea46a806c8006aeb558655fdebf184a7fca88f46b1892943bf0f19548b5af403", func := "estray/estraylaw24.MarkerClean", spec := "markerClean", unfollowed := true, recurses := true, plainKeys := false, apart := false }
def MarkerCleanSaid : Prop := markerCleanRow.holds Tryz.pinned (OpenSpec.ofChange markerCleanSpec)

/-- ITS FALSE NEIGHBOUR: 'it returns false'. Refute it at one input. -/
def markerCleanWrong : ChangeSpec := { name := "markerClean", fn := fun _ => fun
  | [d1, d2, d3] => { results := [.lit (.bool false)], args := [d1, d2, d3] }
  | _ => none }
def MarkerCleanWrongFalsely : Prop := markerCleanRow.holds Tryz.pinned (OpenSpec.ofChange markerCleanWrong)

/-- 'estraylaw24.MarkerSafe': WHATEVER THE INPUT: true; the input reads as it did. -/
def markerSafeSpec : ChangeSpec := { name := "markerSafe", fn := fun _ => fun
  | [d1, d2] => { results := [.lit (.bool true)], args := [d1, d2] }
  | _ => none }
def markerSafeRow : OpenClaim := { program := "ytehmoikbeflkaaagreat", sum := "ea46a806c8006aeb558655fdebf184a7fca88f46b1892943bf0f19548b5af403", func := "estray/estraylaw24.MarkerSafe", spec := "markerSafe", unfollowed := true, recurses := true, plainKeys := false, apart := false }
def MarkerSafeSaid : Prop := markerSafeRow.holds Tryz.pinned (OpenSpec.ofChange markerSafeSpec)

/-- ITS FALSE NEIGHBOUR: 'it returns false'. Refute it at one input. -/
def markerSafeWrong : ChangeSpec := { name := "markerSafe", fn := fun _ => fun
  | [d1, d2] => { results := [.lit (.bool false)], args := [d1, d2] }
  | _ => none }
def MarkerSafeWrongFalsely : Prop := markerSafeRow.holds Tryz.pinned (OpenSpec.ofChange markerSafeWrong)

/-- 'estraylaw24.MarkerCopies': WHATEVER THE INPUT: true; the input reads as it did. -/
def markerCopiesSpec : ChangeSpec := { name := "markerCopies", fn := fun _ => fun
  | [d1, d2, d3] => { results := [.lit (.bool true)], args := [d1, d2, d3] }
  | _ => none }
def markerCopiesRow : OpenClaim := { program := "ytehmoikbeflkaaagreat", sum := "ea46a806c8006aeb558655fdebf184a7fca88f46b1892943bf0f19548b5af403", func := "estray/estraylaw24.MarkerCopies", spec := "markerCopies", unfollowed := true, recurses := true, plainKeys := false, apart := false }
def MarkerCopiesSaid : Prop := markerCopiesRow.holds Tryz.pinned (OpenSpec.ofChange markerCopiesSpec)

/-- ITS FALSE NEIGHBOUR: 'it returns false'. Refute it at one input. -/
def markerCopiesWrong : ChangeSpec := { name := "markerCopies", fn := fun _ => fun
  | [d1, d2, d3] => { results := [.lit (.bool false)], args := [d1, d2, d3] }
  | _ => none }
def MarkerCopiesWrongFalsely : Prop := markerCopiesRow.holds Tryz.pinned (OpenSpec.ofChange markerCopiesWrong)

/-- 'estraylaw25.SweepClean': WHATEVER THE INPUT: true; the input reads as it did. -/
def sweepCleanSpec : ChangeSpec := { name := "sweepClean", fn := fun _ => fun
  | [d] => { results := [.lit (.bool true)], args := [d] }
  | _ => none }
def sweepCleanRow : OpenClaim := { program := "ytehmoikbeflkaaagreat", sum := "ea46a806c8006aeb558655fdebf184a7fca88f46b1892943bf0f19548b5af403", func := "estray/estraylaw25.SweepClean", spec := "sweepClean", unfollowed := true, recurses := true, plainKeys := false, apart := false }
def SweepCleanSaid : Prop := sweepCleanRow.holds Tryz.pinned (OpenSpec.ofChange sweepCleanSpec)

/-- ITS FALSE NEIGHBOUR: 'it returns false'. Refute it at one input. -/
def sweepCleanWrong : ChangeSpec := { name := "sweepClean", fn := fun _ => fun
  | [d] => { results := [.lit (.bool false)], args := [d] }
  | _ => none }
def SweepCleanWrongFalsely : Prop := sweepCleanRow.holds Tryz.pinned (OpenSpec.ofChange sweepCleanWrong)

/-- 'estraylaw26.CycleFinds': WHATEVER THE INPUT: true; the input reads as it did. -/
def cycleFindsSpec : ChangeSpec := { name := "cycleFinds", fn := fun _ => fun
  | [d1, d2, d3, d4, d5, d6] => { results := [.lit (.bool true)], args := [d1, d2, d3, d4, d5, d6] }
  | _ => none }
def cycleFindsRow : OpenClaim := { program := "ytehmoikbeflkaaagreat", sum := "ea46a806c8006aeb558655fdebf184a7fca88f46b1892943bf0f19548b5af403", func := "estray/estraylaw26.CycleFinds", spec := "cycleFinds", unfollowed := true, recurses := true, plainKeys := false, apart := false }
def CycleFindsSaid : Prop := cycleFindsRow.holds Tryz.pinned (OpenSpec.ofChange cycleFindsSpec)

/-- ITS FALSE NEIGHBOUR: 'it returns false'. Refute it at one input. -/
def cycleFindsWrong : ChangeSpec := { name := "cycleFinds", fn := fun _ => fun
  | [d1, d2, d3, d4, d5, d6] => { results := [.lit (.bool false)], args := [d1, d2, d3, d4, d5, d6] }
  | _ => none }
def CycleFindsWrongFalsely : Prop := cycleFindsRow.holds Tryz.pinned (OpenSpec.ofChange cycleFindsWrong)

/-- 'estraylaw26.CycleWaits': WHATEVER THE INPUT: true; the input reads as it did. -/
def cycleWaitsSpec : ChangeSpec := { name := "cycleWaits", fn := fun _ => fun
  | [d1, d2, d3, d4, d5] => { results := [.lit (.bool true)], args := [d1, d2, d3, d4, d5] }
  | _ => none }
def cycleWaitsRow : OpenClaim := { program := "ytehmoikbeflkaaagreat", sum := "ea46a806c8006aeb558655fdebf184a7fca88f46b1892943bf0f19548b5af403", func := "estray/estraylaw26.CycleWaits", spec := "cycleWaits", unfollowed := true, recurses := true, plainKeys := false, apart := false }
def CycleWaitsSaid : Prop := cycleWaitsRow.holds Tryz.pinned (OpenSpec.ofChange cycleWaitsSpec)

/-- ITS FALSE NEIGHBOUR: 'it returns false'. Refute it at one input. -/
def cycleWaitsWrong : ChangeSpec := { name := "cycleWaits", fn := fun _ => fun
  | [d1, d2, d3, d4, d5] => { results := [.lit (.bool false)], args := [d1, d2, d3, d4, d5] }
  | _ => none }
def CycleWaitsWrongFalsely : Prop := cycleWaitsRow.holds Tryz.pinned (OpenSpec.ofChange cycleWaitsWrong)

/-- 'estraylaw26.CycleSafe': WHATEVER THE INPUT: true; the input reads as it did. -/
def cycleSafeSpec : ChangeSpec := { name := "cycleSafe", fn := fun _ => fun
  | [d1, d2, d3, d4, d5] => { results := [.lit (.bool true)], args := [d1, d2, d3, d4, d5] }
  | _ => none }
def cycleSafeRow : OpenClaim := { program := "ytehmoikbeflkaaagreat", sum := "ea46a806c8006aeb558655fdebf184a7fca88f46b1892943bf0f19548b5af403", func := "estray/estraylaw26.CycleSafe", spec := "cycleSafe", unfollowed := true, recurses := true, plainKeys := false, apart := false }
def CycleSafeSaid : Prop := cycleSafeRow.holds Tryz.pinned (OpenSpec.ofChange cycleSafeSpec)

/-- ITS FALSE NEIGHBOUR: 'it returns false'. Refute it at one input. -/
def cycleSafeWrong : ChangeSpec := { name := "cycleSafe", fn := fun _ => fun
  | [d1, d2, d3, d4, d5] => { results := [.lit (.bool false)], args := [d1, d2, d3, d4, d5] }
  | _ => none }
def CycleSafeWrongFalsely : Prop := cycleSafeRow.holds Tryz.pinned (OpenSpec.ofChange cycleSafeWrong)

/- THE SECOND FORM. 'bulk': how many values and letters a reading holds, each counted each time it is reached (what is shared counts as often as it is met; a slice's spare places count too). A statement '..UptoSaid' is the law's where the arguments, and the package variables that the reading takes, are together of bulk at most 1048576: NARROWER than '..Said'. Prove '..Said' where nothing that the law and all that it calls make is longer than what came in: it says more and counts as full. Else prove '..UptoSaid'. A law counts once. -/
mutual
def uptoBulk {H : Type} : DataW H → Nat
  | .lit (.string bytes) => bytes.length + 1
  | .lit _ => 1
  | .nil => 1
  | .ptr d => uptoBulk d + 1
  | .slice elems spare => uptoBulkAll elems + uptoBulkAll spare + 1
  | .agg parts => uptoBulkAll parts + 1
  | .iface _ d => uptoBulk d + 1
  | .map entries => uptoBulkEntries entries + 1
  | .held _ => 1
def uptoBulkAll {H : Type} : List (DataW H) → Nat
  | [] => 0
  | d :: r => uptoBulk d + uptoBulkAll r
def uptoBulkEntries {H : Type} : List (Lit × DataW H) → Nat
  | [] => 0
  | x :: r => uptoBulkEntry x + uptoBulkEntries r
def uptoBulkEntry {H : Type} : Lit × DataW H → Nat
  | (.string bytes, d) => bytes.length + uptoBulk d + 1
  | (_, d) => uptoBulk d + 1
 end
def uptoSmall : (H : Type) → List (DataW H) → Bool := fun _ ds => decide (uptoBulkAll ds ≤ 1048576)
def OpenSpec.upto (s : _root_.Go.ChangeSpec) : _root_.Go.OpenSpec := { _root_.Go.OpenSpec.ofChange s with cond := some uptoSmall }

/-- 'estraylaw19.ReachParts', WHERE WHAT IT READS IS OF BULK AT MOST 1048576: true; the input reads as it did. -/
def reachPartsUptoRow : OpenClaim := { program := "ytehmoikbeflkaaagreat", sum := "ea46a806c8006aeb558655fdebf184a7fca88f46b1892943bf0f19548b5af403", func := "estray/estraylaw19.ReachParts", spec := "reachParts", unfollowed := true, recurses := true, plainKeys := false, apart := false, narrowed := true }
def ReachPartsUptoSaid : Prop := reachPartsUptoRow.holds Tryz.pinned (OpenSpec.upto reachPartsSpec)

/-- 'estraylaw19.ReachFrom', WHERE WHAT IT READS IS OF BULK AT MOST 1048576: true; the input reads as it did. -/
def reachFromUptoRow : OpenClaim := { program := "ytehmoikbeflkaaagreat", sum := "ea46a806c8006aeb558655fdebf184a7fca88f46b1892943bf0f19548b5af403", func := "estray/estraylaw19.ReachFrom", spec := "reachFrom", unfollowed := true, recurses := true, plainKeys := false, apart := false, narrowed := true }
def ReachFromUptoSaid : Prop := reachFromUptoRow.holds Tryz.pinned (OpenSpec.upto reachFromSpec)

/-- 'estraylaw19.ReachAll', WHERE WHAT IT READS IS OF BULK AT MOST 1048576: true; the input reads as it did. -/
def reachAllUptoRow : OpenClaim := { program := "ytehmoikbeflkaaagreat", sum := "ea46a806c8006aeb558655fdebf184a7fca88f46b1892943bf0f19548b5af403", func := "estray/estraylaw19.ReachAll", spec := "reachAll", unfollowed := true, recurses := true, plainKeys := false, apart := false, narrowed := true }
def ReachAllUptoSaid : Prop := reachAllUptoRow.holds Tryz.pinned (OpenSpec.upto reachAllSpec)

/-- 'estraylaw24.MarkerPrecise', WHERE WHAT IT READS IS OF BULK AT MOST 1048576: true; the input reads as it did. -/
def markerPreciseUptoRow : OpenClaim := { program := "ytehmoikbeflkaaagreat", sum := "ea46a806c8006aeb558655fdebf184a7fca88f46b1892943bf0f19548b5af403", func := "estray/estraylaw24.MarkerPrecise", spec := "markerPrecise", unfollowed := true, recurses := true, plainKeys := false, apart := false, narrowed := true }
def MarkerPreciseUptoSaid : Prop := markerPreciseUptoRow.holds Tryz.pinned (OpenSpec.upto markerPreciseSpec)

/-- 'estraylaw24.MarkerClean', WHERE WHAT IT READS IS OF BULK AT MOST 1048576: true; the input reads as it did. -/
def markerCleanUptoRow : OpenClaim := { program := "ytehmoikbeflkaaagreat", sum := "ea46a806c8006aeb558655fdebf184a7fca88f46b1892943bf0f19548b5af403", func := "estray/estraylaw24.MarkerClean", spec := "markerClean", unfollowed := true, recurses := true, plainKeys := false, apart := false, narrowed := true }
def MarkerCleanUptoSaid : Prop := markerCleanUptoRow.holds Tryz.pinned (OpenSpec.upto markerCleanSpec)

/-- 'estraylaw24.MarkerSafe', WHERE WHAT IT READS IS OF BULK AT MOST 1048576: true; the input reads as it did. -/
def markerSafeUptoRow : OpenClaim := { program := "ytehmoikbeflkaaagreat", sum := "ea46a806c8006aeb558655fdebf184a7fca88f46b1892943bf0f19548b5af403", func := "estray/estraylaw24.MarkerSafe", spec := "markerSafe", unfollowed := true, recurses := true, plainKeys := false, apart := false, narrowed := true }
def MarkerSafeUptoSaid : Prop := markerSafeUptoRow.holds Tryz.pinned (OpenSpec.upto markerSafeSpec)

/-- 'estraylaw24.MarkerCopies', WHERE WHAT IT READS IS OF BULK AT MOST 1048576: true; the input reads as it did. -/
def markerCopiesUptoRow : OpenClaim := { program := "ytehmoikbeflkaaagreat", sum := "ea46a806c8006aeb558655fdebf184a7fca88f46b1892943bf0f19548b5af403", func := "estray/estraylaw24.MarkerCopies", spec := "markerCopies", unfollowed := true, recurses := true, plainKeys := false, apart := false, narrowed := true }
def MarkerCopiesUptoSaid : Prop := markerCopiesUptoRow.holds Tryz.pinned (OpenSpec.upto markerCopiesSpec)

/-- 'estraylaw25.SweepClean', WHERE WHAT IT READS IS OF BULK AT MOST 1048576: true; the input reads as it did. -/
def sweepCleanUptoRow : OpenClaim := { program := "ytehmoikbeflkaaagreat", sum := "ea46a806c8006aeb558655fdebf184a7fca88f46b1892943bf0f19548b5af403", func := "estray/estraylaw25.SweepClean", spec := "sweepClean", unfollowed := true, recurses := true, plainKeys := false, apart := false, narrowed := true }
def SweepCleanUptoSaid : Prop := sweepCleanUptoRow.holds Tryz.pinned (OpenSpec.upto sweepCleanSpec)

/-- 'estraylaw26.CycleFinds', WHERE WHAT IT READS IS OF BULK AT MOST 1048576: true; the input reads as it did. -/
def cycleFindsUptoRow : OpenClaim := { program := "ytehmoikbeflkaaagreat", sum := "ea46a806c8006aeb558655fdebf184a7fca88f46b1892943bf0f19548b5af403", func := "estray/estraylaw26.CycleFinds", spec := "cycleFinds", unfollowed := true, recurses := true, plainKeys := false, apart := false, narrowed := true }
def CycleFindsUptoSaid : Prop := cycleFindsUptoRow.holds Tryz.pinned (OpenSpec.upto cycleFindsSpec)

/-- 'estraylaw26.CycleWaits', WHERE WHAT IT READS IS OF BULK AT MOST 1048576: true; the input reads as it did. -/
def cycleWaitsUptoRow : OpenClaim := { program := "ytehmoikbeflkaaagreat", sum := "ea46a806c8006aeb558655fdebf184a7fca88f46b1892943bf0f19548b5af403", func := "estray/estraylaw26.CycleWaits", spec := "cycleWaits", unfollowed := true, recurses := true, plainKeys := false, apart := false, narrowed := true }
def CycleWaitsUptoSaid : Prop := cycleWaitsUptoRow.holds Tryz.pinned (OpenSpec.upto cycleWaitsSpec)

/-- 'estraylaw26.CycleSafe', WHERE WHAT IT READS IS OF BULK AT MOST 1048576: true; the input reads as it did. -/
def cycleSafeUptoRow : OpenClaim := { program := "ytehmoikbeflkaaagreat", sum := "ea46a806c8006aeb558655fdebf184a7fca88f46b1892943bf0f19548b5af403", func := "estray/estraylaw26.CycleSafe", spec := "cycleSafe", unfollowed := true, recurses := true, plainKeys := false, apart := false, narrowed := true }
def CycleSafeUptoSaid : Prop := cycleSafeUptoRow.holds Tryz.pinned (OpenSpec.upto cycleSafeSpec)

end Rows
end Go.Proofs.YtehmoikbeflkaaaGreat
