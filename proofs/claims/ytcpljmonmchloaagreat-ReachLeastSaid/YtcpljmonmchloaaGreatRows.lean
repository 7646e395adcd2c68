/-
  No cell of these rows narrows 'for every input' (looked for: loops, veiled, ifaces, maps, wideKeys, modest, calm, conditions, laid).
  DERIVED. THE GIVEN ROWS OF THIS SEAT. 14 by the template 'for every input the law returns true; each argument reads behind the call as it read before'; 0 by the template 'total and deterministic' (their statements: YtcpljmonmchloaaGreatTotals.lean).
  GIVEN WITH THE SEED: the statements are not yours to turn. If you find one false, say at which input.
  Laid BY PROGRAM, IN A SANDBOX (cutbox-rows.mjs): the forced cells as the released guide's own fill.sh prints them over the translation c784be535768c6eb… (all of the seat's roots in one cut). By AI agents, Wed Nov 11 2026. No macro, syntax, notation, axiom, sorry.
-/
import Derived.Test.YtcpljmonmchloaaGreatChecked
import GoSem.Claim
import GoSem.ClaimJoined
import GoSem.ClaimMapViews
import Derived.JoinedTies
import Derived.KernelRfl
namespace Go.Proofs.YtcpljmonmchloaaGreat
/- THE CELL 'sum', in the pinned program and in every row, IS THE sha256 OF THE DUMP (.gsa) THAT YtcpljmonmchloaaGreatProg.lean LOADS. Nothing in Lean hashes anything: it is a label: what it is worth is what the hold of that sum in a sandbox is worth. -/
noncomputable def Tryz.pinned : Pinned := { name := "ytcpljmonmchloaagreat", sum := "c784be535768c6ebef69faf58212bf2b4ffdeac9b0d5985068d119c066376fb4", checked := Tryz.checked }
namespace Rows
def none {H : Type} : Left H := { results := [], args := [] }

/-- 'estraylaw19.ReachNil': WHATEVER THE INPUT: true; the input reads as it did. -/
def reachNilSpec : ChangeSpec := { name := "reachNil", fn := fun _ => fun
  | [d] => { results := [.lit (.bool true)], args := [d] }
  | _ => none }
def reachNilRow : OpenClaim := { program := "ytcpljmonmchloaagreat", sum := "c784be535768c6ebef69faf58212bf2b4ffdeac9b0d5985068d119c066376fb4", func := "estray/estraylaw19.ReachNil", spec := "reachNil", unfollowed := true, recurses := true, plainKeys := false, apart := false }
def ReachNilSaid : Prop := reachNilRow.holds Tryz.pinned (OpenSpec.ofChange reachNilSpec)

/-- ITS FALSE NEIGHBOUR: 'it returns false'. Refute it at one input. -/
def reachNilWrong : ChangeSpec := { name := "reachNil", fn := fun _ => fun
  | [d] => { results := [.lit (.bool false)], args := [d] }
  | _ => none }
def ReachNilWrongFalsely : Prop := reachNilRow.holds Tryz.pinned (OpenSpec.ofChange reachNilWrong)

/-- 'estraylaw19.ReachShort': WHATEVER THE INPUT: true; the input reads as it did. -/
def reachShortSpec : ChangeSpec := { name := "reachShort", fn := fun _ => fun
  | [d] => { results := [.lit (.bool true)], args := [d] }
  | _ => none }
def reachShortRow : OpenClaim := { program := "ytcpljmonmchloaagreat", sum := "c784be535768c6ebef69faf58212bf2b4ffdeac9b0d5985068d119c066376fb4", func := "estray/estraylaw19.ReachShort", spec := "reachShort", unfollowed := true, recurses := true, plainKeys := false, apart := false }
def ReachShortSaid : Prop := reachShortRow.holds Tryz.pinned (OpenSpec.ofChange reachShortSpec)

/-- ITS FALSE NEIGHBOUR: 'it returns false'. Refute it at one input. -/
def reachShortWrong : ChangeSpec := { name := "reachShort", fn := fun _ => fun
  | [d] => { results := [.lit (.bool false)], args := [d] }
  | _ => none }
def ReachShortWrongFalsely : Prop := reachShortRow.holds Tryz.pinned (OpenSpec.ofChange reachShortWrong)

/-- 'estraylaw19.ReachLeast': WHATEVER THE INPUT: true; the input reads as it did. -/
def reachLeastSpec : ChangeSpec := { name := "reachLeast", fn := fun _ => fun
  | [d] => { results := [.lit (.bool true)], args := [d] }
  | _ => none }
def reachLeastRow : OpenClaim := { program := "ytcpljmonmchloaagreat", sum := "c784be535768c6ebef69faf58212bf2b4ffdeac9b0d5985068d119c066376fb4", func := "estray/estraylaw19.ReachLeast", spec := "reachLeast", unfollowed := true, recurses := true, plainKeys := false, apart := false }
def ReachLeastSaid : Prop := reachLeastRow.holds Tryz.pinned (OpenSpec.ofChange reachLeastSpec)

/-- ITS FALSE NEIGHBOUR: 'it returns false'. Refute it at one input. -/
def reachLeastWrong : ChangeSpec := { name := "reachLeast", fn := fun _ => fun
  | [d] => { results := [.lit (.bool false)], args := [d] }
  | _ => none }
def ReachLeastWrongFalsely : Prop := reachLeastRow.holds Tryz.pinned (OpenSpec.ofChange reachLeastWrong)

/-- 'estraylaw19.ReachParts': WHATEVER THE INPUT: true; the input reads as it did. -/
def reachPartsSpec : ChangeSpec := { name := "reachParts", fn := fun _ => fun
  | [d1, d2, d3] => { results := [.lit (.bool true)], args := [d1, d2, d3] }
  | _ => none }
def reachPartsRow : OpenClaim := { program := "ytcpljmonmchloaagreat", sum := "c784be535768c6ebef69faf58212bf2b4ffdeac9b0d5985068d119c066376fb4", func := "estray/estraylaw19.ReachParts", spec := "reachParts", unfollowed := true, recurses := true, plainKeys := false, apart := false }
def ReachPartsSaid : Prop := reachPartsRow.holds Tryz.pinned (OpenSpec.ofChange reachPartsSpec)

/-- ITS FALSE NEIGHBOUR: 'it returns false'. Refute it at one input. -/
def reachPartsWrong : ChangeSpec := { name := "reachParts", fn := fun _ => fun
  | [d1, d2, d3] => { results := [.lit (.bool false)], args := [d1, d2, d3] }
  | _ => none }
def ReachPartsWrongFalsely : Prop := reachPartsRow.holds Tryz.pinned (OpenSpec.ofChange reachPartsWrong)

/-- 'estraylaw19.ReachFrom': WHATEVER THE INPUT: true; the input reads as it did. -/
def reachFromSpec : ChangeSpec := { name := "reachFrom", fn := fun _ => fun
  | [d1, d2, d3] => { results := [.lit (.bool true)], args := [d1, d2, d3] }
  | _ => none }
def reachFromRow : OpenClaim := { program := "ytcpljmonmchloaagreat", sum := "c784be535768c6ebef69faf58212bf2b4ffdeac9b0d5985068d119c066376fb4", func := "estray/estraylaw19.ReachFrom", spec := "reachFrom", unfollowed := true, recurses := true, plainKeys := false, apart := false }
def ReachFromSaid : Prop := reachFromRow.holds Tryz.pinned (OpenSpec.ofChange reachFromSpec)

/-- ITS FALSE NEIGHBOUR: 'it returns false'. Refute it at one input. -/
def reachFromWrong : ChangeSpec := { name := "reachFrom", fn := fun _ => fun
  | [d1, d2, d3] => { results := [.lit (.bool false)], args := [d1, d2, d3] }
  | _ => none }
def ReachFromWrongFalsely : Prop := reachFromRow.holds Tryz.pinned (OpenSpec.ofChange reachFromWrong)

/-- 'estraylaw19.ReachLost': WHATEVER THE INPUT: true; the input reads as it did. -/
def reachLostSpec : ChangeSpec := { name := "reachLost", fn := fun _ => fun
  | [d1, d2] => { results := [.lit (.bool true)], args := [d1, d2] }
  | _ => none }
def reachLostRow : OpenClaim := { program := "ytcpljmonmchloaagreat", sum := "c784be535768c6ebef69faf58212bf2b4ffdeac9b0d5985068d119c066376fb4", func := "estray/estraylaw19.ReachLost", spec := "reachLost", unfollowed := true, recurses := true, plainKeys := false, apart := false }
def ReachLostSaid : Prop := reachLostRow.holds Tryz.pinned (OpenSpec.ofChange reachLostSpec)

/-- ITS FALSE NEIGHBOUR: 'it returns false'. Refute it at one input. -/
def reachLostWrong : ChangeSpec := { name := "reachLost", fn := fun _ => fun
  | [d1, d2] => { results := [.lit (.bool false)], args := [d1, d2] }
  | _ => none }
def ReachLostWrongFalsely : Prop := reachLostRow.holds Tryz.pinned (OpenSpec.ofChange reachLostWrong)

/-- 'estraylaw19.ReachAll': WHATEVER THE INPUT: true; the input reads as it did. -/
def reachAllSpec : ChangeSpec := { name := "reachAll", fn := fun _ => fun
  | [d1, d2, d3, d4, d5] => { results := [.lit (.bool true)], args := [d1, d2, d3, d4, d5] }
  | _ => none }
def reachAllRow : OpenClaim := { program := "ytcpljmonmchloaagreat", sum := "c784be535768c6ebef69faf58212bf2b4ffdeac9b0d5985068d119c066376fb4", func := "estray/estraylaw19.ReachAll", spec := "reachAll", unfollowed := true, recurses := true, plainKeys := false, apart := false }
def ReachAllSaid : Prop := reachAllRow.holds Tryz.pinned (OpenSpec.ofChange reachAllSpec)

/-- ITS FALSE NEIGHBOUR: 'it returns false'. Refute it at one input. -/
def reachAllWrong : ChangeSpec := { name := "reachAll", fn := fun _ => fun
  | [d1, d2, d3, d4, d5] => { results := [.lit (.bool false)], args := [d1, d2, d3, d4, d5] }
  | _ => none }
def ReachAllWrongFalsely : Prop := reachAllRow.holds Tryz.pinned (OpenSpec.ofChange reachAllWrong)

/-- 'estraylaw19.ReachGone': WHATEVER THE INPUT: true; the input reads as it did. -/
def reachGoneSpec : ChangeSpec := { name := "reachGone", fn := fun _ => fun
  | [d1, d2] => { results := [.lit (.bool true)], args := [d1, d2] }
  | _ => none }
def reachGoneRow : OpenClaim := { program := "ytcpljmonmchloaagreat", sum := "c784be535768c6ebef69faf58212bf2b4ffdeac9b0d5985068d119c066376fb4", func := "estray/estraylaw19.ReachGone", spec := "reachGone", unfollowed := true, recurses := true, plainKeys := false, apart := false }
def ReachGoneSaid : Prop := reachGoneRow.holds Tryz.pinned (OpenSpec.ofChange reachGoneSpec)

/-- ITS FALSE NEIGHBOUR: 'it returns false'. Refute it at one input. -/
def reachGoneWrong : ChangeSpec := { name := "reachGone", fn := fun _ => fun
  | [d1, d2] => { results := [.lit (.bool false)], args := [d1, d2] }
  | _ => none }
def ReachGoneWrongFalsely : Prop := reachGoneRow.holds Tryz.pinned (OpenSpec.ofChange reachGoneWrong)

/-- 'estraylaw24.MarkerPrecise': WHATEVER THE INPUT: true; the input reads as it did. -/
def markerPreciseSpec : ChangeSpec := { name := "markerPrecise", fn := fun _ => fun
  | [d1, d2] => { results := [.lit (.bool true)], args := [d1, d2] }
  | _ => none }
def markerPreciseRow : OpenClaim := { program := "ytcpljmonmchloaagreat", sum := "c784be535768c6ebef69faf58212bf2b4ffdeac9b0d5985068d119c066376fb4", func := "estray/estraylaw24.MarkerPrecise", spec := "markerPrecise", unfollowed := true, recurses := true, plainKeys := false, apart := false }
def MarkerPreciseSaid : Prop := markerPreciseRow.holds Tryz.pinned (OpenSpec.ofChange markerPreciseSpec)

/-- ITS FALSE NEIGHBOUR: 'it returns false'. Refute it at one input. -/
def markerPreciseWrong : ChangeSpec := { name := "markerPrecise", fn := fun _ => fun
  | [d1, d2] => { results := [.lit (.bool false)], args := [d1, d2] }
  | _ => none }
def MarkerPreciseWrongFalsely : Prop := markerPreciseRow.holds Tryz.pinned (OpenSpec.ofChange markerPreciseWrong)

/-- 'estraylaw24.MarkerWaits': WHATEVER THE INPUT: true; the input reads as it did. -/
def markerWaitsSpec : ChangeSpec := { name := "markerWaits", fn := fun _ => fun
  | [d1, d2, d3] => { results := [.lit (.bool true)], args := [d1, d2, d3] }
  | _ => none }
def markerWaitsRow : OpenClaim := { program := "ytcpljmonmchloaagreat", sum := "c784be535768c6ebef69faf58212bf2b4ffdeac9b0d5985068d119c066376fb4", func := "estray/estraylaw24.MarkerWaits", spec := "markerWaits", unfollowed := true, recurses := true, plainKeys := false, apart := false }
def MarkerWaitsSaid : Prop := markerWaitsRow.holds Tryz.pinned (OpenSpec.ofChange markerWaitsSpec)

/-- ITS FALSE NEIGHBOUR: 'it returns false'. Refute it at one input. -/
def markerWaitsWrong : ChangeSpec := { name := "markerWaits", fn := fun _ => fun
  | [d1, d2, d3] => { results := [.lit (.bool false)], args := [d1, d2, d3] }
  | _ => none }
def MarkerWaitsWrongFalsely : Prop := markerWaitsRow.holds Tryz.pinned (OpenSpec.ofChange markerWaitsWrong)

/-- 'estraylaw24.MarkerClean': WHATEVER THE INPUT: true; the input reads as it did. -/
def markerCleanSpec : ChangeSpec := { name := "markerClean", fn := fun _ => fun
  | [d1, d2, d3] => { results := [.lit (.bool true)], args := [d1, d2, d3] }
  | _ => none }
def markerCleanRow : OpenClaim := { program := "ytcpljmonmchloaagreat", sum := "c784be535768c6ebef69faf58212bf2b4ffdeac9b0d5985068d119c066376fb4", func := "estray/estraylaw24.MarkerClean", spec := "markerClean", unfollowed := true, recurses := true, plainKeys := false, apart := false }
def MarkerCleanSaid : Prop := markerCleanRow.holds Tryz.pinned (OpenSpec.ofChange markerCleanSpec)

/-- ITS FALSE NEIGHBOUR: 'it returns false'. Refute it at one input. -/
def markerCleanWrong : ChangeSpec := { name := "markerClean", fn := fun _ => fun
  | [d1, d2, d3] => { results := [.lit (.bool false)], args := [d1, d2, d3] }
  | _ => none }
def MarkerCleanWrongFalsely : Prop := markerCleanRow.holds Tryz.pinned (OpenSpec.ofChange markerCleanWrong)

/-- 'estraylaw24.MarkerSafe': WHATEVER THE INPUT: true; the input reads as it did. -/
def markerSafeSpec : ChangeSpec := { name := "markerSafe", fn := fun _ => fun
  | [d1, d2] => { results := [.lit (.bool true)], args := [d1, d2] }
  | _ => none }
def markerSafeRow : OpenClaim := { program := "ytcpljmonmchloaagreat", sum := "c784be535768c6ebef69faf58212bf2b4ffdeac9b0d5985068d119c066376fb4", func := "estray/estraylaw24.MarkerSafe", spec := "markerSafe", unfollowed := true, recurses := true, plainKeys := false, apart := false }
def MarkerSafeSaid : Prop := markerSafeRow.holds Tryz.pinned (OpenSpec.ofChange markerSafeSpec)

/-- ITS FALSE NEIGHBOUR: 'it returns false'. Refute it at one input. -/
def markerSafeWrong : ChangeSpec := { name := "markerSafe", fn := fun _ => fun
  | [d1, d2] => { results := [.lit (.bool false)], args := [d1, d2] }
  | _ => none }
def MarkerSafeWrongFalsely : Prop := markerSafeRow.holds Tryz.pinned (OpenSpec.ofChange markerSafeWrong)

/-- 'estraylaw24.MarkerCopies': WHATEVER THE INPUT: true; the input reads as it did. -/
def markerCopiesSpec : ChangeSpec := { name := "markerCopies", fn := fun _ => fun
  | [d1, d2, d3] => { results := [.lit (.bool true)], args := [d1, d2, d3] }
  | _ => none }
def markerCopiesRow : OpenClaim := { program := "ytcpljmonmchloaagreat", sum := "c784be535768c6ebef69faf58212bf2b4ffdeac9b0d5985068d119c066376fb4", func := "estray/estraylaw24.MarkerCopies", spec := "markerCopies", unfollowed := true, recurses := true, plainKeys := false, apart := false }
def MarkerCopiesSaid : Prop := markerCopiesRow.holds Tryz.pinned (OpenSpec.ofChange markerCopiesSpec)

/-- ITS FALSE NEIGHBOUR: 'it returns false'. Refute it at one input. -/
def markerCopiesWrong : ChangeSpec := { name := "markerCopies", fn := fun _ => fun
  | [d1, d2, d3] => { results := [.lit (.bool false)], args := [d1, d2, d3] }
  | _ => none }
def MarkerCopiesWrongFalsely : Prop := markerCopiesRow.holds Tryz.pinned (OpenSpec.ofChange markerCopiesWrong)

/-- 'estraylaw25.SweepClean': WHATEVER THE INPUT: true; the input reads as it did. -/
def sweepCleanSpec : ChangeSpec := { name := "sweepClean", fn := fun _ => fun
  | [d] => { results := [.lit (.bool true)], args := [d] }
  | _ => none }
def sweepCleanRow : OpenClaim := { program := "ytcpljmonmchloaagreat", sum := "c784be535768c6ebef69faf58212bf2b4ffdeac9b0d5985068d119c066376fb4", func := "estray/estraylaw25.SweepClean", spec := "sweepClean", unfollowed := true, recurses := true, plainKeys := false, apart := false }
def SweepCleanSaid : Prop := sweepCleanRow.holds Tryz.pinned (OpenSpec.ofChange sweepCleanSpec)

/-- ITS FALSE NEIGHBOUR: 'it returns false'. Refute it at one input. -/
def sweepCleanWrong : ChangeSpec := { name := "sweepClean", fn := fun _ => fun
  | [d] => { results := [.lit (.bool false)], args := [d] }
  | _ => none }
def SweepCleanWrongFalsely : Prop := sweepCleanRow.holds Tryz.pinned (OpenSpec.ofChange sweepCleanWrong)

/- THE SECOND FORM. 'bulk': how many values and letters a reading holds, each counted each time it is reached (what is shared counts as often as it is met; a slice's spare places count too). A statement '..UptoSaid' is the law's where the arguments, and the package variables that the reading takes, are together of bulk at most 1048576: NARROWER than '..Said'. Prove '..Said' where nothing that the law and all that it calls make is longer than what came in: it says more and counts as full. Else prove '..UptoSaid'. A law counts once. -/
mutual
def uptoBulk {H : Type} : DataW H → Nat
  | .lit (.string bytes) => bytes.length + 1
  | .lit _ => 1
  | .nil => 1
  | .ptr d => uptoBulk d + 1
  | .slice elems spare => uptoBulkAll elems + uptoBulkAll spare + 1
  | .agg parts => uptoBulkAll parts + 1
  | .iface _ d => uptoBulk d + 1
  | .map entries => uptoBulkEntries entries + 1
  | .held _ => 1
def uptoBulkAll {H : Type} : List (DataW H) → Nat
  | [] => 0
  | d :: r => uptoBulk d + uptoBulkAll r
def uptoBulkEntries {H : Type} : List (Lit × DataW H) → Nat
  | [] => 0
  | x :: r => uptoBulkEntry x + uptoBulkEntries r
def uptoBulkEntry {H : Type} : Lit × DataW H → Nat
  | (.string bytes, d) => bytes.length + uptoBulk d + 1
  | (_, d) => uptoBulk d + 1
 end
def uptoSmall : (H : Type) → List (DataW H) → Bool := fun _ ds => decide (uptoBulkAll ds ≤ 1048576)
def OpenSpec.upto (s : _root_.Go.ChangeSpec) : _root_.Go.OpenSpec := { _root_.Go.OpenSpec.ofChange s with cond := some uptoSmall }

/-- 'estraylaw19.ReachNil', WHERE WHAT IT READS IS OF BULK AT MOST 1048576: true; the input reads as it did. -/
def reachNilUptoRow : OpenClaim := { program := "ytcpljmonmchloaagreat", sum := "c784be535768c6ebef69faf58212bf2b4ffdeac9b0d5985068d119c066376fb4", func := "estray/estraylaw19.ReachNil", spec := "reachNil", unfollowed := true, recurses := true, plainKeys := false, apart := false, narrowed := true }
def ReachNilUptoSaid : Prop := reachNilUptoRow.holds Tryz.pinned (OpenSpec.upto reachNilSpec)

/-- 'estraylaw19.ReachShort', WHERE WHAT IT READS IS OF BULK AT MOST 1048576: true; the input reads as it did. -/
def reachShortUptoRow : OpenClaim := { program := "ytcpljmonmchloaagreat", sum := "c784be535768c6ebef69faf58212bf2b4ffdeac9b0d5985068d119c066376fb4", func := "estray/estraylaw19.ReachShort", spec := "reachShort", unfollowed := true, recurses := true, plainKeys := false, apart := false, narrowed := true }
def ReachShortUptoSaid : Prop := reachShortUptoRow.holds Tryz.pinned (OpenSpec.upto reachShortSpec)

/-- 'estraylaw19.ReachLeast', WHERE WHAT IT READS IS OF BULK AT MOST 1048576: true; the input reads as it did. -/
def reachLeastUptoRow : OpenClaim := { program := "ytcpljmonmchloaagreat", sum := "c784be535768c6ebef69faf58212bf2b4ffdeac9b0d5985068d119c066376fb4", func := "estray/estraylaw19.ReachLeast", spec := "reachLeast", unfollowed := true, recurses := true, plainKeys := false, apart := false, narrowed := true }
def ReachLeastUptoSaid : Prop := reachLeastUptoRow.holds Tryz.pinned (OpenSpec.upto reachLeastSpec)

/-- 'estraylaw19.ReachParts', WHERE WHAT IT READS IS OF BULK AT MOST 1048576: true; the input reads as it did. -/
def reachPartsUptoRow : OpenClaim := { program := "ytcpljmonmchloaagreat", sum := "c784be535768c6ebef69faf58212bf2b4ffdeac9b0d5985068d119c066376fb4", func := "estray/estraylaw19.ReachParts", spec := "reachParts", unfollowed := true, recurses := true, plainKeys := false, apart := false, narrowed := true }
def ReachPartsUptoSaid : Prop := reachPartsUptoRow.holds Tryz.pinned (OpenSpec.upto reachPartsSpec)

/-- 'estraylaw19.ReachFrom', WHERE WHAT IT READS IS OF BULK AT MOST 1048576: true; the input reads as it did. -/
def reachFromUptoRow : OpenClaim := { program := "ytcpljmonmchloaagreat", sum := "c784be535768c6ebef69faf58212bf2b4ffdeac9b0d5985068d119c066376fb4", func := "estray/estraylaw19.ReachFrom", spec := "reachFrom", unfollowed := true, recurses := true, plainKeys := false, apart := false, narrowed := true }
def ReachFromUptoSaid : Prop := reachFromUptoRow.holds Tryz.pinned (OpenSpec.upto reachFromSpec)

/-- 'estraylaw19.ReachLost', WHERE WHAT IT READS IS OF BULK AT MOST 1048576: true; the input reads as it did. -/
def reachLostUptoRow : OpenClaim := { program := "ytcpljmonmchloaagreat", sum := "c784be535768c6ebef69faf58212bf2b4ffdeac9b0d5985068d119c066376fb4", func := "estray/estraylaw19.ReachLost", spec := "reachLost", unfollowed := true, recurses := true, plainKeys := false, apart := false, narrowed := true }
def ReachLostUptoSaid : Prop := reachLostUptoRow.holds Tryz.pinned (OpenSpec.upto reachLostSpec)

/-- 'estraylaw19.ReachAll', WHERE WHAT IT READS IS OF BULK AT MOST 1048576: true; the input reads as it did. -/
def reachAllUptoRow : OpenClaim := { program := "ytcpljmonmchloaagreat", sum := "c784be535768c6ebef69faf58212bf2b4ffdeac9b0d5985068d119c066376fb4", func := "estray/estraylaw19.ReachAll", spec := "reachAll", unfollowed := true, recurses := true, plainKeys := false, apart := false, narrowed := true }
def ReachAllUptoSaid : Prop := reachAllUptoRow.holds Tryz.pinned (OpenSpec.upto reachAllSpec)

/-- 'estraylaw19.ReachGone', WHERE WHAT IT READS IS OF BULK AT MOST 1048576: true; the input reads as it did. -/
def reachGoneUptoRow : OpenClaim := { program := "ytcpljmonmchloaagreat", sum := "c784be535768c6ebef69faf58212bf2b4ffdeac9b0d5985068d119c066376fb4", func := "estray/estraylaw19.ReachGone", spec := "reachGone", unfollowed := true, recurses := true, plainKeys := false, apart := false, narrowed := true }
def ReachGoneUptoSaid : Prop := reachGoneUptoRow.holds Tryz.pinned (OpenSpec.upto reachGoneSpec)

/-- 'estraylaw24.MarkerPrecise', WHERE WHAT IT READS IS OF BULK AT MOST 1048576: true; the input reads as it did. -/
def markerPreciseUptoRow : OpenClaim := { program := "ytcpljmonmchloaagreat", sum := "c784be535768c6ebef69faf58212bf2b4ffdeac9b0d5985068d119c066376fb4", func := "estray/estraylaw24.MarkerPrecise", spec := "markerPrecise", unfollowed := true, recurses := true, plainKeys := false, apart := false, narrowed := true }
def MarkerPreciseUptoSaid : Prop := markerPreciseUptoRow.holds Tryz.pinned (OpenSpec.upto markerPreciseSpec)

/-- 'estraylaw24.MarkerWaits', WHERE WHAT IT READS IS OF BULK AT MOST 1048576: true; the input reads as it did. -/
def markerWaitsUptoRow : OpenClaim := { program := "ytcpljmonmchloaagreat", sum := "c784be535768c6ebef69faf58212bf2b4ffdeac9b0d5985068d119c066376fb4", func := "estray/estraylaw24.MarkerWaits", spec := "markerWaits", unfollowed := true, recurses := true, plainKeys := false, apart := false, narrowed := true }
def MarkerWaitsUptoSaid : Prop := markerWaitsUptoRow.holds Tryz.pinned (OpenSpec.upto markerWaitsSpec)

/-- 'estraylaw24.MarkerClean', WHERE WHAT IT READS IS OF BULK AT MOST 1048576: true; the input reads as it did. -/
def markerCleanUptoRow : OpenClaim := { program := "ytcpljmonmchloaagreat", sum := "c784be535768c6ebef69faf58212bf2b4ffdeac9b0d5985068d119c066376fb4", func := "estray/estraylaw24.MarkerClean", spec := "markerClean", unfollowed := true, recurses := true, plainKeys := false, apart := false, narrowed := true }
def MarkerCleanUptoSaid : Prop := markerCleanUptoRow.holds Tryz.pinned (OpenSpec.upto markerCleanSpec)

/-- 'estraylaw24.MarkerSafe', WHERE WHAT IT READS IS OF BULK AT MOST 1048576: true; the input reads as it did. -/
def markerSafeUptoRow : OpenClaim := { program := "ytcpljmonmchloaagreat", sum := "c784be535768c6ebef69faf58212bf2b4ffdeac9b0d5985068d119c066376fb4", func := "estray/estraylaw24.MarkerSafe", spec := "markerSafe", unfollowed := true, recurses := true, plainKeys := false, apart := false, narrowed := true }
def MarkerSafeUptoSaid : Prop := markerSafeUptoRow.holds Tryz.pinned (OpenSpec.upto markerSafeSpec)

/-- 'estraylaw24.MarkerCopies', WHERE WHAT IT READS IS OF BULK AT MOST 1048576: true; the input reads as it did. -/
def markerCopiesUptoRow : OpenClaim := { program := "ytcpljmonmchloaagreat", sum := "c784be535768c6ebef69faf58212bf2b4ffdeac9b0d5985068d119c066376fb4", func := "estray/estraylaw24.MarkerCopies", spec := "markerCopies", unfollowed := true, recurses := true, plainKeys := false, apart := false, narrowed := true }
def MarkerCopiesUptoSaid : Prop := markerCopiesUptoRow.holds Tryz.pinned (OpenSpec.upto markerCopiesSpec)

/-- 'estraylaw25.SweepClean', WHERE WHAT IT READS IS OF BULK AT MOST 1048576: true; the input reads as it did. -/
def sweepCleanUptoRow : OpenClaim := { program := "ytcpljmonmchloaagreat", sum := "c784be535768c6ebef69faf58212bf2b4ffdeac9b0d5985068d119c066376fb4", func := "estray/estraylaw25.SweepClean", spec := "sweepClean", unfollowed := true, recurses := true, plainKeys := false, apart := false, narrowed := true }
def SweepCleanUptoSaid : Prop := sweepCleanUptoRow.holds Tryz.pinned (OpenSpec.upto sweepCleanSpec)

end Rows
end Go.Proofs.YtcpljmonmchloaaGreat
