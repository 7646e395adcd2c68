/-
  No cell of these rows narrows 'for every input' (looked for: loops, veiled, ifaces, maps, wideKeys, modest, calm, conditions, laid).
  DERIVED. THE GIVEN ROWS OF THIS SEAT. 7 by the template 'for every input the law returns true; each argument reads behind the call as it read before'; 0 by the template 'total and deterministic' (their statements: YtafcjciolekdkaaGreatTotals.lean).
  GIVEN WITH THE SEED: the statements are not yours to turn. If you find one false, say at which input.
  Laid BY PROGRAM, IN A SANDBOX (cutbox-rows.mjs): the forced cells as the released guide's own fill.sh prints them over the translation 415681ad40c5a220… (all of the seat's roots in one cut). By AI agents, Wed Nov 11 2026. No macro, syntax, notation, axiom, sorry.
-/
import Derived.Test.YtafcjciolekdkaaGreatChecked
import GoSem.Claim
import GoSem.ClaimJoined
import GoSem.ClaimMapViews
import Derived.JoinedTies
import Derived.KernelRfl
namespace Go.Proofs.YtafcjciolekdkaaGreat
/- THE CELL 'sum', in the pinned program and in every row, IS THE sha256 OF THE DUMP (.gsa) THAT YtafcjciolekdkaaGreatProg.lean LOADS. Nothing in Lean hashes anything: it is a label: what it is worth is what the hold of that sum in a sandbox is worth. -/
noncomputable def Tryz.pinned : Pinned := { name := "ytafcjciolekdkaagreat", sum := "415681ad40c5a220dfe7c072dea3a4c28ee8f14c4ae3f633e12c6824b17d8bf6", checked := Tryz.checked }
namespace Rows
def none {H : Type} : Left H := { results := [], args := [] }

/-- 'estraylaw25.SweepKeeps': WHATEVER THE INPUT: true; the input reads as it did. -/
def sweepKeepsSpec : ChangeSpec := { name := "sweepKeeps", fn := fun _ => fun
  | [d1, d2] => { results := [.lit (.bool true)], args := [d1, d2] }
  | _ => none }
def sweepKeepsRow : OpenClaim := { program := "ytafcjciolekdkaagreat", sum := "415681ad40c5a220dfe7c072dea3a4c28ee8f14c4ae3f633e12c6824b17d8bf6", func := "estray/estraylaw25.SweepKeeps", spec := "sweepKeeps", unfollowed := true, recurses := true, plainKeys := false, apart := false }
def SweepKeepsSaid : Prop := sweepKeepsRow.holds Tryz.pinned (OpenSpec.ofChange sweepKeepsSpec)

/-- ITS FALSE NEIGHBOUR: 'it returns false'. Refute it at one input. -/
def sweepKeepsWrong : ChangeSpec := { name := "sweepKeeps", fn := fun _ => fun
  | [d1, d2] => { results := [.lit (.bool false)], args := [d1, d2] }
  | _ => none }
def SweepKeepsWrongFalsely : Prop := sweepKeepsRow.holds Tryz.pinned (OpenSpec.ofChange sweepKeepsWrong)

/-- 'estraylaw25.SweepAgain': WHATEVER THE INPUT: true; the input reads as it did. -/
def sweepAgainSpec : ChangeSpec := { name := "sweepAgain", fn := fun _ => fun
  | [d1, d2] => { results := [.lit (.bool true)], args := [d1, d2] }
  | _ => none }
def sweepAgainRow : OpenClaim := { program := "ytafcjciolekdkaagreat", sum := "415681ad40c5a220dfe7c072dea3a4c28ee8f14c4ae3f633e12c6824b17d8bf6", func := "estray/estraylaw25.SweepAgain", spec := "sweepAgain", unfollowed := true, recurses := true, plainKeys := false, apart := false }
def SweepAgainSaid : Prop := sweepAgainRow.holds Tryz.pinned (OpenSpec.ofChange sweepAgainSpec)

/-- ITS FALSE NEIGHBOUR: 'it returns false'. Refute it at one input. -/
def sweepAgainWrong : ChangeSpec := { name := "sweepAgain", fn := fun _ => fun
  | [d1, d2] => { results := [.lit (.bool false)], args := [d1, d2] }
  | _ => none }
def SweepAgainWrongFalsely : Prop := sweepAgainRow.holds Tryz.pinned (OpenSpec.ofChange sweepAgainWrong)

/-- 'estraylaw26.CycleMakes': WHATEVER THE INPUT: true; the input reads as it did. -/
def cycleMakesSpec : ChangeSpec := { name := "cycleMakes", fn := fun _ => fun
  | [d1, d2, d3, d4, d5] => { results := [.lit (.bool true)], args := [d1, d2, d3, d4, d5] }
  | _ => none }
def cycleMakesRow : OpenClaim := { program := "ytafcjciolekdkaagreat", sum := "415681ad40c5a220dfe7c072dea3a4c28ee8f14c4ae3f633e12c6824b17d8bf6", func := "estray/estraylaw26.CycleMakes", spec := "cycleMakes", unfollowed := true, recurses := true, plainKeys := false, apart := false }
def CycleMakesSaid : Prop := cycleMakesRow.holds Tryz.pinned (OpenSpec.ofChange cycleMakesSpec)

/-- ITS FALSE NEIGHBOUR: 'it returns false'. Refute it at one input. -/
def cycleMakesWrong : ChangeSpec := { name := "cycleMakes", fn := fun _ => fun
  | [d1, d2, d3, d4, d5] => { results := [.lit (.bool false)], args := [d1, d2, d3, d4, d5] }
  | _ => none }
def CycleMakesWrongFalsely : Prop := cycleMakesRow.holds Tryz.pinned (OpenSpec.ofChange cycleMakesWrong)

/-- 'estraylaw26.CycleEnds': WHATEVER THE INPUT: true; the input reads as it did. -/
def cycleEndsSpec : ChangeSpec := { name := "cycleEnds", fn := fun _ => fun
  | [d1, d2, d3, d4, d5, d6] => { results := [.lit (.bool true)], args := [d1, d2, d3, d4, d5, d6] }
  | _ => none }
def cycleEndsRow : OpenClaim := { program := "ytafcjciolekdkaagreat", sum := "415681ad40c5a220dfe7c072dea3a4c28ee8f14c4ae3f633e12c6824b17d8bf6", func := "estray/estraylaw26.CycleEnds", spec := "cycleEnds", unfollowed := true, recurses := true, plainKeys := false, apart := false }
def CycleEndsSaid : Prop := cycleEndsRow.holds Tryz.pinned (OpenSpec.ofChange cycleEndsSpec)

/-- ITS FALSE NEIGHBOUR: 'it returns false'. Refute it at one input. -/
def cycleEndsWrong : ChangeSpec := { name := "cycleEnds", fn := fun _ => fun
  | [d1, d2, d3, d4, d5, d6] => { results := [.lit (.bool false)], args := [d1, d2, d3, d4, d5, d6] }
  | _ => none }
def CycleEndsWrongFalsely : Prop := cycleEndsRow.holds Tryz.pinned (OpenSpec.ofChange cycleEndsWrong)

/-- 'estraylaw26.CycleKeeps': WHATEVER THE INPUT: true; the input reads as it did. -/
def cycleKeepsSpec : ChangeSpec := { name := "cycleKeeps", fn := fun _ => fun
  | [d1, d2, d3, d4, d5, d6] => { results := [.lit (.bool true)], args := [d1, d2, d3, d4, d5, d6] }
  | _ => none }
def cycleKeepsRow : OpenClaim := { program := "ytafcjciolekdkaagreat", sum := "415681ad40c5a220dfe7c072dea3a4c28ee8f14c4ae3f633e12c6824b17d8bf6", func := "estray/estraylaw26.CycleKeeps", spec := "cycleKeeps", unfollowed := true, recurses := true, plainKeys := false, apart := false }
def CycleKeepsSaid : Prop := cycleKeepsRow.holds Tryz.pinned (OpenSpec.ofChange cycleKeepsSpec)

/-- ITS FALSE NEIGHBOUR: 'it returns false'. Refute it at one input. -/
def cycleKeepsWrong : ChangeSpec := { name := "cycleKeeps", fn := fun _ => fun
  | [d1, d2, d3, d4, d5, d6] => { results := [.lit (.bool false)], args := [d1, d2, d3, d4, d5, d6] }
  | _ => none }
def CycleKeepsWrongFalsely : Prop := cycleKeepsRow.holds Tryz.pinned (OpenSpec.ofChange cycleKeepsWrong)

/-- 'estraylaw26.CycleNil': WHATEVER THE INPUT: true; the input reads as it did. -/
def cycleNilSpec : ChangeSpec := { name := "cycleNil", fn := fun _ => fun
  | [d1, d2] => { results := [.lit (.bool true)], args := [d1, d2] }
  | _ => none }
def cycleNilRow : OpenClaim := { program := "ytafcjciolekdkaagreat", sum := "415681ad40c5a220dfe7c072dea3a4c28ee8f14c4ae3f633e12c6824b17d8bf6", func := "estray/estraylaw26.CycleNil", spec := "cycleNil", unfollowed := true, recurses := true, plainKeys := false, apart := false }
def CycleNilSaid : Prop := cycleNilRow.holds Tryz.pinned (OpenSpec.ofChange cycleNilSpec)

/-- ITS FALSE NEIGHBOUR: 'it returns false'. Refute it at one input. -/
def cycleNilWrong : ChangeSpec := { name := "cycleNil", fn := fun _ => fun
  | [d1, d2] => { results := [.lit (.bool false)], args := [d1, d2] }
  | _ => none }
def CycleNilWrongFalsely : Prop := cycleNilRow.holds Tryz.pinned (OpenSpec.ofChange cycleNilWrong)

/-- 'estraylaw24.MarkerWaits': WHATEVER THE INPUT: true; the input reads as it did. -/
def markerWaitsSpec : ChangeSpec := { name := "markerWaits", fn := fun _ => fun
  | [d1, d2, d3] => { results := [.lit (.bool true)], args := [d1, d2, d3] }
  | _ => none }
def markerWaitsRow : OpenClaim := { program := "ytafcjciolekdkaagreat", sum := "415681ad40c5a220dfe7c072dea3a4c28ee8f14c4ae3f633e12c6824b17d8bf6", func := "estray/estraylaw24.MarkerWaits", spec := "markerWaits", unfollowed := true, recurses := true, plainKeys := false, apart := false }
def MarkerWaitsSaid : Prop := markerWaitsRow.holds Tryz.pinned (OpenSpec.ofChange markerWaitsSpec)

/-- ITS FALSE NEIGHBOUR: 'it returns false'. Refute it at one input. -/
def markerWaitsWrong : ChangeSpec := { name := "markerWaits", fn := fun _ => fun
  | [d1, d2, d3] => { results := [.lit (.bool false)], args := [d1, d2, d3] }
  | _ => none }
def MarkerWaitsWrongFalsely : Prop := markerWaitsRow.holds Tryz.pinned (OpenSpec.ofChange markerWaitsWrong)

/- THE SECOND FORM. 'bulk': how many values and letters a reading holds, each counted each time it is reached (what is shared counts as often as it is met; a slice's spare places count too). A statement '..UptoSaid' is the law's where the arguments, and the package variables that the reading takes, are together of bulk at most 1048576: NARROWER than '..Said'. Prove '..Said' where nothing that the law and all that it calls make is longer than what came in: it says more and counts as full. Else prove '..UptoSaid'. A law counts once. -/
mutual
def uptoBulk {H : Type} : DataW H → Nat
  | .lit (.string bytes) => bytes.length + 1
  | .lit _ => 1
  | .nil => 1
  | .ptr d => uptoBulk d + 1
  | .slice elems spare => uptoBulkAll elems + uptoBulkAll spare + 1
  | .agg parts => uptoBulkAll parts + 1
  | .iface _ d => uptoBulk d + 1
  | .map entries => uptoBulkEntries entries + 1
  | .held _ => 1
def uptoBulkAll {H : Type} : List (DataW H) → Nat
  | [] => 0
  | d :: r => uptoBulk d + uptoBulkAll r
def uptoBulkEntries {H : Type} : List (Lit × DataW H) → Nat
  | [] => 0
  | x :: r => uptoBulkEntry x + uptoBulkEntries r
def uptoBulkEntry {H : Type} : Lit × DataW H → Nat
  | (.string bytes, d) => bytes.length + uptoBulk d + 1
  | (_, d) => uptoBulk d + 1
 end
def uptoSmall : (H : Type) → List (DataW H) → Bool := fun _ ds => decide (uptoBulkAll ds ≤ 1048576)
def OpenSpec.upto (s : _root_.Go.ChangeSpec) : _root_.Go.OpenSpec := { _root_.Go.OpenSpec.ofChange s with cond := some uptoSmall }

/-- 'estraylaw25.SweepKeeps', WHERE WHAT IT READS IS OF BULK AT MOST 1048576: true; the input reads as it did. -/
def sweepKeepsUptoRow : OpenClaim := { program := "ytafcjciolekdkaagreat", sum := "415681ad40c5a220dfe7c072dea3a4c28ee8f14c4ae3f633e12c6824b17d8bf6", func := "estray/estraylaw25.SweepKeeps", spec := "sweepKeeps", unfollowed := true, recurses := true, plainKeys := false, apart := false, narrowed := true }
def SweepKeepsUptoSaid : Prop := sweepKeepsUptoRow.holds Tryz.pinned (OpenSpec.upto sweepKeepsSpec)

/-- 'estraylaw25.SweepAgain', WHERE WHAT IT READS IS OF BULK AT MOST 1048576: true; the input reads as it did. -/
def sweepAgainUptoRow : OpenClaim := { program := "ytafcjciolekdkaagreat", sum := "415681ad40c5a220dfe7c072dea3a4c28ee8f14c4ae3f633e12c6824b17d8bf6", func := "estray/estraylaw25.SweepAgain", spec := "sweepAgain", unfollowed := true, recurses := true, plainKeys := false, apart := false, narrowed := true }
def SweepAgainUptoSaid : Prop := sweepAgainUptoRow.holds Tryz.pinned (OpenSpec.upto sweepAgainSpec)

/-- 'estraylaw26.CycleMakes', WHERE WHAT IT READS IS OF BULK AT MOST 1048576: true; the input reads as it did. -/
def cycleMakesUptoRow : OpenClaim := { program := "ytafcjciolekdkaagreat", sum := "415681ad40c5a220dfe7c072dea3a4c28ee8f14c4ae3f633e12c6824b17d8bf6", func := "estray/estraylaw26.CycleMakes", spec := "cycleMakes", unfollowed := true, recurses := true, plainKeys := false, apart := false, narrowed := true }
def CycleMakesUptoSaid : Prop := cycleMakesUptoRow.holds Tryz.pinned (OpenSpec.upto cycleMakesSpec)

/-- 'estraylaw26.CycleEnds', WHERE WHAT IT READS IS OF BULK AT MOST 1048576: true; the input reads as it did. -/
def cycleEndsUptoRow : OpenClaim := { program := "ytafcjciolekdkaagreat", sum := "415681ad40c5a220dfe7c072dea3a4c28ee8f14c4ae3f633e12c6824b17d8bf6", func := "estray/estraylaw26.CycleEnds", spec := "cycleEnds", unfollowed := true, recurses := true, plainKeys := false, apart := false, narrowed := true }
def CycleEndsUptoSaid : Prop := cycleEndsUptoRow.holds Tryz.pinned (OpenSpec.upto cycleEndsSpec)

/-- 'estraylaw26.CycleKeeps', WHERE WHAT IT READS IS OF BULK AT MOST 1048576: true; the input reads as it did. -/
def cycleKeepsUptoRow : OpenClaim := { program := "ytafcjciolekdkaagreat", sum := "415681ad40c5a220dfe7c072dea3a4c28ee8f14c4ae3f633e12c6824b17d8bf6", func := "estray/estraylaw26.CycleKeeps", spec := "cycleKeeps", unfollowed := true, recurses := true, plainKeys := false, apart := false, narrowed := true }
def CycleKeepsUptoSaid : Prop := cycleKeepsUptoRow.holds Tryz.pinned (OpenSpec.upto cycleKeepsSpec)

/-- 'estraylaw26.CycleNil', WHERE WHAT IT READS IS OF BULK AT MOST 1048576: true; the input reads as it did. -/
def cycleNilUptoRow : OpenClaim := { program := "ytafcjciolekdkaagreat", sum := "415681ad40c5a220dfe7c072dea3a4c28ee8f14c4ae3f633e12c6824b17d8bf6", func := "estray/estraylaw26.CycleNil", spec := "cycleNil", unfollowed := true, recurses := true, plainKeys := false, apart := false, narrowed := true }
def CycleNilUptoSaid : Prop := cycleNilUptoRow.holds Tryz.pinned (OpenSpec.upto cycleNilSpec)

/-- 'estraylaw24.MarkerWaits', WHERE WHAT IT READS IS OF BULK AT MOST 1048576: true; the input reads as it did. -/
def markerWaitsUptoRow : OpenClaim := { program := "ytafcjciolekdkaagreat", sum := "415681ad40c5a220dfe7c072dea3a4c28ee8f14c4ae3f633e12c6824b17d8bf6", func := "estray/estraylaw24.MarkerWaits", spec := "markerWaits", unfollowed := true, recurses := true, plainKeys := false, apart := false, narrowed := true }
def MarkerWaitsUptoSaid : Prop := markerWaitsUptoRow.holds Tryz.pinned (OpenSpec.upto markerWaitsSpec)

end Rows
end Go.Proofs.YtafcjciolekdkaaGreat
