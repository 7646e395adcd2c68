/-
  No cell of these rows narrows 'for every input' (looked for: loops, veiled, ifaces, maps, wideKeys, modest, calm, conditions, laid).
  DERIVED. THE GIVEN ROWS OF THIS SEAT. 6 by the template 'for every input the law returns true; each argument reads behind the call as it read before'; 0 by the template 'total and deterministic' (their statements: YtmpfhfabmcpiaaaTotals.lean).
  GIVEN WITH THE SEED: the statements are not yours to turn. If you find one false, say at which input.
  Laid BY PROGRAM, IN A SANDBOX (cutbox-rows.mjs): the forced cells as the released guide's own fill.sh prints them over the translation 1a99dfd4a700a7a1… (all of the seat's roots in one cut). By AI agents, Wed Nov 11 2026. No macro, syntax, notation, axiom, sorry.
-/
import Derived.Test.YtmpfhfabmcpiaaaChecked
import GoSem.Claim
import GoSem.ClaimJoined
import GoSem.ClaimMapViews
import Derived.JoinedTies
import Derived.KernelRfl
namespace Go.Proofs.Ytmpfhfabmcpiaaa
/- THE CELL 'sum', in the pinned program and in every row, IS THE sha256 OF THE DUMP (.gsa) THAT YtmpfhfabmcpiaaaProg.lean LOADS. Nothing in Lean hashes anything: it is a label: what it is worth is what the hold of that sum in a sandbox is worth. -/
noncomputable def Try.pinned : Pinned := { name := "ytmpfhfabmcpiaaa", sum := "1a99dfd4a700a7a1e27ded1e32f097b6f74acbc4bc79a3bd379b6fed469b0239", checked := Try.checked }
namespace Rows
def none {H : Type} : Left H := { results := [], args := [] }

/-- 'estraylaw35.QuotaWhole': WHATEVER THE INPUT: true; the input reads as it did. -/
def quotaWholeSpec : ChangeSpec := { name := "quotaWhole", fn := fun _ => fun
  | [d1, d2] => { results := [.lit (.bool true)], args := [d1, d2] }
  | _ => none }
def quotaWholeRow : OpenClaim := { program := "ytmpfhfabmcpiaaa", sum := "1a99dfd4a700a7a1e27ded1e32f097b6f74acbc4bc79a3bd379b6fed469b0239", func := "estray/estraylaw35.QuotaWhole", spec := "quotaWhole", unfollowed := true, recurses := true, apart := false }
def QuotaWholeSaid : Prop := quotaWholeRow.holds Try.pinned (OpenSpec.ofChange quotaWholeSpec)

/-- ITS FALSE NEIGHBOUR: 'it returns false'. Refute it at one input. -/
def quotaWholeWrong : ChangeSpec := { name := "quotaWhole", fn := fun _ => fun
  | [d1, d2] => { results := [.lit (.bool false)], args := [d1, d2] }
  | _ => none }
def QuotaWholeWrongFalsely : Prop := quotaWholeRow.holds Try.pinned (OpenSpec.ofChange quotaWholeWrong)

/-- 'estraylaw35.QuotaLast': WHATEVER THE INPUT: true; the input reads as it did. -/
def quotaLastSpec : ChangeSpec := { name := "quotaLast", fn := fun _ => fun
  | [d1, d2, d3, d4] => { results := [.lit (.bool true)], args := [d1, d2, d3, d4] }
  | _ => none }
def quotaLastRow : OpenClaim := { program := "ytmpfhfabmcpiaaa", sum := "1a99dfd4a700a7a1e27ded1e32f097b6f74acbc4bc79a3bd379b6fed469b0239", func := "estray/estraylaw35.QuotaLast", spec := "quotaLast", unfollowed := true, recurses := true, apart := false }
def QuotaLastSaid : Prop := quotaLastRow.holds Try.pinned (OpenSpec.ofChange quotaLastSpec)

/-- ITS FALSE NEIGHBOUR: 'it returns false'. Refute it at one input. -/
def quotaLastWrong : ChangeSpec := { name := "quotaLast", fn := fun _ => fun
  | [d1, d2, d3, d4] => { results := [.lit (.bool false)], args := [d1, d2, d3, d4] }
  | _ => none }
def QuotaLastWrongFalsely : Prop := quotaLastRow.holds Try.pinned (OpenSpec.ofChange quotaLastWrong)

/-- 'estraylaw35.QuotaEnds': WHATEVER THE INPUT: true; the input reads as it did. -/
def quotaEndsSpec : ChangeSpec := { name := "quotaEnds", fn := fun _ => fun
  | [] => { results := [.lit (.bool true)], args := [] }
  | _ => none }
def quotaEndsRow : OpenClaim := { program := "ytmpfhfabmcpiaaa", sum := "1a99dfd4a700a7a1e27ded1e32f097b6f74acbc4bc79a3bd379b6fed469b0239", func := "estray/estraylaw35.QuotaEnds", spec := "quotaEnds", unfollowed := true, recurses := true, apart := false }
def QuotaEndsSaid : Prop := quotaEndsRow.holds Try.pinned (OpenSpec.ofChange quotaEndsSpec)

/-- ITS FALSE NEIGHBOUR: 'it returns false'. Refute it at one input. -/
def quotaEndsWrong : ChangeSpec := { name := "quotaEnds", fn := fun _ => fun
  | [] => { results := [.lit (.bool false)], args := [] }
  | _ => none }
def QuotaEndsWrongFalsely : Prop := quotaEndsRow.holds Try.pinned (OpenSpec.ofChange quotaEndsWrong)

/-- 'estraylaw35.QuotaPlays': WHATEVER THE INPUT: true; the input reads as it did. -/
def quotaPlaysSpec : ChangeSpec := { name := "quotaPlays", fn := fun _ => fun
  | [d1, d2] => { results := [.lit (.bool true)], args := [d1, d2] }
  | _ => none }
def quotaPlaysRow : OpenClaim := { program := "ytmpfhfabmcpiaaa", sum := "1a99dfd4a700a7a1e27ded1e32f097b6f74acbc4bc79a3bd379b6fed469b0239", func := "estray/estraylaw35.QuotaPlays", spec := "quotaPlays", unfollowed := true, recurses := true, apart := false }
def QuotaPlaysSaid : Prop := quotaPlaysRow.holds Try.pinned (OpenSpec.ofChange quotaPlaysSpec)

/-- ITS FALSE NEIGHBOUR: 'it returns false'. Refute it at one input. -/
def quotaPlaysWrong : ChangeSpec := { name := "quotaPlays", fn := fun _ => fun
  | [d1, d2] => { results := [.lit (.bool false)], args := [d1, d2] }
  | _ => none }
def QuotaPlaysWrongFalsely : Prop := quotaPlaysRow.holds Try.pinned (OpenSpec.ofChange quotaPlaysWrong)

/-- 'estraylaw35.QuotaNil': WHATEVER THE INPUT: true; the input reads as it did. -/
def quotaNilSpec : ChangeSpec := { name := "quotaNil", fn := fun _ => fun
  | [d1, d2, d3] => { results := [.lit (.bool true)], args := [d1, d2, d3] }
  | _ => none }
def quotaNilRow : OpenClaim := { program := "ytmpfhfabmcpiaaa", sum := "1a99dfd4a700a7a1e27ded1e32f097b6f74acbc4bc79a3bd379b6fed469b0239", func := "estray/estraylaw35.QuotaNil", spec := "quotaNil", unfollowed := true, recurses := true, apart := false }
def QuotaNilSaid : Prop := quotaNilRow.holds Try.pinned (OpenSpec.ofChange quotaNilSpec)

/-- ITS FALSE NEIGHBOUR: 'it returns false'. Refute it at one input. -/
def quotaNilWrong : ChangeSpec := { name := "quotaNil", fn := fun _ => fun
  | [d1, d2, d3] => { results := [.lit (.bool false)], args := [d1, d2, d3] }
  | _ => none }
def QuotaNilWrongFalsely : Prop := quotaNilRow.holds Try.pinned (OpenSpec.ofChange quotaNilWrong)

/-- 'estraylaw35.QuotaStays': WHATEVER THE INPUT: true; the input reads as it did. -/
def quotaStaysSpec : ChangeSpec := { name := "quotaStays", fn := fun _ => fun
  | [d1, d2, d3, d4, d5] => { results := [.lit (.bool true)], args := [d1, d2, d3, d4, d5] }
  | _ => none }
def quotaStaysRow : OpenClaim := { program := "ytmpfhfabmcpiaaa", sum := "1a99dfd4a700a7a1e27ded1e32f097b6f74acbc4bc79a3bd379b6fed469b0239", func := "estray/estraylaw35.QuotaStays", spec := "quotaStays", unfollowed := true, recurses := true, apart := false }
def QuotaStaysSaid : Prop := quotaStaysRow.holds Try.pinned (OpenSpec.ofChange quotaStaysSpec)

/-- ITS FALSE NEIGHBOUR: 'it returns false'. Refute it at one input. -/
def quotaStaysWrong : ChangeSpec := { name := "quotaStays", fn := fun _ => fun
  | [d1, d2, d3, d4, d5] => { results := [.lit (.bool false)], args := [d1, d2, d3, d4, d5] }
  | _ => none }
def QuotaStaysWrongFalsely : Prop := quotaStaysRow.holds Try.pinned (OpenSpec.ofChange quotaStaysWrong)

/- THE SECOND FORM. 'bulk': how many values and letters a reading holds, each counted each time it is reached (what is shared counts as often as it is met; a slice's spare places count too). A statement '..UptoSaid' is the law's where the arguments, and the package variables that the reading takes, are together of bulk at most 1048576: NARROWER than '..Said'. Prove '..Said' where nothing that the law and all that it calls make is longer than what came in: it says more and counts as full. Else prove '..UptoSaid'. A law counts once. -/
mutual
def uptoBulk {H : Type} : DataW H → Nat
  | .lit (.string bytes) => bytes.length + 1
  | .lit _ => 1
  | .nil => 1
  | .ptr d => uptoBulk d + 1
  | .slice elems spare => uptoBulkAll elems + uptoBulkAll spare + 1
  | .agg parts => uptoBulkAll parts + 1
  | .iface _ d => uptoBulk d + 1
  | .map entries => uptoBulkEntries entries + 1
  | .held _ => 1
def uptoBulkAll {H : Type} : List (DataW H) → Nat
  | [] => 0
  | d :: r => uptoBulk d + uptoBulkAll r
def uptoBulkEntries {H : Type} : List (Lit × DataW H) → Nat
  | [] => 0
  | x :: r => uptoBulkEntry x + uptoBulkEntries r
def uptoBulkEntry {H : Type} : Lit × DataW H → Nat
  | (.string bytes, d) => bytes.length + uptoBulk d + 1
  | (_, d) => uptoBulk d + 1
 end
def uptoSmall : (H : Type) → List (DataW H) → Bool := fun _ ds => decide (uptoBulkAll ds ≤ 1048576)
def OpenSpec.upto (s : _root_.Go.ChangeSpec) : _root_.Go.OpenSpec := { _root_.Go.OpenSpec.ofChange s with cond := some uptoSmall }

/-- 'estraylaw35.QuotaWhole', WHERE WHAT IT READS IS OF BULK AT MOST 1048576: true; the input reads as it did. -/
def quotaWholeUptoRow : OpenClaim := { program := "ytmpfhfabmcpiaaa", sum := "1a99dfd4a700a7a1e27ded1e32f097b6f74acbc4bc79a3bd379b6fed469b0239", func := "estray/estraylaw35.QuotaWhole", spec := "quotaWhole", unfollowed := true, recurses := true, apart := false, narrowed := true }
def QuotaWholeUptoSaid : Prop := quotaWholeUptoRow.holds Try.pinned (OpenSpec.upto quotaWholeSpec)

/-- 'estraylaw35.QuotaLast', WHERE WHAT IT READS IS OF BULK AT MOST 1048576: true; the input reads as it did. -/
def quotaLastUptoRow : OpenClaim := { program := "ytmpfhfabmcpiaaa", sum := "1a99dfd4a700a7a1e27ded1e32f097b6f74acbc4bc79a3bd379b6fed469b0239", func := "estray/estraylaw35.QuotaLast", spec := "quotaLast", unfollowed := true, recurses := true, apart := false, narrowed := true }
def QuotaLastUptoSaid : Prop := quotaLastUptoRow.holds Try.pinned (OpenSpec.upto quotaLastSpec)

/-- 'estraylaw35.QuotaEnds', WHERE WHAT IT READS IS OF BULK AT MOST 1048576: true; the input reads as it did. -/
def quotaEndsUptoRow : OpenClaim := { program := "ytmpfhfabmcpiaaa", sum := "1a99dfd4a700a7a1e27ded1e32f097b6f74acbc4bc79a3bd379b6fed469b0239", func := "estray/estraylaw35.QuotaEnds", spec := "quotaEnds", unfollowed := true, recurses := true, apart := false, narrowed := true }
def QuotaEndsUptoSaid : Prop := quotaEndsUptoRow.holds Try.pinned (OpenSpec.upto quotaEndsSpec)

/-- 'estraylaw35.QuotaPlays', WHERE WHAT IT READS IS OF BULK AT MOST 1048576: true; the input reads as it did. -/
def quotaPlaysUptoRow : OpenClaim := { program := "ytmpfhfabmcpiaaa", sum := "1a99dfd4a700a7a1e27ded1e32f097b6f74acbc4bc79a3bd379b6fed469b0239", func := "estray/estraylaw35.QuotaPlays", spec := "quotaPlays", unfollowed := true, recurses := true, apart := false, narrowed := true }
def QuotaPlaysUptoSaid : Prop := quotaPlaysUptoRow.holds Try.pinned (OpenSpec.upto quotaPlaysSpec)

/-- 'estraylaw35.QuotaNil', WHERE WHAT IT READS IS OF BULK AT MOST 1048576: true; the input reads as it did. -/
def quotaNilUptoRow : OpenClaim := { program := "ytmpfhfabmcpiaaa", sum := "1a99dfd4a700a7a1e27ded1e32f097b6f74acbc4bc79a3bd379b6fed469b0239", func := "estray/estraylaw35.QuotaNil", spec := "quotaNil", unfollowed := true, recurses := true, apart := false, narrowed := true }
def QuotaNilUptoSaid : Prop := quotaNilUptoRow.holds Try.pinned (OpenSpec.upto quotaNilSpec)

/-- 'estraylaw35.QuotaStays', WHERE WHAT IT READS IS OF BULK AT MOST 1048576: true; the input reads as it did. -/
def quotaStaysUptoRow : OpenClaim := { program := "ytmpfhfabmcpiaaa", sum := "1a99dfd4a700a7a1e27ded1e32f097b6f74acbc4bc79a3bd379b6fed469b0239", func := "estray/estraylaw35.QuotaStays", spec := "quotaStays", unfollowed := true, recurses := true, apart := false, narrowed := true }
def QuotaStaysUptoSaid : Prop := quotaStaysUptoRow.holds Try.pinned (OpenSpec.upto quotaStaysSpec)

end Rows
end Go.Proofs.Ytmpfhfabmcpiaaa
