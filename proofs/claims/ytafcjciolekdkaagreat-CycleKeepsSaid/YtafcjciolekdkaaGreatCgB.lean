/- The closed facts of the seat's program that every law's proof needs, each on its own (in one declaration they take too much memory). -/
import Derived.Test.YtafcjciolekdkaaGreatCgA
namespace Go.Proofs.YtafcjciolekdkaaGreat
open Go.ChangeShapes Go.WideShapes Go.ChangeAt Go.RowKit Go.Deep

abbrev cX : OpenClaim := { program := "", sum := "", func := "", spec := "", unfollowed := true, recurses := true, plainKeys := false, apart := false }
theorem and2 {a b : Bool} (h : a = true) (k : b = true) : (a && b) = true := by rw [h, k]; rfl
theorem pf_mapsRowed : mapsRowed Tryz.prog = true := by kernel_rfl
theorem pf_stops : (Tryz.prog.stops == []) = true := by kernel_rfl
theorem pf_stopKnobs : (Tryz.prog.stopKnobs == []) = true := by kernel_rfl
theorem pf_plainKeys : (cX.plainKeys == Tryz.prog.plainKeys) = true := by kernel_rfl
theorem pf_stopsHeard : Tryz.prog.stopsHeard = true := by kernel_rfl
def headChars : List Char := ['h', 'a', 'r', 'n', 'e', 's', 's', ' ', '9', 'f', '3', '0', 'd', '3', '1', 'd', 'd', '1', '9', '8', 'd', 'b', '5', '1', '2', '4', '4', 'c', '4', '4', '2', '6', 'c', '1', '3', '2', 'e', '9', '1', '6', 'a', 'a', 'c', 'f', '8', '2', 'c', '1', '2', '1', '2', 'e', 'f', '6', '5', '8', '3', '5', '8', '8', 'e', '6', '3', '9', 'b', 'c', '5', '7', 'd', 'e', '6', 'b', ' ', 'c', 'u', 't', ' ', 'a', 't', ' ', 'e', 's', 't', 'r', 'a', 'y', '/', 'e', 's', 't', 'r', 'a', 'y', 'l', 'a', 'w', '2', '5', '.', 'S', 'w', 'e', 'e', 'p', 'K', 'e', 'e', 'p', 's', ' ', 'e', 's', 't', 'r', 'a', 'y', '/', 'e', 's', 't', 'r', 'a', 'y', 'l', 'a', 'w', '2', '5', '.', 'S', 'w', 'e', 'e', 'p', 'A', 'g', 'a', 'i', 'n', ' ', 'e', 's', 't', 'r', 'a', 'y', '/', 'e', 's', 't', 'r', 'a', 'y', 'l', 'a', 'w', '2', '6', '.', 'C', 'y', 'c', 'l', 'e', 'M', 'a', 'k', 'e', 's', ' ', 'e', 's', 't', 'r', 'a', 'y', '/', 'e', 's', 't', 'r', 'a', 'y', 'l', 'a', 'w', '2', '6', '.', 'C', 'y', 'c', 'l', 'e', 'E', 'n', 'd', 's', ' ', 'e', 's', 't', 'r', 'a', 'y', '/', 'e', 's', 't', 'r', 'a', 'y', 'l', 'a', 'w', '2', '6', '.', 'C', 'y', 'c', 'l', 'e', 'K', 'e', 'e', 'p', 's', ' ', 'e', 's', 't', 'r', 'a', 'y', '/', 'e', 's', 't', 'r', 'a', 'y', 'l', 'a', 'w', '2', '6', '.', 'C', 'y', 'c', 'l', 'e', 'N', 'i', 'l', ' ', 'e', 's', 't', 'r', 'a', 'y', '/', 'e', 's', 't', 'r', 'a', 'y', 'l', 'a', 'w', '2', '4', '.', 'M', 'a', 'r', 'k', 'e', 'r', 'W', 'a', 'i', 't', 's']
def headWords : List (List Char) := [['c', 'u', 't'], ['a', 't'], ['e', 's', 't', 'r', 'a', 'y', '/', 'e', 's', 't', 'r', 'a', 'y', 'l', 'a', 'w', '2', '5', '.', 'S', 'w', 'e', 'e', 'p', 'K', 'e', 'e', 'p', 's'], ['e', 's', 't', 'r', 'a', 'y', '/', 'e', 's', 't', 'r', 'a', 'y', 'l', 'a', 'w', '2', '5', '.', 'S', 'w', 'e', 'e', 'p', 'A', 'g', 'a', 'i', 'n'], ['e', 's', 't', 'r', 'a', 'y', '/', 'e', 's', 't', 'r', 'a', 'y', 'l', 'a', 'w', '2', '6', '.', 'C', 'y', 'c', 'l', 'e', 'M', 'a', 'k', 'e', 's'], ['e', 's', 't', 'r', 'a', 'y', '/', 'e', 's', 't', 'r', 'a', 'y', 'l', 'a', 'w', '2', '6', '.', 'C', 'y', 'c', 'l', 'e', 'E', 'n', 'd', 's'], ['e', 's', 't', 'r', 'a', 'y', '/', 'e', 's', 't', 'r', 'a', 'y', 'l', 'a', 'w', '2', '6', '.', 'C', 'y', 'c', 'l', 'e', 'K', 'e', 'e', 'p', 's'], ['e', 's', 't', 'r', 'a', 'y', '/', 'e', 's', 't', 'r', 'a', 'y', 'l', 'a', 'w', '2', '6', '.', 'C', 'y', 'c', 'l', 'e', 'N', 'i', 'l'], ['e', 's', 't', 'r', 'a', 'y', '/', 'e', 's', 't', 'r', 'a', 'y', 'l', 'a', 'w', '2', '4', '.', 'M', 'a', 'r', 'k', 'e', 'r', 'W', 'a', 'i', 't', 's']]
theorem head_is : Tryz.prog.initOrder = String.ofList headChars := by kernel_rfl
theorem head_chars : Tryz.prog.initOrder.toList = headChars := by rw [head_is, String.toList_ofList]
theorem head_words0 : behindMainWord (wordsSigns headChars) = headWords := by kernel_rfl
theorem head_words : behindMainWord (wordsSigns Tryz.prog.initOrder.toList) = headWords := by rw [head_chars]; exact head_words0
theorem make_of {P : Program} (h : behindMainWord (wordsSigns P.initOrder.toList) = headWords) : (P.make == some cX.make) = true := by
  unfold Program.make; rw [h]; simp [headWords]; done
theorem mayEnter_of {P : Program} (h : behindMainWord (wordsSigns P.initOrder.toList) = headWords) (h1 : P.laysLater = false) (h2 : P.bearsReflect = false) (h3 : P.doorRows.isEmpty = true) : P.mayEnter = true := by
  have h4 : P.doorRows = [] := List.isEmpty_iff.1 h3
  unfold Program.mayEnter Program.doorFits; rw [h, h1, h2, h4]; simp [headWords, stripLifts, liftWords]; done
theorem lifts_of {P : Program} (h : behindMainWord (wordsSigns P.initOrder.toList) = headWords) : (cX.lifted == P.liftsFinal) = true := by
  unfold Program.liftsFinal Program.headLifts; rw [h]; simp [headWords, stripLifts, liftWords]; done
theorem pf_laysLater : Tryz.prog.laysLater = false := by kernel_rfl
theorem pf_reflect : Tryz.prog.bearsReflect = false := by kernel_rfl
theorem pf_doors : Tryz.prog.doorRows.isEmpty = true := by kernel_rfl
theorem pf_mayEnter : Tryz.prog.mayEnter = true := mayEnter_of head_words pf_laysLater pf_reflect pf_doors
theorem pf_lifted : (cX.lifted == Tryz.prog.liftsFinal) = true := lifts_of head_words
theorem pf_make : (Tryz.prog.make == some cX.make) = true := make_of head_words
end Go.Proofs.YtafcjciolekdkaaGreat
