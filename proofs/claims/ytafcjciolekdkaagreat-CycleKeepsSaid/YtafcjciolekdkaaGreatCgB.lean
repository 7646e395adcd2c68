/- The closed facts of the seat's program that every law's proof needs, each on its own (in one declaration they take too much memory). -/
import Derived.Test.YtafcjciolekdkaaGreatCgA
namespace Go.Proofs.YtafcjciolekdkaaGreat
open Go.ChangeShapes Go.WideShapes Go.ChangeAt Go.RowKit Go.Deep

abbrev cX : OpenClaim := { program := "", sum := "", func := "", spec := "", unfollowed := true, recurses := true, plainKeys := false, apart := false }
theorem and2 {a b : Bool} (h : a = true) (k : b = true) : (a && b) = true := by rw [h, k]; rfl
theorem pf_mapsRowed : mapsRowed Tryz.prog = true := by kernel_rfl
theorem pf_stops : (Tryz.prog.stops == []) = true := by kernel_rfl
theorem pf_stopKnobs : (Tryz.prog.stopKnobs == []) = true := by kernel_rfl
theorem pf_plainKeys : (cX.plainKeys == Tryz.prog.plainKeys) = true := by kernel_rfl
theorem pf_stopsHeard : Tryz.prog.stopsHeard = true := by kernel_rfl
def headChars : List Char := ([104,97,114,110,101,115,115,32,57,102,51,48,100,51,49,100,100,49,57,56,100,98,53,49,50,52,52,99,52,52,50,54,99,49,51,50,101,57,49,54,97,97,99,102,56,50,99,49,50,49,50,101,102,54,53,56,51,53,56,56,101,54,51,57,98,99,53,55,100,101,54,98,32,99,117,116,32,97,116,32,101,115,116,114,97,121,47,101,115,116,114,97,121,108,97,119,50,53,46,83,119,101,101,112,75,101,101,112,115,32,101,115,116,114,97,121,47,101,115,116,114,97,121,108,97,119,50,53,46,83,119,101,101,112,65,103,97,105,110,32,101,115,116,114,97,121,47,101,115,116,114,97,121,108,97,119,50,54,46,67,121,99,108,101,77,97,107,101,115,32,101,115,116,114,97,121,47,101,115,116,114,97,121,108,97,119,50,54,46,67,121,99,108,101,69,110,100,115,32,101,115,116,114,97,121,47,101,115,116,114,97,121,108,97,119,50,54,46,67,121,99,108,101,75,101,101,112,115,32,101,115,116,114,97,121,47,101,115,116,114,97,121,108,97,119,50,54,46,67,121,99,108,101,78,105,108,32,101,115,116,114,97,121,47,101,115,116,114,97,121,108,97,119,50,52,46,77,97,114,107,101,114,87,97,105,116,115].map Char.ofNat)
def headWords : List (List Char) := [([99,117,116].map Char.ofNat), ([97,116].map Char.ofNat), ([101,115,116,114,97,121,47,101,115,116,114,97,121,108,97,119,50,53,46,83,119,101,101,112,75,101,101,112,115].map Char.ofNat), ([101,115,116,114,97,121,47,101,115,116,114,97,121,108,97,119,50,53,46,83,119,101,101,112,65,103,97,105,110].map Char.ofNat), ([101,115,116,114,97,121,47,101,115,116,114,97,121,108,97,119,50,54,46,67,121,99,108,101,77,97,107,101,115].map Char.ofNat), ([101,115,116,114,97,121,47,101,115,116,114,97,121,108,97,119,50,54,46,67,121,99,108,101,69,110,100,115].map Char.ofNat), ([101,115,116,114,97,121,47,101,115,116,114,97,121,108,97,119,50,54,46,67,121,99,108,101,75,101,101,112,115].map Char.ofNat), ([101,115,116,114,97,121,47,101,115,116,114,97,121,108,97,119,50,54,46,67,121,99,108,101,78,105,108].map Char.ofNat), ([101,115,116,114,97,121,47,101,115,116,114,97,121,108,97,119,50,52,46,77,97,114,107,101,114,87,97,105,116,115].map Char.ofNat)]
theorem head_is : Tryz.prog.initOrder = String.ofList headChars := by kernel_rfl
theorem head_chars : Tryz.prog.initOrder.toList = headChars := by rw [head_is, String.toList_ofList]
theorem head_words0 : behindMainWord (wordsSigns headChars) = headWords := by kernel_rfl
theorem head_words : behindMainWord (wordsSigns Tryz.prog.initOrder.toList) = headWords := by rw [head_chars]; exact head_words0
theorem make_of {P : Program} (h : behindMainWord (wordsSigns P.initOrder.toList) = headWords) : (P.make == some cX.make) = true := by
  unfold Program.make; rw [h]; simp [headWords]; done
theorem mayEnter_of {P : Program} (h : behindMainWord (wordsSigns P.initOrder.toList) = headWords) (h1 : P.laysLater = false) (h2 : P.bearsReflect = false) (h3 : P.doorRows.isEmpty = true) : P.mayEnter = true := by
  have h4 : P.doorRows = [] := List.isEmpty_iff.1 h3
  unfold Program.mayEnter Program.doorFits; rw [h, h1, h2, h4]; simp [headWords, stripLifts, liftWords]; done
theorem lifts_of {P : Program} (h : behindMainWord (wordsSigns P.initOrder.toList) = headWords) : (cX.lifted == P.liftsFinal) = true := by
  unfold Program.liftsFinal Program.headLifts; rw [h]; simp [headWords, stripLifts, liftWords]; done
theorem pf_laysLater : Tryz.prog.laysLater = false := by kernel_rfl
theorem pf_reflect : Tryz.prog.bearsReflect = false := by kernel_rfl
theorem pf_doors : Tryz.prog.doorRows.isEmpty = true := by kernel_rfl
theorem pf_mayEnter : Tryz.prog.mayEnter = true := mayEnter_of head_words pf_laysLater pf_reflect pf_doors
theorem pf_lifted : (cX.lifted == Tryz.prog.liftsFinal) = true := lifts_of head_words
theorem pf_make : (Tryz.prog.make == some cX.make) = true := make_of head_words
end Go.Proofs.YtafcjciolekdkaaGreat
