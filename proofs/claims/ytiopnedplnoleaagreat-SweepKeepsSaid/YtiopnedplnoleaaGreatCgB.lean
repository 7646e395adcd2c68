/- The closed facts of the seat's program that every law's proof needs, each on its own (in one declaration they take too much memory). -/
import Derived.Test.YtiopnedplnoleaaGreatCgA
namespace Go.Proofs.YtiopnedplnoleaaGreat
open Go.ChangeShapes Go.WideShapes Go.ChangeAt Go.RowKit Go.Deep

abbrev cX : OpenClaim := { program := "", sum := "", func := "", spec := "", unfollowed := true, recurses := true, plainKeys := false, apart := false }
theorem and2 {a b : Bool} (h : a = true) (k : b = true) : (a && b) = true := by rw [h, k]; rfl
theorem pf_mapsRowed : mapsRowed Tryz.prog = true := by kernel_rfl
theorem pf_stops : (Tryz.prog.stops == []) = true := by kernel_rfl
theorem pf_stopKnobs : (Tryz.prog.stopKnobs == []) = true := by kernel_rfl
theorem pf_plainKeys : (cX.plainKeys == Tryz.prog.plainKeys) = true := by kernel_rfl
theorem pf_stopsHeard : Tryz.prog.stopsHeard = true := by kernel_rfl
theorem pf_mayEnter : Tryz.prog.mayEnter = true := by kernel_rfl
theorem pf_lifted : (cX.lifted == Tryz.prog.liftsFinal) = true := by kernel_rfl
theorem pf_make : (Tryz.prog.make == some cX.make) = true := by kernel_rfl

end Go.Proofs.YtiopnedplnoleaaGreat
