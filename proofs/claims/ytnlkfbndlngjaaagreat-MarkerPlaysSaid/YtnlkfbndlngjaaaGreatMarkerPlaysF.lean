import Derived.Test.YtnlkfbndlngjaaaGreatCgA
set_option maxRecDepth 100000
namespace Go.Proofs.YtnlkfbndlngjaaaGreat.markerPlays
open Go.ChangeShapes Go.WideShapes Go.ChangeAt Go.RowKit
theorem jf0:Rows.markerPlaysRow.wf (OpenSpec.ofChange Rows.markerPlaysSpec)=true:=by kernel_rfl
theorem jf3:Tryz.f5.params.all (Tryz.prog.readableRec ·)=true:=by kernel_rfl
theorem jf4:namedTie Tryz.prog Rows.markerPlaysRow.named Rows.markerPlaysSpec.vars=true:=by kernel_rfl
theorem jf5:(Rows.markerPlaysRow.stops == [])=true:=by kernel_rfl
theorem jf7:(Rows.markerPlaysRow.knobs == [])=true:=by kernel_rfl
theorem jf9:(Rows.markerPlaysRow.inPlace == Tryz.prog.inPlace 5)=true:=by kernel_rfl
theorem jf10:(Rows.markerPlaysRow.unfollowed == Tryz.prog.unfollowed 5)=true:=by kernel_rfl
theorem jf11:(Rows.markerPlaysRow.recurses == Tryz.prog.recurses 5)=true:=by kernel_rfl
theorem jf12:(Rows.markerPlaysRow.named == Tryz.prog.varsNamed 5)=true:=by kernel_rfl
theorem jf13:(Rows.markerPlaysRow.maps == (Tryz.f5.params.toList ++ Rows.markerPlaysSpec.plain.varTypes Tryz.prog).any (Tryz.prog.mapsRec ·))=true:=by kernel_rfl
theorem jf14:(Rows.markerPlaysRow.ifaces == (Tryz.f5.params.toList ++ Rows.markerPlaysSpec.plain.varTypes Tryz.prog).any (Tryz.prog.ifacesRec ·))=true:=by kernel_rfl
theorem jf15:(Rows.markerPlaysRow.mapsOut == Tryz.prog.mapsAmong Tryz.f5.resultTypes.toList)=true:=by kernel_rfl
theorem jf16:(Rows.markerPlaysRow.loops == (Tryz.f5.params.toList ++ Rows.markerPlaysSpec.plain.varTypes Tryz.prog).any (Tryz.prog.loopsFrom ·))=true:=by kernel_rfl
theorem jf17:(Rows.markerPlaysRow.wideKeys == (Tryz.f5.params.toList ++ Rows.markerPlaysSpec.plain.varTypes Tryz.prog ++ Tryz.f5.resultTypes.toList).any (Tryz.prog.wideKeysFrom ·))=true:=by kernel_rfl
theorem jf18:Rows.markerPlaysSpec.vars.all (Tryz.prog.varReadable ·)=true:=by kernel_rfl
theorem jf19:Tryz.f5.resultTypes.all (fun t=>Tryz.prog.readableRec t && decide (t<Tryz.prog.types.size))=true:=by kernel_rfl
theorem jf20:(Rows.markerPlaysRow.ifacesOut == Tryz.f5.resultTypes.toList.any (Tryz.prog.ifacesRec ·))=true:=by kernel_rfl
theorem jf21:(Rows.markerPlaysRow.loopsOut == Tryz.f5.resultTypes.toList.any (Tryz.prog.loopsFrom ·))=true:=by kernel_rfl
theorem jf23:Rows.markerPlaysRow.shortTexts.isNone=true:=by kernel_rfl
theorem jf28:(Rows.markerPlaysRow.kinds == (if Rows.markerPlaysRow.domain.isEmpty then [] else Tryz.f5.params.toList.map fun t=>match Tryz.prog.underlying t with | some (.int k)=>some k | _=>none))=true:=by kernel_rfl
theorem jf29:(Rows.markerPlaysRow.pinned == Rows.markerPlaysRow.pinnedBy)=true:=by kernel_rfl
theorem jf30:(Rows.markerPlaysRow.veiled == (Tryz.f5.params.toList ++ Rows.markerPlaysSpec.plain.varTypes Tryz.prog ++ Tryz.f5.resultTypes.toList).any (Tryz.prog.veiledRec ·))=true:=by kernel_rfl
theorem jf31:Rows.markerPlaysRow.veiledFits Tryz.prog Tryz.f5.params.toList (Tryz.f5.params.toList ++ Rows.markerPlaysSpec.plain.varTypes Tryz.prog ++ Tryz.f5.resultTypes.toList)=true:=by kernel_rfl
theorem jfn:Tryz.prog.funcNamed Rows.markerPlaysRow.func=some 5:=by kernel_rfl
theorem closed:joinedFacts Tryz.prog 5 Tryz.f5 Rows.markerPlaysSpec Rows.markerPlaysRow=true:=
 (and2 (and2 (and2 (and2 (and2 (and2 (and2 (and2 (and2 (and2 (and2 (and2 (and2 (and2 (and2 (and2 (and2 (and2 (and2 (and2 (and2 (and2 (and2 (and2 (and2 (and2 (and2 (and2 (and2 (and2 (and2 jf0 Tryz.laidOut) pf_mapsRowed) jf3) jf4) jf5) pf_stops) jf7) pf_stopKnobs) jf9) jf10) jf11) jf12) jf13) jf14) jf15) jf16) jf17) jf18) jf19) jf20) jf21) pf_plainKeys) jf23) pf_stopsHeard) pf_mayEnter) pf_lifted) pf_make) jf28) jf29) jf30) jf31)
end Go.Proofs.YtnlkfbndlngjaaaGreat.markerPlays
