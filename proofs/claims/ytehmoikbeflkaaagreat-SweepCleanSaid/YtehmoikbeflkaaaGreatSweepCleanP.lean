/- The statement 'Rows.SweepCleanSaid': for every input SweepClean returns true, and its arguments read afterwards as before. No condition. -/
import Derived.Test.YtehmoikbeflkaaaGreatScD
import Derived.Test.YtehmoikbeflkaaaGreatCgB
import Derived.Test.YtehmoikbeflkaaaGreatCgL
namespace Go.Proofs.YtehmoikbeflkaaaGreat.sweepClean
open Go.ChangeShapes Go.WideShapes Go.ChangeAt Go.RowKit

set_option maxRecDepth 100000 in
theorem lifted (os : Os) (started : os.Started) (H : Type) (enc : TypeId × Value → H) :
    ReturnsInHanded {} Tryz.checked os 10 .any (Rows.sweepCleanSpec.pre6 enc Tryz.prog Tryz.f10 Rows.sweepCleanRow.domain false) (Rows.sweepCleanSpec.post enc Tryz.prog Tryz.f10 false true false false) := by
  refine returnsInHanded_of_change (C := Tryz.checked) Tryz.own started (by kernel_rfl) Tryz.func10
    (ChangeSpec.witness6 (enc := enc) (C := Tryz.checked) false ⟨#[], #[.agg #[.int .u8 0, .int .u8 0, .slice none 0 0, .slice none 0 0]], []⟩ 8 (by kernel_rfl) (by kernel_rfl) (by kernel_rfl) (by kernel_rfl)) ?_
  intro W base args ds gs before hval0 hW hcnd hsz
  have hval : ∀ (j : Nat) t v, Tryz.f10.params[j]? = some t → args[j]? = some v → Value.okWide Tryz.prog W .any base t v := hval0
  have hW' := hW
  obtain ⟨p, q, hA0, hV, rfl, hfz, hnd⟩ := hW
  have hA : DataW.TrodAll enc Tryz.prog W 0 (fun _ => true) true Tryz.f10.params.toList args.toList ds p := hA0
  rw [Tryz.params10] at hA hval
  obtain ⟨v0, vs0, d0, ds0, p0, q0, hargs, rfl, rfl, h0, r0⟩ := trodAll_cons hA
  obtain ⟨rfl, rfl, rfl⟩ := trodAll_nil r0
  obtain rfl : args = #[v0] := by cases args; simp_all
  obtain ⟨rfl, rfl⟩ := trodVars_none hV
  have o0 := hval 0 92 v0 rfl rfl
  clear hA0 hval0
  refine (sweepClean_law v0 d0 p0 o0 h0 W rfl).mono fun e W' ⟨he, hg⟩ => ?_
  subst he
  exact ⟨_, rfl, law_post Tryz.laidOut (of_decide_eq_true (by kernel_rfl)) rfl rfl Tryz.underlying4 ⟨rfl, rfl, rfl⟩ hW' hg⟩
theorem jf0 : Rows.sweepCleanRow.wf (OpenSpec.ofChange Rows.sweepCleanSpec) = true := by kernel_rfl
theorem jf3 : Tryz.f10.params.all (Tryz.prog.readableRec ·) = true := by kernel_rfl
theorem jf4 : namedTie Tryz.prog Rows.sweepCleanRow.named Rows.sweepCleanSpec.vars = true := by kernel_rfl
theorem jf5 : (Rows.sweepCleanRow.stops == []) = true := by kernel_rfl
theorem jf7 : (Rows.sweepCleanRow.knobs == []) = true := by kernel_rfl
theorem jf9 : (Rows.sweepCleanRow.inPlace == Tryz.prog.inPlace 10) = true := by kernel_rfl
theorem jf10 : (Rows.sweepCleanRow.unfollowed == Tryz.prog.unfollowed 10) = true := by kernel_rfl
theorem jf11 : (Rows.sweepCleanRow.recurses == Tryz.prog.recurses 10) = true := by kernel_rfl
theorem jf12 : (Rows.sweepCleanRow.named == Tryz.prog.varsNamed 10) = true := by kernel_rfl
theorem jf13 : (Rows.sweepCleanRow.maps == (Tryz.f10.params.toList ++ Rows.sweepCleanSpec.plain.varTypes Tryz.prog).any (Tryz.prog.mapsRec ·)) = true := by kernel_rfl
theorem jf14 : (Rows.sweepCleanRow.ifaces == (Tryz.f10.params.toList ++ Rows.sweepCleanSpec.plain.varTypes Tryz.prog).any (Tryz.prog.ifacesRec ·)) = true := by kernel_rfl
theorem jf15 : (Rows.sweepCleanRow.mapsOut == Tryz.prog.mapsAmong Tryz.f10.resultTypes.toList) = true := by kernel_rfl
theorem jf16 : (Rows.sweepCleanRow.loops == (Tryz.f10.params.toList ++ Rows.sweepCleanSpec.plain.varTypes Tryz.prog).any (Tryz.prog.loopsFrom ·)) = true := by kernel_rfl
theorem jf17 : (Rows.sweepCleanRow.wideKeys == (Tryz.f10.params.toList ++ Rows.sweepCleanSpec.plain.varTypes Tryz.prog ++ Tryz.f10.resultTypes.toList).any (Tryz.prog.wideKeysFrom ·)) = true := by kernel_rfl
theorem jf18 : Rows.sweepCleanSpec.vars.all (Tryz.prog.varReadable ·) = true := by kernel_rfl
theorem jf19 : Tryz.f10.resultTypes.all (fun t => Tryz.prog.readableRec t && decide (t < Tryz.prog.types.size)) = true := by kernel_rfl
theorem jf20 : (Rows.sweepCleanRow.ifacesOut == Tryz.f10.resultTypes.toList.any (Tryz.prog.ifacesRec ·)) = true := by kernel_rfl
theorem jf21 : (Rows.sweepCleanRow.loopsOut == Tryz.f10.resultTypes.toList.any (Tryz.prog.loopsFrom ·)) = true := by kernel_rfl
theorem jf23 : Rows.sweepCleanRow.shortTexts.isNone = true := by kernel_rfl
theorem jf28 : (Rows.sweepCleanRow.kinds == (if Rows.sweepCleanRow.domain.isEmpty then [] else Tryz.f10.params.toList.map fun t => match Tryz.prog.underlying t with | some (.int k) => some k | _ => none)) = true := by kernel_rfl
theorem jf29 : (Rows.sweepCleanRow.pinned == Rows.sweepCleanRow.pinnedBy) = true := by kernel_rfl
theorem jf30 : (Rows.sweepCleanRow.veiled == (Tryz.f10.params.toList ++ Rows.sweepCleanSpec.plain.varTypes Tryz.prog ++ Tryz.f10.resultTypes.toList).any (Tryz.prog.veiledRec ·)) = true := by kernel_rfl
theorem jf31 : Rows.sweepCleanRow.veiledFits Tryz.prog Tryz.f10.params.toList (Tryz.f10.params.toList ++ Rows.sweepCleanSpec.plain.varTypes Tryz.prog ++ Tryz.f10.resultTypes.toList) = true := by kernel_rfl
theorem jfn : Tryz.prog.funcNamed Rows.sweepCleanRow.func = some 10 := by kernel_rfl
set_option maxRecDepth 100000 in
theorem closed : joinedFacts Tryz.prog 10 Tryz.f10 Rows.sweepCleanSpec Rows.sweepCleanRow = true :=
  (and2 (and2 (and2 (and2 (and2 (and2 (and2 (and2 (and2 (and2 (and2 (and2 (and2 (and2 (and2 (and2 (and2 (and2 (and2 (and2 (and2 (and2 (and2 (and2 (and2 (and2 (and2 (and2 (and2 (and2 (and2 jf0 Tryz.laidOut) pf_mapsRowed) jf3) jf4) jf5) pf_stops) jf7) pf_stopKnobs) jf9) jf10) jf11) jf12) jf13) jf14) jf15) jf16) jf17) jf18) jf19) jf20) jf21) pf_plainKeys) jf23) pf_stopsHeard) pf_mayEnter) pf_lifted) pf_make) jf28) jf29) jf30) jf31)
theorem proved : Rows.SweepCleanSaid :=
  OpenClaim.holds_of_wide 10 Tryz.f10 rfl rfl rfl rfl rfl rfl rfl ⟨rfl, rfl, rfl, rfl, rfl⟩ rfl rfl rfl rfl rfl jfn Tryz.func10 closed
    (of_decide_eq_true (by kernel_rfl)) (by unfold Func.isWrapper; rw [if_neg (by decide +kernel)]; exact ⟨rfl, rfl⟩)
    (fun os started H enc _ => lifted os started H enc)
#print axioms proved
end Go.Proofs.YtehmoikbeflkaaaGreat.sweepClean
