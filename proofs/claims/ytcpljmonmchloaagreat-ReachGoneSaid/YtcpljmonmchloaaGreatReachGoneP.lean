/- The statement 'Rows.ReachGoneSaid': for every input ReachGone returns true, and its arguments read afterwards as before. No condition. -/
import Derived.Test.YtcpljmonmchloaaGreatRcR
import Derived.Test.YtcpljmonmchloaaGreatCgB
namespace Go.Proofs.YtcpljmonmchloaaGreat.reachGone
open Go.ChangeShapes Go.WideShapes Go.ChangeAt Go.RowKit

set_option maxRecDepth 100000 in
theorem lifted (os : Os) (started : os.Started) (H : Type) (enc : TypeId × Value → H) :
    ReturnsInHanded {} Tryz.checked os 10 .any (Rows.reachGoneSpec.pre6 enc Tryz.prog Tryz.f10 Rows.reachGoneRow.domain false) (Rows.reachGoneSpec.post enc Tryz.prog Tryz.f10 false true false false) := by
  refine returnsInHanded_of_change (C := Tryz.checked) Tryz.own started (by kernel_rfl) Tryz.func10
    (ChangeSpec.witness6 (enc := enc) (C := Tryz.checked) false ⟨#[], #[.slice none 0 0, .slice none 0 0], []⟩ 8 (by kernel_rfl) (by kernel_rfl) (by kernel_rfl) (by kernel_rfl)) ?_
  intro W base args ds gs before hval0 hW hcnd hsz
  have hval : ∀ (j : Nat) t v, Tryz.f10.params[j]? = some t → args[j]? = some v → Value.okWide Tryz.prog W .any base t v := hval0
  have hW' := hW
  obtain ⟨p, q, hA0, hV, rfl, hfz, hnd⟩ := hW
  have hA : DataW.TrodAll enc Tryz.prog W 0 (fun _ => true) true Tryz.f10.params.toList args.toList ds p := hA0
  rw [Tryz.params10] at hA hval
  obtain ⟨v0, vs0, d0, ds0, p0, q0, hargs, rfl, rfl, h0, r0⟩ := trodAll_cons hA
  obtain ⟨v1, vs1, d1, ds1, p1, q1, rfl, rfl, rfl, h1, r1⟩ := trodAll_cons r0
  obtain ⟨rfl, rfl, rfl⟩ := trodAll_nil r1
  obtain rfl : args = #[v0, v1] := by cases args; simp_all
  obtain ⟨rfl, rfl⟩ := trodVars_none hV
  have o0 := hval 0 56 v0 rfl rfl
  have o1 := hval 1 71 v1 rfl rfl
  clear hA0 hval0
  refine (reachGone_law v0 d0 p0 o0 h0 v1 d1 p1 o1 h1 W rfl).mono fun e W' ⟨he, hg⟩ => ?_
  subst he
  exact ⟨_, rfl, law_post Tryz.laidOut (of_decide_eq_true (by kernel_rfl)) rfl rfl Tryz.underlying4 ⟨rfl, rfl, rfl⟩ hW' hg⟩
theorem jf0 : Rows.reachGoneRow.wf (OpenSpec.ofChange Rows.reachGoneSpec) = true := by kernel_rfl
theorem jf3 : Tryz.f10.params.all (Tryz.prog.readableRec ·) = true := by kernel_rfl
theorem jf4 : namedTie Tryz.prog Rows.reachGoneRow.named Rows.reachGoneSpec.vars = true := by kernel_rfl
theorem jf5 : (Rows.reachGoneRow.stops == []) = true := by kernel_rfl
theorem jf7 : (Rows.reachGoneRow.knobs == []) = true := by kernel_rfl
theorem jf9 : (Rows.reachGoneRow.inPlace == Tryz.prog.inPlace 10) = true := by kernel_rfl
theorem jf10 : (Rows.reachGoneRow.unfollowed == Tryz.prog.unfollowed 10) = true := by kernel_rfl
theorem jf11 : (Rows.reachGoneRow.recurses == Tryz.prog.recurses 10) = true := by kernel_rfl
theorem jf12 : (Rows.reachGoneRow.named == Tryz.prog.varsNamed 10) = true := by kernel_rfl
theorem jf13 : (Rows.reachGoneRow.maps == (Tryz.f10.params.toList ++ Rows.reachGoneSpec.plain.varTypes Tryz.prog).any (Tryz.prog.mapsRec ·)) = true := by kernel_rfl
theorem jf14 : (Rows.reachGoneRow.ifaces == (Tryz.f10.params.toList ++ Rows.reachGoneSpec.plain.varTypes Tryz.prog).any (Tryz.prog.ifacesRec ·)) = true := by kernel_rfl
theorem jf15 : (Rows.reachGoneRow.mapsOut == Tryz.prog.mapsAmong Tryz.f10.resultTypes.toList) = true := by kernel_rfl
theorem jf16 : (Rows.reachGoneRow.loops == (Tryz.f10.params.toList ++ Rows.reachGoneSpec.plain.varTypes Tryz.prog).any (Tryz.prog.loopsFrom ·)) = true := by kernel_rfl
theorem jf17 : (Rows.reachGoneRow.wideKeys == (Tryz.f10.params.toList ++ Rows.reachGoneSpec.plain.varTypes Tryz.prog ++ Tryz.f10.resultTypes.toList).any (Tryz.prog.wideKeysFrom ·)) = true := by kernel_rfl
theorem jf18 : Rows.reachGoneSpec.vars.all (Tryz.prog.varReadable ·) = true := by kernel_rfl
theorem jf19 : Tryz.f10.resultTypes.all (fun t => Tryz.prog.readableRec t && decide (t < Tryz.prog.types.size)) = true := by kernel_rfl
theorem jf20 : (Rows.reachGoneRow.ifacesOut == Tryz.f10.resultTypes.toList.any (Tryz.prog.ifacesRec ·)) = true := by kernel_rfl
theorem jf21 : (Rows.reachGoneRow.loopsOut == Tryz.f10.resultTypes.toList.any (Tryz.prog.loopsFrom ·)) = true := by kernel_rfl
theorem jf23 : Rows.reachGoneRow.shortTexts.isNone = true := by kernel_rfl
theorem jf28 : (Rows.reachGoneRow.kinds == (if Rows.reachGoneRow.domain.isEmpty then [] else Tryz.f10.params.toList.map fun t => match Tryz.prog.underlying t with | some (.int k) => some k | _ => none)) = true := by kernel_rfl
theorem jf29 : (Rows.reachGoneRow.pinned == Rows.reachGoneRow.pinnedBy) = true := by kernel_rfl
theorem jf30 : (Rows.reachGoneRow.veiled == (Tryz.f10.params.toList ++ Rows.reachGoneSpec.plain.varTypes Tryz.prog ++ Tryz.f10.resultTypes.toList).any (Tryz.prog.veiledRec ·)) = true := by kernel_rfl
theorem jf31 : Rows.reachGoneRow.veiledFits Tryz.prog Tryz.f10.params.toList (Tryz.f10.params.toList ++ Rows.reachGoneSpec.plain.varTypes Tryz.prog ++ Tryz.f10.resultTypes.toList) = true := by kernel_rfl
theorem jfn : Tryz.prog.funcNamed Rows.reachGoneRow.func = some 10 := by kernel_rfl
set_option maxRecDepth 100000 in
theorem closed : joinedFacts Tryz.prog 10 Tryz.f10 Rows.reachGoneSpec Rows.reachGoneRow = true :=
  (and2 (and2 (and2 (and2 (and2 (and2 (and2 (and2 (and2 (and2 (and2 (and2 (and2 (and2 (and2 (and2 (and2 (and2 (and2 (and2 (and2 (and2 (and2 (and2 (and2 (and2 (and2 (and2 (and2 (and2 (and2 jf0 Tryz.laidOut) pf_mapsRowed) jf3) jf4) jf5) pf_stops) jf7) pf_stopKnobs) jf9) jf10) jf11) jf12) jf13) jf14) jf15) jf16) jf17) jf18) jf19) jf20) jf21) pf_plainKeys) jf23) pf_stopsHeard) pf_mayEnter) pf_lifted) pf_make) jf28) jf29) jf30) jf31)
theorem proved : Rows.ReachGoneSaid :=
  OpenClaim.holds_of_wide 10 Tryz.f10 rfl rfl rfl rfl rfl rfl rfl ⟨rfl, rfl, rfl, rfl, rfl⟩ rfl rfl rfl rfl rfl jfn Tryz.func10 closed
    (of_decide_eq_true (by kernel_rfl)) (by unfold Func.isWrapper; rw [if_neg (by decide +kernel)]; exact ⟨rfl, rfl⟩)
    (fun os started H enc _ => lifted os started H enc)
#print axioms proved
end Go.Proofs.YtcpljmonmchloaaGreat.reachGone
