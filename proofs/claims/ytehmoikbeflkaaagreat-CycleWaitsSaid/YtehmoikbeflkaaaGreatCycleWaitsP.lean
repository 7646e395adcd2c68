/- The statement 'Rows.CycleWaitsSaid': for every input CycleWaits returns true, and its arguments read afterwards as before. No condition. -/
import Derived.Test.YtehmoikbeflkaaaGreatCfE
import Derived.Test.YtehmoikbeflkaaaGreatCgA
namespace Go.Proofs.YtehmoikbeflkaaaGreat.cycleWaits
open Go.ChangeShapes Go.WideShapes Go.ChangeAt Go.RowKit

set_option maxRecDepth 100000 in
theorem lifted (os : Os) (started : os.Started) (H : Type) (enc : TypeId × Value → H) :
    ReturnsInHanded {} Tryz.checked os 12 .any (Rows.cycleWaitsSpec.pre6 enc Tryz.prog Tryz.f12 Rows.cycleWaitsRow.domain false) (Rows.cycleWaitsSpec.post enc Tryz.prog Tryz.f12 false true false false) := by
  refine returnsInHanded_of_change (C := Tryz.checked) Tryz.own started (by kernel_rfl) Tryz.func12
    (ChangeSpec.witness6 (enc := enc) (C := Tryz.checked) false ⟨#[], #[.int .u8 0, .int .u8 0, .int .u8 0, .int .u8 0, .slice none 0 0], []⟩ 8 (by kernel_rfl) (by kernel_rfl) (by kernel_rfl) (by kernel_rfl)) ?_
  intro W base args ds gs before hval0 hW hcnd hsz
  have hval : ∀ (j : Nat) t v, Tryz.f12.params[j]? = some t → args[j]? = some v → Value.okWide Tryz.prog W .any base t v := hval0
  have hW' := hW
  obtain ⟨p, q, hA0, hV, rfl, hfz, hnd⟩ := hW
  have hA : DataW.TrodAll enc Tryz.prog W 0 (fun _ => true) true Tryz.f12.params.toList args.toList ds p := hA0
  rw [Tryz.params12] at hA hval
  obtain ⟨v0, vs0, d0, ds0, p0, q0, hargs, rfl, rfl, h0, r0⟩ := trodAll_cons hA
  obtain ⟨v1, vs1, d1, ds1, p1, q1, rfl, rfl, rfl, h1, r1⟩ := trodAll_cons r0
  obtain ⟨v2, vs2, d2, ds2, p2, q2, rfl, rfl, rfl, h2, r2⟩ := trodAll_cons r1
  obtain ⟨v3, vs3, d3, ds3, p3, q3, rfl, rfl, rfl, h3, r3⟩ := trodAll_cons r2
  obtain ⟨v4, vs4, d4, ds4, p4, q4, rfl, rfl, rfl, h4, r4⟩ := trodAll_cons r3
  obtain ⟨rfl, rfl, rfl⟩ := trodAll_nil r4
  obtain rfl : args = #[v0, v1, v2, v3, v4] := by cases args; simp_all
  obtain ⟨rfl, rfl⟩ := trodVars_none hV
  obtain ⟨a0, rfl, rfl, rfl, w0⟩ := open_int Tryz.underlying5 (hval 0 5 v0 rfl rfl) h0
  obtain ⟨a1, rfl, rfl, rfl, w1⟩ := open_int Tryz.underlying5 (hval 1 5 v1 rfl rfl) h1
  obtain ⟨a2, rfl, rfl, rfl, w2⟩ := open_int Tryz.underlying5 (hval 2 5 v2 rfl rfl) h2
  obtain ⟨a3, rfl, rfl, rfl, w3⟩ := open_int Tryz.underlying5 (hval 3 5 v3 rfl rfl) h3
  have o4 := hval 4 104 v4 rfl rfl
  clear hA0 hval0
  refine (cycleWaits_law a0 w0 a1 w1 a2 w2 a3 w3 v4 d4 p4 o4 h4 W rfl).mono fun e W' ⟨he, hg⟩ => ?_
  subst he
  exact ⟨_, rfl, law_post Tryz.laidOut (of_decide_eq_true (by kernel_rfl)) rfl rfl Tryz.underlying4 ⟨rfl, rfl, rfl⟩ hW' hg⟩
theorem jf0 : Rows.cycleWaitsRow.wf (OpenSpec.ofChange Rows.cycleWaitsSpec) = true := by kernel_rfl
theorem jf3 : Tryz.f12.params.all (Tryz.prog.readableRec ·) = true := by kernel_rfl
theorem jf4 : namedTie Tryz.prog Rows.cycleWaitsRow.named Rows.cycleWaitsSpec.vars = true := by kernel_rfl
theorem jf5 : (Rows.cycleWaitsRow.stops == []) = true := by kernel_rfl
theorem jf7 : (Rows.cycleWaitsRow.knobs == []) = true := by kernel_rfl
theorem jf9 : (Rows.cycleWaitsRow.inPlace == Tryz.prog.inPlace 12) = true := by kernel_rfl
theorem jf10 : (Rows.cycleWaitsRow.unfollowed == Tryz.prog.unfollowed 12) = true := by kernel_rfl
theorem jf11 : (Rows.cycleWaitsRow.recurses == Tryz.prog.recurses 12) = true := by kernel_rfl
theorem jf12 : (Rows.cycleWaitsRow.named == Tryz.prog.varsNamed 12) = true := by kernel_rfl
theorem jf13 : (Rows.cycleWaitsRow.maps == (Tryz.f12.params.toList ++ Rows.cycleWaitsSpec.plain.varTypes Tryz.prog).any (Tryz.prog.mapsRec ·)) = true := by kernel_rfl
theorem jf14 : (Rows.cycleWaitsRow.ifaces == (Tryz.f12.params.toList ++ Rows.cycleWaitsSpec.plain.varTypes Tryz.prog).any (Tryz.prog.ifacesRec ·)) = true := by kernel_rfl
theorem jf15 : (Rows.cycleWaitsRow.mapsOut == Tryz.prog.mapsAmong Tryz.f12.resultTypes.toList) = true := by kernel_rfl
theorem jf16 : (Rows.cycleWaitsRow.loops == (Tryz.f12.params.toList ++ Rows.cycleWaitsSpec.plain.varTypes Tryz.prog).any (Tryz.prog.loopsFrom ·)) = true := by kernel_rfl
theorem jf17 : (Rows.cycleWaitsRow.wideKeys == (Tryz.f12.params.toList ++ Rows.cycleWaitsSpec.plain.varTypes Tryz.prog ++ Tryz.f12.resultTypes.toList).any (Tryz.prog.wideKeysFrom ·)) = true := by kernel_rfl
theorem jf18 : Rows.cycleWaitsSpec.vars.all (Tryz.prog.varReadable ·) = true := by kernel_rfl
theorem jf19 : Tryz.f12.resultTypes.all (fun t => Tryz.prog.readableRec t && decide (t < Tryz.prog.types.size)) = true := by kernel_rfl
theorem jf20 : (Rows.cycleWaitsRow.ifacesOut == Tryz.f12.resultTypes.toList.any (Tryz.prog.ifacesRec ·)) = true := by kernel_rfl
theorem jf21 : (Rows.cycleWaitsRow.loopsOut == Tryz.f12.resultTypes.toList.any (Tryz.prog.loopsFrom ·)) = true := by kernel_rfl
theorem jf23 : Rows.cycleWaitsRow.shortTexts.isNone = true := by kernel_rfl
theorem jf28 : (Rows.cycleWaitsRow.kinds == (if Rows.cycleWaitsRow.domain.isEmpty then [] else Tryz.f12.params.toList.map fun t => match Tryz.prog.underlying t with | some (.int k) => some k | _ => none)) = true := by kernel_rfl
theorem jf29 : (Rows.cycleWaitsRow.pinned == Rows.cycleWaitsRow.pinnedBy) = true := by kernel_rfl
theorem jf30 : (Rows.cycleWaitsRow.veiled == (Tryz.f12.params.toList ++ Rows.cycleWaitsSpec.plain.varTypes Tryz.prog ++ Tryz.f12.resultTypes.toList).any (Tryz.prog.veiledRec ·)) = true := by kernel_rfl
theorem jf31 : Rows.cycleWaitsRow.veiledFits Tryz.prog Tryz.f12.params.toList (Tryz.f12.params.toList ++ Rows.cycleWaitsSpec.plain.varTypes Tryz.prog ++ Tryz.f12.resultTypes.toList) = true := by kernel_rfl
theorem jfn : Tryz.prog.funcNamed Rows.cycleWaitsRow.func = some 12 := by kernel_rfl
set_option maxRecDepth 100000 in
theorem closed : joinedFacts Tryz.prog 12 Tryz.f12 Rows.cycleWaitsSpec Rows.cycleWaitsRow = true :=
  (and2 (and2 (and2 (and2 (and2 (and2 (and2 (and2 (and2 (and2 (and2 (and2 (and2 (and2 (and2 (and2 (and2 (and2 (and2 (and2 (and2 (and2 (and2 (and2 (and2 (and2 (and2 (and2 (and2 (and2 (and2 jf0 Tryz.laidOut) pf_mapsRowed) jf3) jf4) jf5) pf_stops) jf7) pf_stopKnobs) jf9) jf10) jf11) jf12) jf13) jf14) jf15) jf16) jf17) jf18) jf19) jf20) jf21) pf_plainKeys) jf23) pf_stopsHeard) pf_mayEnter) pf_lifted) pf_make) jf28) jf29) jf30) jf31)
theorem proved : Rows.CycleWaitsSaid :=
  OpenClaim.holds_of_wide 12 Tryz.f12 rfl rfl rfl rfl rfl rfl rfl ⟨rfl, rfl, rfl, rfl, rfl⟩ rfl rfl rfl rfl rfl jfn Tryz.func12 closed
    (of_decide_eq_true (by kernel_rfl)) (by unfold Func.isWrapper; rw [if_neg (by decide +kernel)]; exact ⟨rfl, rfl⟩)
    (fun os started H enc _ => lifted os started H enc)
#print axioms proved
end Go.Proofs.YtehmoikbeflkaaaGreat.cycleWaits
