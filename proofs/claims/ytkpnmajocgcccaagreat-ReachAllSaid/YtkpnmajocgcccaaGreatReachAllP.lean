/- The statement 'Rows.ReachAllSaid': for every input ReachAll returns true, and its arguments read afterwards as before. No condition. -/
import Derived.Test.YtkpnmajocgcccaaGreatRgQ
import Derived.Test.YtkpnmajocgcccaaGreatCgA
namespace Go.Proofs.YtkpnmajocgcccaaGreat.reachAll
open Go.ChangeShapes Go.WideShapes Go.ChangeAt Go.RowKit

set_option maxRecDepth 100000 in
theorem lifted (os : Os) (started : os.Started) (H : Type) (enc : TypeId × Value → H) :
    ReturnsInHanded {} Tryz.checked os 4 .any (Rows.reachAllSpec.pre6 enc Tryz.prog Tryz.f4 Rows.reachAllRow.domain false) (Rows.reachAllSpec.post enc Tryz.prog Tryz.f4 false true false false) := by
  refine returnsInHanded_of_change (C := Tryz.checked) Tryz.own started (by kernel_rfl) Tryz.func4
    (ChangeSpec.witness6 (enc := enc) (C := Tryz.checked) false ⟨#[], #[.int .i64 0, .int .i64 0, .int .u32 0, .slice none 0 0, .agg #[.int .i64 0, .int .u32 0]], []⟩ 8 (by kernel_rfl) (by kernel_rfl) (by kernel_rfl) (by kernel_rfl)) ?_
  intro W base args ds gs before hval0 hW hcnd hsz
  have hval : ∀ (j : Nat) t v, Tryz.f4.params[j]? = some t → args[j]? = some v → Value.okWide Tryz.prog W .any base t v := hval0
  have hW' := hW
  obtain ⟨p, q, hA0, hV, rfl, hfz, hnd⟩ := hW
  have hA : DataW.TrodAll enc Tryz.prog W 0 (fun _ => true) true Tryz.f4.params.toList args.toList ds p := hA0
  rw [Tryz.params4] at hA hval
  obtain ⟨v0, vs0, d0, ds0, p0, q0, hargs, rfl, rfl, h0, r0⟩ := trodAll_cons hA
  obtain ⟨v1, vs1, d1, ds1, p1, q1, rfl, rfl, rfl, h1, r1⟩ := trodAll_cons r0
  obtain ⟨v2, vs2, d2, ds2, p2, q2, rfl, rfl, rfl, h2, r2⟩ := trodAll_cons r1
  obtain ⟨v3, vs3, d3, ds3, p3, q3, rfl, rfl, rfl, h3, r3⟩ := trodAll_cons r2
  obtain ⟨v4, vs4, d4, ds4, p4, q4, rfl, rfl, rfl, h4, r4⟩ := trodAll_cons r3
  obtain ⟨rfl, rfl, rfl⟩ := trodAll_nil r4
  obtain rfl : args = #[v0, v1, v2, v3, v4] := by cases args; simp_all
  obtain ⟨rfl, rfl⟩ := trodVars_none hV
  obtain ⟨a0, rfl, rfl, rfl, w0⟩ := open_int Tryz.underlying3 (hval 0 3 v0 rfl rfl) h0
  obtain ⟨a1, rfl, rfl, rfl, w1⟩ := open_int Tryz.underlying3 (hval 1 3 v1 rfl rfl) h1
  obtain ⟨a2, rfl, rfl, rfl, w2⟩ := open_int Tryz.underlying29 (hval 2 29 v2 rfl rfl) h2
  have o3 := hval 3 22 v3 rfl rfl
  have o4 := hval 4 41 v4 rfl rfl
  clear hA0 hval0
  refine (reachAll_law a0 w0 a1 w1 a2 w2 v3 d3 p3 o3 h3 v4 d4 p4 o4 h4 W rfl).mono fun e W' ⟨he, hg⟩ => ?_
  subst he
  exact ⟨_, rfl, law_post Tryz.laidOut (of_decide_eq_true (by kernel_rfl)) rfl rfl Tryz.underlying4 ⟨rfl, rfl, rfl⟩ hW' hg⟩
theorem jf0 : Rows.reachAllRow.wf (OpenSpec.ofChange Rows.reachAllSpec) = true := by kernel_rfl
theorem jf3 : Tryz.f4.params.all (Tryz.prog.readableRec ·) = true := by kernel_rfl
theorem jf4 : namedTie Tryz.prog Rows.reachAllRow.named Rows.reachAllSpec.vars = true := by kernel_rfl
theorem jf5 : (Rows.reachAllRow.stops == []) = true := by kernel_rfl
theorem jf7 : (Rows.reachAllRow.knobs == []) = true := by kernel_rfl
theorem jf9 : (Rows.reachAllRow.inPlace == Tryz.prog.inPlace 4) = true := by kernel_rfl
theorem jf10 : (Rows.reachAllRow.unfollowed == Tryz.prog.unfollowed 4) = true := by kernel_rfl
theorem jf11 : (Rows.reachAllRow.recurses == Tryz.prog.recurses 4) = true := by kernel_rfl
theorem jf12 : (Rows.reachAllRow.named == Tryz.prog.varsNamed 4) = true := by kernel_rfl
theorem jf13 : (Rows.reachAllRow.maps == (Tryz.f4.params.toList ++ Rows.reachAllSpec.plain.varTypes Tryz.prog).any (Tryz.prog.mapsRec ·)) = true := by kernel_rfl
theorem jf14 : (Rows.reachAllRow.ifaces == (Tryz.f4.params.toList ++ Rows.reachAllSpec.plain.varTypes Tryz.prog).any (Tryz.prog.ifacesRec ·)) = true := by kernel_rfl
theorem jf15 : (Rows.reachAllRow.mapsOut == Tryz.prog.mapsAmong Tryz.f4.resultTypes.toList) = true := by kernel_rfl
theorem jf16 : (Rows.reachAllRow.loops == (Tryz.f4.params.toList ++ Rows.reachAllSpec.plain.varTypes Tryz.prog).any (Tryz.prog.loopsFrom ·)) = true := by kernel_rfl
theorem jf17 : (Rows.reachAllRow.wideKeys == (Tryz.f4.params.toList ++ Rows.reachAllSpec.plain.varTypes Tryz.prog ++ Tryz.f4.resultTypes.toList).any (Tryz.prog.wideKeysFrom ·)) = true := by kernel_rfl
theorem jf18 : Rows.reachAllSpec.vars.all (Tryz.prog.varReadable ·) = true := by kernel_rfl
theorem jf19 : Tryz.f4.resultTypes.all (fun t => Tryz.prog.readableRec t && decide (t < Tryz.prog.types.size)) = true := by kernel_rfl
theorem jf20 : (Rows.reachAllRow.ifacesOut == Tryz.f4.resultTypes.toList.any (Tryz.prog.ifacesRec ·)) = true := by kernel_rfl
theorem jf21 : (Rows.reachAllRow.loopsOut == Tryz.f4.resultTypes.toList.any (Tryz.prog.loopsFrom ·)) = true := by kernel_rfl
theorem jf23 : Rows.reachAllRow.shortTexts.isNone = true := by kernel_rfl
theorem jf28 : (Rows.reachAllRow.kinds == (if Rows.reachAllRow.domain.isEmpty then [] else Tryz.f4.params.toList.map fun t => match Tryz.prog.underlying t with | some (.int k) => some k | _ => none)) = true := by kernel_rfl
theorem jf29 : (Rows.reachAllRow.pinned == Rows.reachAllRow.pinnedBy) = true := by kernel_rfl
theorem jf30 : (Rows.reachAllRow.veiled == (Tryz.f4.params.toList ++ Rows.reachAllSpec.plain.varTypes Tryz.prog ++ Tryz.f4.resultTypes.toList).any (Tryz.prog.veiledRec ·)) = true := by kernel_rfl
theorem jf31 : Rows.reachAllRow.veiledFits Tryz.prog Tryz.f4.params.toList (Tryz.f4.params.toList ++ Rows.reachAllSpec.plain.varTypes Tryz.prog ++ Tryz.f4.resultTypes.toList) = true := by kernel_rfl
theorem jfn : Tryz.prog.funcNamed Rows.reachAllRow.func = some 4 := by kernel_rfl
set_option maxRecDepth 100000 in
theorem closed : joinedFacts Tryz.prog 4 Tryz.f4 Rows.reachAllSpec Rows.reachAllRow = true :=
  (and2 (and2 (and2 (and2 (and2 (and2 (and2 (and2 (and2 (and2 (and2 (and2 (and2 (and2 (and2 (and2 (and2 (and2 (and2 (and2 (and2 (and2 (and2 (and2 (and2 (and2 (and2 (and2 (and2 (and2 (and2 jf0 Tryz.laidOut) pf_mapsRowed) jf3) jf4) jf5) pf_stops) jf7) pf_stopKnobs) jf9) jf10) jf11) jf12) jf13) jf14) jf15) jf16) jf17) jf18) jf19) jf20) jf21) pf_plainKeys) jf23) pf_stopsHeard) pf_mayEnter) pf_lifted) pf_make) jf28) jf29) jf30) jf31)
theorem proved : Rows.ReachAllSaid :=
  OpenClaim.holds_of_wide 4 Tryz.f4 rfl rfl rfl rfl rfl rfl rfl ⟨rfl, rfl, rfl, rfl, rfl⟩ rfl rfl rfl rfl rfl jfn Tryz.func4 closed
    (of_decide_eq_true (by kernel_rfl)) (by unfold Func.isWrapper; rw [if_neg (by decide +kernel)]; exact ⟨rfl, rfl⟩)
    (fun os started H enc _ => lifted os started H enc)
#print axioms proved
end Go.Proofs.YtkpnmajocgcccaaGreat.reachAll
