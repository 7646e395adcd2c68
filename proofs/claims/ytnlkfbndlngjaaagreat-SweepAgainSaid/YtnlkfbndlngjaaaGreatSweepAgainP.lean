import Derived.Test.YtnlkfbndlngjaaaGreatSaC
set_option maxRecDepth 100000
namespace Go.Proofs.YtnlkfbndlngjaaaGreat.sweepAgain
open Go.ChangeShapes Go.WideShapes Go.ChangeAt Go.RowKit
theorem lifted (os:Os) (started:os.Started) (H:Type) (enc:TypeId × Value→H):
 ReturnsInHanded {} Tryz.checked os 4 .any (Rows.sweepAgainSpec.pre6 enc Tryz.prog Tryz.f4 Rows.sweepAgainRow.domain false) (Rows.sweepAgainSpec.post enc Tryz.prog Tryz.f4 false true false false):=by
 refine returnsInHanded_of_change (C:=Tryz.checked) Tryz.own started (by kernel_rfl) Tryz.func4
  (ChangeSpec.witness6 (enc:=enc) (C:=Tryz.checked) false ⟨#[],#[.agg #[.int .u8 0,.int .u8 0,.slice none 0 0,.slice none 0 0],.int .u8 0],[]⟩ 8 (by kernel_rfl) (by kernel_rfl) (by kernel_rfl) (by kernel_rfl)) ?_
 intro W base args ds gs before hval0 hW hcnd hsz
 have hval:∀ (j:Nat) t v,Tryz.f4.params[j]?=some t→args[j]?=some v→Value.okWide Tryz.prog W .any base t v:=hval0
 have hW':=hW
 obtain⟨p,q,hA0,hV,rfl,hfz,hnd⟩:=hW
 have hA:DataW.TrodAll enc Tryz.prog W 0 (fun _=>true) true Tryz.f4.params.toList args.toList ds p:=hA0
 rw [Tryz.params4] at hA hval
 obtain⟨v0,vs0,d0,ds0,p0,q0,hargs,rfl,rfl,h0,r0⟩:=trodAll_cons hA
 obtain⟨v1,vs1,d1,ds1,p1,q1,rfl,rfl,rfl,h1,r1⟩:=trodAll_cons r0
 obtain⟨rfl,rfl,rfl⟩:=trodAll_nil r1
 obtain rfl:args=#[v0,v1]:=by cases args;simp_all
 obtain⟨rfl,rfl⟩:=trodVars_none hV
 have o0:=hval 0 24 v0 rfl rfl
 obtain⟨a1,rfl,rfl,rfl,w1⟩:=open_int Tryz.underlying5 (hval 1 5 v1 rfl rfl) h1
 clear hA0 hval0
 refine (sweepAgain_law v0 d0 p0 o0 h0 a1 w1 W rfl).mono fun e W' ⟨he,hg⟩=>?_
 subst he
 exact⟨_,rfl,law_post Tryz.laidOut (of_decide_eq_true (by kernel_rfl)) rfl rfl Tryz.underlying4 ⟨rfl,rfl,rfl⟩ hW' hg⟩
theorem jf0:Rows.sweepAgainRow.wf (OpenSpec.ofChange Rows.sweepAgainSpec)=true:=by kernel_rfl
theorem jf3:Tryz.f4.params.all (Tryz.prog.readableRec ·)=true:=by kernel_rfl
theorem jf4:namedTie Tryz.prog Rows.sweepAgainRow.named Rows.sweepAgainSpec.vars=true:=by kernel_rfl
theorem jf5:(Rows.sweepAgainRow.stops == [])=true:=by kernel_rfl
theorem jf7:(Rows.sweepAgainRow.knobs == [])=true:=by kernel_rfl
theorem jf9:(Rows.sweepAgainRow.inPlace == Tryz.prog.inPlace 4)=true:=by kernel_rfl
theorem jf10:(Rows.sweepAgainRow.unfollowed == Tryz.prog.unfollowed 4)=true:=by kernel_rfl
theorem jf11:(Rows.sweepAgainRow.recurses == Tryz.prog.recurses 4)=true:=by kernel_rfl
theorem jf12:(Rows.sweepAgainRow.named == Tryz.prog.varsNamed 4)=true:=by kernel_rfl
theorem jf13:(Rows.sweepAgainRow.maps == (Tryz.f4.params.toList ++ Rows.sweepAgainSpec.plain.varTypes Tryz.prog).any (Tryz.prog.mapsRec ·))=true:=by kernel_rfl
theorem jf14:(Rows.sweepAgainRow.ifaces == (Tryz.f4.params.toList ++ Rows.sweepAgainSpec.plain.varTypes Tryz.prog).any (Tryz.prog.ifacesRec ·))=true:=by kernel_rfl
theorem jf15:(Rows.sweepAgainRow.mapsOut == Tryz.prog.mapsAmong Tryz.f4.resultTypes.toList)=true:=by kernel_rfl
theorem jf16:(Rows.sweepAgainRow.loops == (Tryz.f4.params.toList ++ Rows.sweepAgainSpec.plain.varTypes Tryz.prog).any (Tryz.prog.loopsFrom ·))=true:=by kernel_rfl
theorem jf17:(Rows.sweepAgainRow.wideKeys == (Tryz.f4.params.toList ++ Rows.sweepAgainSpec.plain.varTypes Tryz.prog ++ Tryz.f4.resultTypes.toList).any (Tryz.prog.wideKeysFrom ·))=true:=by kernel_rfl
theorem jf18:Rows.sweepAgainSpec.vars.all (Tryz.prog.varReadable ·)=true:=by kernel_rfl
theorem jf19:Tryz.f4.resultTypes.all (fun t=>Tryz.prog.readableRec t && decide (t<Tryz.prog.types.size))=true:=by kernel_rfl
theorem jf20:(Rows.sweepAgainRow.ifacesOut == Tryz.f4.resultTypes.toList.any (Tryz.prog.ifacesRec ·))=true:=by kernel_rfl
theorem jf21:(Rows.sweepAgainRow.loopsOut == Tryz.f4.resultTypes.toList.any (Tryz.prog.loopsFrom ·))=true:=by kernel_rfl
theorem jf23:Rows.sweepAgainRow.shortTexts.isNone=true:=by kernel_rfl
theorem jf28:(Rows.sweepAgainRow.kinds == (if Rows.sweepAgainRow.domain.isEmpty then [] else Tryz.f4.params.toList.map fun t=>match Tryz.prog.underlying t with | some (.int k)=>some k | _=>none))=true:=by kernel_rfl
theorem jf29:(Rows.sweepAgainRow.pinned == Rows.sweepAgainRow.pinnedBy)=true:=by kernel_rfl
theorem jf30:(Rows.sweepAgainRow.veiled == (Tryz.f4.params.toList ++ Rows.sweepAgainSpec.plain.varTypes Tryz.prog ++ Tryz.f4.resultTypes.toList).any (Tryz.prog.veiledRec ·))=true:=by kernel_rfl
theorem jf31:Rows.sweepAgainRow.veiledFits Tryz.prog Tryz.f4.params.toList (Tryz.f4.params.toList ++ Rows.sweepAgainSpec.plain.varTypes Tryz.prog ++ Tryz.f4.resultTypes.toList)=true:=by kernel_rfl
theorem jfn:Tryz.prog.funcNamed Rows.sweepAgainRow.func=some 4:=by kernel_rfl
theorem closed:joinedFacts Tryz.prog 4 Tryz.f4 Rows.sweepAgainSpec Rows.sweepAgainRow=true:=
 (and2 (and2 (and2 (and2 (and2 (and2 (and2 (and2 (and2 (and2 (and2 (and2 (and2 (and2 (and2 (and2 (and2 (and2 (and2 (and2 (and2 (and2 (and2 (and2 (and2 (and2 (and2 (and2 (and2 (and2 (and2 jf0 Tryz.laidOut) pf_mapsRowed) jf3) jf4) jf5) pf_stops) jf7) pf_stopKnobs) jf9) jf10) jf11) jf12) jf13) jf14) jf15) jf16) jf17) jf18) jf19) jf20) jf21) pf_plainKeys) jf23) pf_stopsHeard) pf_mayEnter) pf_lifted) pf_make) jf28) jf29) jf30) jf31)
theorem proved:Rows.SweepAgainSaid:=
 OpenClaim.holds_of_wide 4 Tryz.f4 rfl rfl rfl rfl rfl rfl rfl ⟨rfl,rfl,rfl,rfl,rfl⟩ rfl rfl rfl rfl rfl jfn Tryz.func4 closed
  (of_decide_eq_true (by kernel_rfl)) (by unfold Func.isWrapper;rw [if_neg (by decide +kernel)];exact⟨rfl,rfl⟩)
  (fun os started H enc _=>lifted os started H enc)
#print axioms proved
end Go.Proofs.YtnlkfbndlngjaaaGreat.sweepAgain
