import Derived.Test.YtnlkfbndlngjaaaGreatSaB
set_option maxRecDepth 100000
namespace Go.Proofs.YtnlkfbndlngjaaaGreat.sweepApart
open Go.ChangeShapes Go.WideShapes Go.ChangeAt Go.RowKit
theorem lifted (os:Os) (started:os.Started) (H:Type) (enc:TypeId × Value→H):
 ReturnsInHanded {} Tryz.checked os 3 .any (Rows.sweepApartSpec.pre6 enc Tryz.prog Tryz.f3 Rows.sweepApartRow.domain false) (Rows.sweepApartSpec.post enc Tryz.prog Tryz.f3 false true false false):=by
 refine returnsInHanded_of_change (C:=Tryz.checked) Tryz.own started (by kernel_rfl) Tryz.func3
  (ChangeSpec.witness6 (enc:=enc) (C:=Tryz.checked) false ⟨#[],#[.agg #[.int .u8 0,.int .u8 0,.slice none 0 0,.slice none 0 0],.int .u8 0],[]⟩ 8 (by kernel_rfl) (by kernel_rfl) (by kernel_rfl) (by kernel_rfl)) ?_
 intro W base args ds gs before hval0 hW hcnd hsz
 have hval:∀ (j:Nat) t v,Tryz.f3.params[j]?=some t→args[j]?=some v→Value.okWide Tryz.prog W .any base t v:=hval0
 have hW':=hW
 obtain⟨p,q,hA0,hV,rfl,hfz,hnd⟩:=hW
 have hA:DataW.TrodAll enc Tryz.prog W 0 (fun _=>true) true Tryz.f3.params.toList args.toList ds p:=hA0
 rw [Tryz.params3] at hA hval
 obtain⟨v0,vs0,d0,ds0,p0,q0,hargs,rfl,rfl,h0,r0⟩:=trodAll_cons hA
 obtain⟨v1,vs1,d1,ds1,p1,q1,rfl,rfl,rfl,h1,r1⟩:=trodAll_cons r0
 obtain⟨rfl,rfl,rfl⟩:=trodAll_nil r1
 obtain rfl:args=#[v0,v1]:=by cases args;simp_all
 obtain⟨rfl,rfl⟩:=trodVars_none hV
 have o0:=hval 0 24 v0 rfl rfl
 obtain⟨a1,rfl,rfl,rfl,w1⟩:=open_int Tryz.underlying5 (hval 1 5 v1 rfl rfl) h1
 clear hA0 hval0
 refine (sweepApart_law v0 d0 p0 o0 h0 a1 w1 W rfl).mono fun e W' ⟨he,hg⟩=>?_
 subst he
 exact⟨_,rfl,law_post Tryz.laidOut (of_decide_eq_true (by kernel_rfl)) rfl rfl Tryz.underlying4 ⟨rfl,rfl,rfl⟩ hW' hg⟩
theorem jf0:Rows.sweepApartRow.wf (OpenSpec.ofChange Rows.sweepApartSpec)=true:=by kernel_rfl
theorem jf3:Tryz.f3.params.all (Tryz.prog.readableRec ·)=true:=by kernel_rfl
theorem jf4:namedTie Tryz.prog Rows.sweepApartRow.named Rows.sweepApartSpec.vars=true:=by kernel_rfl
theorem jf5:(Rows.sweepApartRow.stops == [])=true:=by kernel_rfl
theorem jf7:(Rows.sweepApartRow.knobs == [])=true:=by kernel_rfl
theorem jf9:(Rows.sweepApartRow.inPlace == Tryz.prog.inPlace 3)=true:=by kernel_rfl
theorem jf10:(Rows.sweepApartRow.unfollowed == Tryz.prog.unfollowed 3)=true:=by kernel_rfl
theorem jf11:(Rows.sweepApartRow.recurses == Tryz.prog.recurses 3)=true:=by kernel_rfl
theorem jf12:(Rows.sweepApartRow.named == Tryz.prog.varsNamed 3)=true:=by kernel_rfl
theorem jf13:(Rows.sweepApartRow.maps == (Tryz.f3.params.toList ++ Rows.sweepApartSpec.plain.varTypes Tryz.prog).any (Tryz.prog.mapsRec ·))=true:=by kernel_rfl
theorem jf14:(Rows.sweepApartRow.ifaces == (Tryz.f3.params.toList ++ Rows.sweepApartSpec.plain.varTypes Tryz.prog).any (Tryz.prog.ifacesRec ·))=true:=by kernel_rfl
theorem jf15:(Rows.sweepApartRow.mapsOut == Tryz.prog.mapsAmong Tryz.f3.resultTypes.toList)=true:=by kernel_rfl
theorem jf16:(Rows.sweepApartRow.loops == (Tryz.f3.params.toList ++ Rows.sweepApartSpec.plain.varTypes Tryz.prog).any (Tryz.prog.loopsFrom ·))=true:=by kernel_rfl
theorem jf17:(Rows.sweepApartRow.wideKeys == (Tryz.f3.params.toList ++ Rows.sweepApartSpec.plain.varTypes Tryz.prog ++ Tryz.f3.resultTypes.toList).any (Tryz.prog.wideKeysFrom ·))=true:=by kernel_rfl
theorem jf18:Rows.sweepApartSpec.vars.all (Tryz.prog.varReadable ·)=true:=by kernel_rfl
theorem jf19:Tryz.f3.resultTypes.all (fun t=>Tryz.prog.readableRec t && decide (t<Tryz.prog.types.size))=true:=by kernel_rfl
theorem jf20:(Rows.sweepApartRow.ifacesOut == Tryz.f3.resultTypes.toList.any (Tryz.prog.ifacesRec ·))=true:=by kernel_rfl
theorem jf21:(Rows.sweepApartRow.loopsOut == Tryz.f3.resultTypes.toList.any (Tryz.prog.loopsFrom ·))=true:=by kernel_rfl
theorem jf23:Rows.sweepApartRow.shortTexts.isNone=true:=by kernel_rfl
theorem jf28:(Rows.sweepApartRow.kinds == (if Rows.sweepApartRow.domain.isEmpty then [] else Tryz.f3.params.toList.map fun t=>match Tryz.prog.underlying t with | some (.int k)=>some k | _=>none))=true:=by kernel_rfl
theorem jf29:(Rows.sweepApartRow.pinned == Rows.sweepApartRow.pinnedBy)=true:=by kernel_rfl
theorem jf30:(Rows.sweepApartRow.veiled == (Tryz.f3.params.toList ++ Rows.sweepApartSpec.plain.varTypes Tryz.prog ++ Tryz.f3.resultTypes.toList).any (Tryz.prog.veiledRec ·))=true:=by kernel_rfl
theorem jf31:Rows.sweepApartRow.veiledFits Tryz.prog Tryz.f3.params.toList (Tryz.f3.params.toList ++ Rows.sweepApartSpec.plain.varTypes Tryz.prog ++ Tryz.f3.resultTypes.toList)=true:=by kernel_rfl
theorem jfn:Tryz.prog.funcNamed Rows.sweepApartRow.func=some 3:=by kernel_rfl
theorem closed:joinedFacts Tryz.prog 3 Tryz.f3 Rows.sweepApartSpec Rows.sweepApartRow=true:=
 (and2 (and2 (and2 (and2 (and2 (and2 (and2 (and2 (and2 (and2 (and2 (and2 (and2 (and2 (and2 (and2 (and2 (and2 (and2 (and2 (and2 (and2 (and2 (and2 (and2 (and2 (and2 (and2 (and2 (and2 (and2 jf0 Tryz.laidOut) pf_mapsRowed) jf3) jf4) jf5) pf_stops) jf7) pf_stopKnobs) jf9) jf10) jf11) jf12) jf13) jf14) jf15) jf16) jf17) jf18) jf19) jf20) jf21) pf_plainKeys) jf23) pf_stopsHeard) pf_mayEnter) pf_lifted) pf_make) jf28) jf29) jf30) jf31)
theorem proved:Rows.SweepApartSaid:=
 OpenClaim.holds_of_wide 3 Tryz.f3 rfl rfl rfl rfl rfl rfl rfl ⟨rfl,rfl,rfl,rfl,rfl⟩ rfl rfl rfl rfl rfl jfn Tryz.func3 closed
  (of_decide_eq_true (by kernel_rfl)) (by unfold Func.isWrapper;rw [if_neg (by decide +kernel)];exact⟨rfl,rfl⟩)
  (fun os started H enc _=>lifted os started H enc)
#print axioms proved
end Go.Proofs.YtnlkfbndlngjaaaGreat.sweepApart
