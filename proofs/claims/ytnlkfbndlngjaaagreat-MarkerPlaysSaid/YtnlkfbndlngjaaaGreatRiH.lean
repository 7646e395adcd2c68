import Derived.Test.YtnlkfbndlngjaaaGreatRiF
set_option maxHeartbeats 1000000
set_option maxRecDepth 100000
namespace Go.Proofs.YtnlkfbndlngjaaaGreat
open Go.RowKit
attribute [local go_sem] Oper.semAt_some
set_option linter.unusedVariables false
set_option linter.unusedSimpArgs false
structure NewB (w0 w:World) (p i:Nat) (l:List Value) (bb:Nat→Nat):Prop where
 at':∀ j,j<i→l[j]?=some (.pointer (some ⟨bb j,0,none⟩))
 lo:∀ j,j<i→w0.heap.size≤bb j
 blk:∀ j,j<i→w.heap[bb j]?=some (.cells #[.int .i64 p,.slice none 0 0,.bool false] 258)
 up:∀ j k,j<k→k<i→bb j<bb k
section
variable {w0 w w':World} {m q:Nat} {L:L24} {M:Mk} {S:Nat→Prop}
theorem NewB.keeps {p i:Nat} {l:List Value} {bb:Nat→Nat} (h:NewB w0 w p i l bb) (hk:Keeps S w w') (hS:∀ j,j<i→¬ S (bb j)):NewB w0 w' p i l bb:=
 ⟨h.at',h.lo,fun j hj=>block_keep (h.blk j hj) hk (hS j hj),h.up⟩
theorem NewB.snoc {p i g:Nat} {l:List Value} {bb:Nat→Nat} (h:NewB w0 w p i l bb) (hl:l.length=i) (hg0:w0.heap.size≤g) (hg:w.heap[g]?=some (.cells #[.int .i64 p,.slice none 0 0,.bool false] 258)) (hlt:∀ j,j<i→bb j<g):
 NewB w0 w p (i+1) (l ++ [.pointer (some ⟨g,0,none⟩)]) (updf bb i g):=by
 refine⟨fun j hj=>?_,fun j hj=>?_,fun j hj=>?_,fun j k hjk hk=>?_⟩
 ·by_cases e:j=i
  ·subst e
   rw [List.getElem?_append_right (by omega),hl]
   simp [updf]
  ·rw [List.getElem?_append_left (by omega),h.at' j (by omega)]
   simp [updf,e]
 ·by_cases e:j=i
  ·simpa [updf,e] using hg0
  ·simpa [updf,e] using h.lo j (by omega)
 ·by_cases e:j=i
  ·simpa [updf,e] using hg
  ·simpa [updf,e] using h.blk j (by omega)
 ·have e1:j≠i:=by omega
  by_cases e:k=i
  ·simpa [updf,e,e1] using hlt j (by omega)
  ·simpa [updf,e,e1] using h.up j k hjk (by omega)
theorem empty24R (m n k p:Nat) (vC vP vS vB:Value) (w:World) (h:w.heap[m]?=some (.cells #[.int .i64 n,.int .i64 k,.int .i64 p,vC,vP,vS,vB] 134)) (k1:1≤k) (k4:k≤4) (p1:1≤p) (p2:p≤64):
 Calls Tryz.prog 65 #[.pointer (some ⟨m,0,none⟩)] w fun e w'=>e = .returned (.tuple #[])∧Keeps (fun y=>y=m) w w'∧∃ rb cap cur bb,w'.heap[m]?=some (.cells #[.int .i64 n,.int .i64 k,.int .i64 p,vC,vP,vS,.slice (some ⟨rb,0,none⟩) k cap] 134)∧w'.heap[rb]?=some (.cells cur 210)∧(∀ j,j<k→cur[j]?=some (.pointer (some ⟨bb j,0,none⟩)))∧∃ l,NewB w w' p k l bb:=by
 have HN:=hid (fun W=>new21_ok p W p1 p2)
 have HQ:=hid h
 have HK1:=hid k1
 obtain⟨c0,c1,c2,c3,c4,c5,c6,cf,cl⟩:=cells7f h
 have cf6:=cf 6
 clear h cf p1 p2
 go_enter Tryz.func65,Tryz.ntmps65
 go_wp2_with fail
 go_loopw [2] (fun ix wr=>∃ (i:Nat) (vB:Value) (l:List Value) (bb:Nat→Nat),i≤k∧l.length=i∧ix = .int .i64 i∧Hid (wr.heap[m]?=some (.cells #[.int .i64 n,.int .i64 k,.int .i64 p,vC,vP,vS,vB] 134))∧Hid (BRow wr w.heap.size vB l)∧Hid (NewB w wr p i l bb)∧Hid (Keeps (fun y=>y=m) w wr)) (fun ix _=>k - (intOf ix).toNat)
 case atStart=>exact⟨0,.slice none 0 0,[],fun _=>0,Nat.zero_le _,rfl,rfl,hid ((set_block HQ.out 6 _).trans rfl),hid (World.ownsRow_nil _ _ _ _),hid ⟨fun j hj=>by omega,fun j hj=>by omega,fun j hj=>by omega,fun j k _ hk=>by omega⟩,hid (keeps_set1 _ _ _ _)⟩
 case round=>
  obtain⟨i,vB,l,bb,hi,hl,rfl,HM,HB,HNB,HK⟩:=hrel
  have hi0:(0:Int)≤i:=by omega
  obtain⟨c0,c1,c2,c3,c4,c5,c6,cf,cl'⟩:=cells7f HM.out
  by_cases hlt:i<k
  ·have hlt':(i:Int)<(k:Int):=by omega
   have hsz:=HK.out.size
   have HNN:=hid (HN.out wr)
   clear cf
   go_wp2_with fail
   refine HNN.out.mono ?_
   rintro e w2 ⟨rfl,k2,q2⟩
   have HM2:=hid (block_keep HM.out k2 (fun h=>h))
   have HB2:=hid (HB.out.keeps k2 (fun _ _ _ _ h=>h))
   have HK2:=hid (HK.out.trans k2.up)
   have HNB2:=hid ((HNB.out.keeps k2 (fun _ _ h=>h)).snoc hl hsz q2 (fun j hj=>lt_block (HNB.out.blk j hj)))
   have hs2:=k2.size
   clear c0 c1 c2 c3 c4 c5 c6 cl' k2 q2
   obtain⟨c0,c1,c2,c3,c4,c5,c6,cf,cl'⟩:=cells7f HM2.out
   clear cf
   have HMA:=hid (alloc_old (o:=.cells #[.pointer (some ⟨wr.heap.size,0,none⟩)] 210) HM2.out)
   have HBA:=hid (HB2.out.keeps ((Keeps.refl (fun _=>False) w2).alloc (.cells #[.pointer (some ⟨wr.heap.size,0,none⟩)] 210)) (fun _ _ _ _ h=>h))
   have HNBA:=hid (HNB2.out.keeps ((Keeps.refl (fun _=>False) w2).alloc (.cells #[.pointer (some ⟨wr.heap.size,0,none⟩)] 210)) (fun _ _ h=>h))
   have HQA:=hid (alloc_new (w:=w2) (o:=.cells #[.pointer (some ⟨wr.heap.size,0,none⟩)] 210))
   have HKA:=hid (HK2.out.alloc (.cells #[.pointer (some ⟨wr.heap.size,0,none⟩)] 210))
   go_wp2_with (first
    | (at_builtin;refine wpList_append_buf _ rfl _ _ rfl w.heap.size w2.heap.size _ (.pointer (some ⟨wr.heap.size,0,none⟩)) l rfl rfl HBA.out HQA.out rfl (by omega) (by rw [World.size_alloc];omega) ?_;intro v6 w6 hr6 hk6 ho6;obtain⟨p6,q6,rfl⟩:=hr6.slice;obtain⟨n6,hn6⟩:∃ n6,(l ++ [Value.pointer (some ⟨wr.heap.size,0,none⟩)]).length=n6:=⟨_,rfl⟩;rw [hn6] at hr6 ⊢;have HN6:=hid hn6;clear hn6 ho6;have HM6:=hid (block_keep HMA.out hk6 (fun h=>HBA.out.ne HMA.out (by decide) h));obtain⟨d0,d1,d2,d3,d4,d5,d6,df,dl⟩:=cells7f HM6.out;have df6:=df 6;clear df)
    | fail)
   have hlt6:=HBA.out.lt
   have hm6:∀ j,j<i+1→updf bb i wr.heap.size j≠m:=fun j hj e=>by
    have:=HNBA.out.blk j hj
    rw [e,HMA.out] at this
    simp at this
   refine⟨⟨i+1,.slice p6 n6 q6,l ++ [.pointer (some ⟨wr.heap.size,0,none⟩)],updf bb i wr.heap.size,by omega,by rw [List.length_append,hl];rfl,by go_num,hid ((set_block HM6.out 6 _).trans rfl),hid (hr6.keeps (keeps_set1 _ _ _ _) (fun z _ _ h e=>hr6.ne HM6.out (by decide) (by rw [← e];exact h))),hid ((HNBA.out.keeps hk6 (fun j hj h=>HBA.out.ne (HNBA.out.blk j hj) (by decide) h)).keeps (keeps_set1 _ _ _ _) (fun j hj=>hm6 j hj)),hid ((HKA.out.trans' hk6 (fun _ _ h=>h) (fun y hy hz=>by have:=(hlt6 y hz).1;omega)).trans (keeps_set1 _ _ _ _))⟩,by simp [intOf];omega⟩
  ·obtain rfl:i=k:=by omega
   go_wp2_with fail
   go_end0
   rcases HB.out.2 with⟨_,h0⟩ | ⟨g,cap,cur,e,hb,hg,r1,r2,r3,r4⟩
   ·have:=HK1.out;omega
   ·rw [hl] at e
    subst e
    refine⟨rfl,HK.out,g,cap,cur,bb,HM.out,hg,fun j hj=>?_,l,HNB.out⟩
    have a:=HNB.out.at' j hj
    rw [← r4,List.getElem?_take_of_lt (by omega),Array.getElem?_toList] at a
    exact a
end
end Go.Proofs.YtnlkfbndlngjaaaGreat
namespace Go.Proofs.YtnlkfbndlngjaaaGreat
open Go.RowKit
attribute [local go_sem] Oper.semAt_some
set_option linter.unusedVariables false
set_option linter.unusedSimpArgs false
section
variable {w0 w w':World} {m q:Nat} {L:L24} {M:Mk} {S:Nat→Prop}
theorem R24.setPn {P:Pt} {ps:Nat} (h:R24 w m L M q) (hk:Keeps (fun y=>y=L.p) w w') (hP:R15 w' L.p ps P) (hn:P.n=M.P.n) (hps:w.heap.size≤ps):R24 w' m { L with ps:=ps } { M with P:=P } q:=by
 obtain⟨⟨cap,o⟩,⟨cur,r,hr⟩,hc,hp,hs,hb,hi,a1,a2,a3⟩:=h
 obtain⟨cp,op⟩:=hp.own
 obtain⟨ck,oc⟩:=hc.own
 obtain⟨curc,rc,_⟩:=hc.row
 have no:∀ {z:Nat} {cs:Array Value} {t:TypeId},w.heap[z]?=some (.cells cs t)→t≠207→¬ z=L.p:=fun hz h1 e=>type_ne hz op h1 e
 have nv:∀ {l:List Int} {v:Value},IRow w 0 v l→∀ k,v.ownBlock=some k→¬ k=L.p:=fun hv k hk' e=>by
  rcases hv.2 with⟨e1,_⟩ | ⟨g,cp',cu,e1,_,hg,_⟩
  ·rw [e1] at hk';cases hk'
  ·rw [e1] at hk'
   obtain rfl:g=k:=Option.some.inj hk'
   exact type_ne hg op (by decide) e
 refine⟨⟨cap,by show w'.heap[m]?=some (.cells #[.int .i64 P.n,_,_,_,_,_,_] _);rw [hn];exact block_keep o hk (no o (by decide))⟩,⟨cur,block_keep r hk (no r (by decide)),hr⟩,hc.keeps hk (no oc (by decide)) (no rc (by decide)),hP,hs.keeps hk (no hs.own (by decide)) (nv hs.row),fun j hj=>?_,hi,fun k hk'=>?_,fun j hj k hk'=>⟨?_,(a2 j hj k hk').2⟩,a3⟩
 ·obtain⟨h1,h2⟩:=hb j hj
  exact⟨h1.keeps hk (no h1.own (by decide)) (nv h1.row),h2⟩
 ·have:=hs.lt k hk';show k≠ps;omega
 ·have:=(hb j hj).1.lt k hk';show k≠ps;omega
theorem R24.setB {B:Nat→Bf} {rb cap:Nat} {cur:Array Value} {bb:Nat→Nat} {l:List Value} (h:R24 w m L M q) (hk:Keeps (fun y=>y=m) w w')
 (ho:w'.heap[m]?=some (.cells #[.int .i64 M.P.n,.int .i64 M.K.many,.int .i64 q,.pointer (some ⟨L.c,0,none⟩),.pointer (some ⟨L.p,0,none⟩),.pointer (some ⟨L.st,0,none⟩),.slice (some ⟨rb,0,none⟩) M.K.many cap] 134))
 (hr:w'.heap[rb]?=some (.cells cur 210)) (hc:∀ j,j<M.K.many→cur[j]?=some (.pointer (some ⟨bb j,0,none⟩))) (hn:NewB w w' q M.K.many l bb)
 (hB:∀ j,j<M.K.many→(B j).list=[]∧(B j).whole=true∧(B j).size=q∧(B j).n=0):R24 w' m { L with rb:=rb,bb:=bb,bv:=fun _=>.slice none 0 0 } { M with B:=B } q:=by
 obtain⟨⟨cap0,o⟩,_,hcl,hp,hs,hb,_,a1,_,_⟩:=h
 obtain⟨cp,op⟩:=hp.own
 obtain⟨curp,rp,_,_⟩:=hp.row
 obtain⟨ck,oc⟩:=hcl.own
 obtain⟨curc,rc,_⟩:=hcl.row
 have no:∀ {z:Nat} {cs:Array Value} {t:TypeId},w.heap[z]?=some (.cells cs t)→t≠134→¬ z=m:=fun hz h1 e=>type_ne hz o h1 e
 have nv:∀ {l:List Int} {v:Value},IRow w 0 v l→∀ k,v.ownBlock=some k→¬ k=m:=fun hv k hk' e=>by
  rcases hv.2 with⟨e1,_⟩ | ⟨g,cp',cu,e1,_,hg,_⟩
  ·rw [e1] at hk';cases hk'
  ·rw [e1] at hk'
   obtain rfl:g=k:=Option.some.inj hk'
   exact type_ne hg o (by decide) e
 have hq:∀ j,j<M.K.many→1≤q∧q≤64:=fun j hj=>by obtain⟨h1,h2⟩:=hb j hj;rw [← h2];exact⟨h1.p1,h1.p2⟩
 refine⟨⟨cap,ho⟩,⟨cur,hr,hc⟩,hcl.keeps hk (no oc (by decide)) (no rc (by decide)),hp.keeps hk (no op (by decide)) (no rp (by decide)),hs.keeps hk (no hs.own (by decide)) (nv hs.row),fun j hj=>?_,fun i j hi hj e=>?_,a1,fun j _ k hk'=>(by cases hk'),fun i j _ _ _ k hk'=>(by cases hk')⟩
 ·obtain⟨b1,b2,b3,b4⟩:=hB j hj
  refine⟨⟨?_,?_,?_,?_,?_⟩,b3⟩
  ·show w'.heap[bb j]?=some (.cells #[.int .i64 (B j).size,.slice none 0 0,.bool (!(B j).whole)] _)
   rw [b3,b2];exact hn.blk j hj
  ·show IRow w' 0 (.slice none 0 0) (B j).list
   rw [b1];exact IRow.nil _ _
  ·show 1≤(B j).size
   rw [b3];exact (hq j hj).1
  ·show (B j).size≤64
   rw [b3];exact (hq j hj).2
  ·show (B j).n≤(B j).size
   rw [b4];exact Nat.zero_le _
 ·rcases Nat.lt_trichotomy i j with h | h | h
  ·have:=hn.up i j h hj;have e':bb i=bb j:=e;omega
  ·exact h
  ·have:=hn.up j i h hi;have e':bb i=bb j:=e;omega
theorem go24_bad (h:R24 w m L M q) (hp:M.K.ph<4):Calls Tryz.prog 74 #[.pointer (some ⟨m,0,none⟩)] w fun e w'=>e = .returned (.int .i64 8)∧w'=w:=by
 have HV:=hid h.val
 have HE:=hid (ended24 h)
 rw [decide_eq_false (by omega)] at HE
 clear h hp
 go_enter Tryz.func74,Tryz.ntmps74
 go_wp2_with fail
 refine (HV.out).mono ?_
 rintro e w' ⟨rfl,h'⟩
 obtain rfl:=h'.symm
 go_wp2_with fail
 refine (HE.out).mono ?_
 rintro e w' ⟨rfl,h'⟩
 obtain rfl:=h'.symm
 go_wp2_with fail
 go_ret
 exact⟨rfl,rfl⟩
theorem go24_mid (h:R24 w m L M q) (hp:M.K.ph=4) (hcy:M.K.cy<4611686018427387904):Calls Tryz.prog 74 #[.pointer (some ⟨m,0,none⟩)] w fun e w'=>e = .returned (.int .i64 0)∧Keeps (fun y=>y=L.c) w w'∧∃ cs,R24 w' m { L with cs:=cs } { M with K:=M.K.go } q:=by
 have HV:=hid h.val
 have HE:=hid (ended24 h)
 rw [decide_eq_true (by omega)] at HE
 have HG:=hid (go22_ok h.clk (by omega) (by omega) hcy)
 have HG5:=hid (show M.K.go.ph=5 by show (M.K.ph+1) % 6=5;omega)
 have HH:=hid h
 obtain⟨cap,c0,c1,c2,c3,c4,c5,c6,cl⟩:=h.cells
 obtain⟨cap',o⟩:=h.own
 have HO:=hid o
 obtain⟨ck,oc⟩:=h.clk.own
 have HMC:=hid (show m≠L.c from type_ne o oc (by decide))
 clear h hp o oc
 go_enter Tryz.func74,Tryz.ntmps74
 go_wp2_with fail
 refine (HV.out).mono ?_
 rintro e w' ⟨rfl,h'⟩
 obtain rfl:=h'.symm
 go_wp2_with fail
 refine (HE.out).mono ?_
 rintro e w' ⟨rfl,h'⟩
 obtain rfl:=h'.symm
 go_wp2_with fail
 refine HG.out.mono ?_
 rintro e w1 ⟨rfl,k1,cs,_,h1⟩
 have K1:=hid k1;have H1:=hid h1
 obtain⟨d0,d1,d2,d3,d4,d5,d6,df,dl⟩:=cells7f (block_keep HO.out k1 HMC.out)
 have HP1:=hid (phase22 h1)
 rw [HG5.out] at HP1
 clear k1 h1 df c0 c1 c2 c3 c4 c5 c6 cl
 go_wp2_with fail
 refine (HP1.out).mono ?_
 rintro e w' ⟨rfl,h'⟩
 obtain rfl:=h'.symm
 go_wp2_with fail
 go_ret
 exact⟨rfl,K1.out,cs,HH.out.setC K1.out H1.out rfl⟩
theorem go24_end (B:Nat→Bf) (h:R24 w m L M q) (hp:M.K.ph=5) (hcy:M.K.cy<4611686018427387904) (hB:∀ j,j<M.K.many→(B j).list=[]∧(B j).whole=true∧(B j).size=q∧(B j).n=0):
 Calls Tryz.prog 74 #[.pointer (some ⟨m,0,none⟩)] w fun e w'=>e = .returned (.int .i64 0)∧Keeps (fun y=>y=L.c∨y=L.p∨y=L.st∨y=m) w w'∧∃ L',(L'.c=L.c∧L'.p=L.p∧L'.st=L.st∧w.heap.size≤L'.ps∧(∀ j,j<M.K.many→w.heap.size≤L'.bb j)∧∀ j z,(L'.bv j).ownBlock≠some z)∧R24 w' m L' ⟨M.K.go,M.P.clear,M.S.clear,B⟩ q:=by
 have HV:=hid h.val
 have HE:=hid (ended24 h)
 rw [decide_eq_true (by omega)] at HE
 have HG:=hid (go22_ok h.clk (by omega) (by omega) hcy)
 have HG5:=hid (show M.K.go.ph=0 by show (M.K.ph+1) % 6=0;omega)
 have HH:=hid h;have HBB:=hid hB
 have HK1:=hid (And.intro h.clk.m1 h.clk.m4)
 have HQ12:=hid (show 1≤q∧q≤64 from by obtain⟨h1,h2⟩:=h.bf 0 (by have:=h.clk.m1;omega);rw [← h2];exact⟨h1.p1,h1.p2⟩)
 obtain⟨cap,c0,c1,c2,c3,c4,c5,c6,cl⟩:=h.cells
 clear h hp hB
 go_enter Tryz.func74,Tryz.ntmps74
 go_wp2_with fail
 refine (HV.out).mono ?_
 rintro e w' ⟨rfl,h'⟩
 obtain rfl:=h'.symm
 go_wp2_with fail
 refine (HE.out).mono ?_
 rintro e w' ⟨rfl,h'⟩
 obtain rfl:=h'.symm
 go_wp2_with fail
 refine HG.out.mono ?_
 rintro e w1 ⟨rfl,k1,cs,_,h1⟩
 have K1:=hid k1
 have HR1:=hid (HH.out.setC k1 h1 rfl)
 obtain⟨cap1,d0,d1,d2,d3,d4,d5,d6,dl⟩:=HR1.out.cells
 have HP1:=hid (phase22 h1)
 rw [HG5.out] at HP1
 clear k1 h1 c0 c1 c2 c3 c4 c5 c6 cl
 go_wp2_with fail
 refine (HP1.out).mono ?_
 rintro e w' ⟨rfl,h'⟩
 obtain rfl:=h'.symm
 go_wp2_with fail
 refine (clear15 HR1.out.pt).mono ?_
 rintro e w2 ⟨rfl,k2,h2⟩
 have K2:=hid k2
 have HR2:=hid (HR1.out.setPn k2 h2 rfl (Nat.le_refl _))
 clear k2 h2 d0 d1 d2 d3 d4 d5 d6 dl
 obtain⟨cap2,d0,d1,d2,d3,d4,d5,d6,dl⟩:=HR2.out.cells
 go_wp2_with fail
 refine (clear20 HR2.out.st).mono ?_
 rintro e w3 ⟨rfl,k3,h3⟩
 have K3:=hid k3
 have hps:L.p≠L.st∧w1.heap.size≠L.st:=by
  obtain⟨cp,op⟩:=HR2.out.pt.own
  obtain⟨curp,rp,_,_⟩:=HR2.out.pt.row
  exact⟨type_ne op HR2.out.st.own (by decide),type_ne rp HR2.out.st.own (by decide)⟩
 have HR3:=hid (HR2.out.setPS (P:=M.P.clear) (v:=.slice none 0 0) (k3.mono (fun _ _ h=>.inr h)) (HR2.out.pt.keeps k3 hps.1 hps.2) h3 rfl (fun k hk=>by cases hk))
 clear k3 h3 d0 d1 d2 d3 d4 d5 d6 dl hps
 obtain⟨cap3,o3⟩:=HR3.out.own
 go_wp2_with fail
 refine (empty24R m _ _ q _ _ _ _ w3 o3 HK1.out.1 HK1.out.2 HQ12.out.1 HQ12.out.2).mono ?_
 rintro e w4 ⟨rfl,k4,rb,cp4,cur,bb,o4,r4,c4,l,n4⟩
 have K4:=hid k4
 have HR4:=hid (HR3.out.setB (B:=B) k4 o4 r4 c4 n4 HBB.out)
 have HLB:=hid n4.lo
 have hsz1:=K1.out.size;have hsz2:=K2.out.size;have hsz3:=K3.out.size
 clear k4 o4 r4 c4 n4 o3
 go_wp2_with fail
 go_ret
 refine⟨rfl,?_,{ L with cs:=cs,ps:=w1.heap.size,sv:=.slice none 0 0,rb:=rb,bb:=bb,bv:=fun _=>.slice none 0 0 },⟨rfl,rfl,rfl,hsz1,fun j hj=>Nat.le_trans (by omega) (HLB.out j hj),fun j z h=>by cases h⟩,HR4.out⟩
 exact (((K1.out.mono (fun _ _ h=>.inl h)).trans (K2.out.mono (fun _ _ h=>.inr (.inl h)))).trans (K3.out.mono (fun _ _ h=>.inr (.inr (.inl h))))).trans (K4.out.mono (fun _ _ h=>.inr (.inr (.inr h))))
end
end Go.Proofs.YtnlkfbndlngjaaaGreat
