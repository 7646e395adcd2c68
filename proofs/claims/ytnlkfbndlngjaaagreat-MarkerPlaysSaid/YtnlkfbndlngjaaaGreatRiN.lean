import Derived.Test.YtnlkfbndlngjaaaGreatRiM
set_option maxHeartbeats 2000000
set_option maxRecDepth 100000
namespace Go.Proofs.YtnlkfbndlngjaaaGreat
open Go.RowKit
attribute [local go_sem] Oper.semAt_some
set_option linter.unusedVariables false
set_option linter.unusedSimpArgs false
structure L24.Lo (L:L24) (N m k:Nat):Prop where
 m:N≤m
 c:N≤L.c
 p:N≤L.p
 ps:N≤L.ps
 st:N≤L.st
 bb:∀ j,j<k→N≤L.bb j
 bv:∀ j,j<k→∀ z,(L.bv j).ownBlock=some z→N≤z
def Ty24 (t:TypeId):Prop:=t=134∨t=205∨t=207∨t=3∨t=209∨t=258
instance (t:TypeId):Decidable (Ty24 t):=by unfold Ty24;infer_instance
def T24 (w:World) (N y:Nat):Prop:=N≤y∧∃ c t,w.heap[y]?=some (.cells c t)∧Ty24 t
section
variable {N m q x:Nat} {w w' w1 w2:World} {L:L24} {LR:L18} {M M':Mk} {A:Ar} {S:Nat→Prop}
theorem T24.trans (h1:Keeps (T24 w N) w w1) (h2:Keeps (T24 w1 N) w1 w2):Keeps (T24 w N) w w2:=
 h1.trans' h2 (fun _ _ h=>h) (fun y hy h=>by
  by_cases e:T24 w N y
  ·exact e
  ·obtain⟨hN,c,t,hc,ht⟩:=h
   rw [h1.block y hy e] at hc
   exact⟨hN,c,t,hc,ht⟩)
theorem T24.not {z:Nat} {c:Array Value} {t:TypeId} (hz:w.heap[z]?=some (.cells c t)) (ht:¬ Ty24 t):¬ T24 w N z:=fun ⟨_,c',t',h,h'⟩=>by
 rw [hz] at h
 simp at h
 rw [← h.2] at h'
 exact ht h'
theorem T24.alien:Alien (T24 w N) w:=fun y c t hy ht hs=>T24.not hy (by rcases ht with rfl | rfl | rfl | rfl | rfl <;> decide) hs
theorem ints_block {v:Value} {base:Nat} {l:List Int} (h:IRow w base v l) {y:Nat} (hy:v.ownBlock=some y):∃ c,w.heap[y]?=some (.cells c 3):=by
 rcases h.2 with⟨rfl,_⟩ | ⟨g,cap,cur,rfl,_,hg,_⟩
 ·cases hy
 ·obtain rfl:g=y:=Option.some.inj hy
  exact⟨_,hg⟩
theorem R24.foot (h:R24 w m L M q) (lo:L.Lo N m M.K.many) {y:Nat} (hy:y=m∨y=L.c∨y=L.p∨y=L.ps∨y=L.st∨∃ j,j<M.K.many∧(y=L.bb j∨(L.bv j).ownBlock=some y)):T24 w N y:=by
 obtain⟨⟨cap,o⟩,_,hc,hp,hs,hb,_⟩:=h
 rcases hy with rfl | rfl | rfl | rfl | rfl | ⟨j,hj,rfl | hy⟩
 ·exact⟨lo.m,_,_,o,by decide⟩
 ·obtain⟨ck,oc⟩:=hc.own;exact⟨lo.c,_,_,oc,by decide⟩
 ·obtain⟨ck,oc⟩:=hp.own;exact⟨lo.p,_,_,oc,by decide⟩
 ·obtain⟨cur,r,_⟩:=hp.row;exact⟨lo.ps,_,_,r,by decide⟩
 ·exact⟨lo.st,_,_,hs.own,by decide⟩
 ·exact⟨lo.bb j hj,_,_,(hb j hj).1.own,by decide⟩
 ·obtain⟨c,hc⟩:=ints_block (hb j hj).1.row hy
  exact⟨lo.bv j hj y hy,_,_,hc,by decide⟩
def D24 (N:Nat) (w:World) (m:Nat) (M:Mk) (q:Nat):Prop:=∃ L,R24 w m L M q∧L.Lo N m M.K.many
def To24 (N:Nat) (w w':World) (m:Nat) (M':Mk) (q:Nat):Prop:=Keeps (T24 w N) w w'∧D24 N w' m M' q
theorem R24.to (h:R24 w m L M q) (lo:L.Lo N m M.K.many) (hk:Keeps S w w') (hS:∀ y,S y→y=m∨y=L.c∨y=L.p∨y=L.ps∨y=L.st∨∃ j,j<M.K.many∧(y=L.bb j∨(L.bv j).ownBlock=some y)):Keeps (T24 w N) w w':=
 hk.mono (fun y _ hy=>h.foot lo (hS y hy))
theorem R24.toPS (h:R24 w m L M q) (lo:L.Lo N m M.K.many) (hk:Keeps (fun y=>y=L.ps∨y=L.st) w w'):Keeps (T24 w N) w w':=
 h.to lo hk (fun y hy=>hy.elim (fun h=>.inr (.inr (.inr (.inl h)))) (fun h=>.inr (.inr (.inr (.inr (.inl h))))))
theorem L24.Lo.sv {k:Nat} {v:Value} (lo:L.Lo N m k):({ L with sv:=v }:L24).Lo N m k:=⟨lo.m,lo.c,lo.p,lo.ps,lo.st,lo.bb,lo.bv⟩
theorem L24.Lo.cs {k s:Nat} (lo:L.Lo N m k):({ L with cs:=s }:L24).Lo N m k:=⟨lo.m,lo.c,lo.p,lo.ps,lo.st,lo.bb,lo.bv⟩
theorem L24.Lo.bv1 {k i:Nat} {v:Value} (lo:L.Lo N m k) (hv:∀ z,v.ownBlock=some z→N≤z):({ L with bv:=updf L.bv i v }:L24).Lo N m k:=by
 refine⟨lo.m,lo.c,lo.p,lo.ps,lo.st,lo.bb,fun j hj z hz=>?_⟩
 have hz':(updf L.bv i v j).ownBlock=some z:=hz
 by_cases e:j=i
 ·rw [e,updf_same'] at hz';exact hv z hz'
 ·rw [updf_oth' _ _ e] at hz';exact lo.bv j hj z hz'
theorem R24.setS {T:Sq} {v:Value} (h:R24 w m L M q) (hk:Keeps (fun y=>y=L.st) w w') (hT:R20 w' L.st v T) (hv:∀ k,v.ownBlock=some k→L.sv.ownBlock=some k∨w.heap.size≤k):R24 w' m { L with sv:=v } { M with S:=T } q:=by
 obtain⟨cp,op⟩:=h.pt.own
 obtain⟨curp,rp,_,_⟩:=h.pt.row
 exact h.setPS (P:=M.P) (hk.mono (fun _ _ h=>.inr h)) (h.pt.keeps hk (type_ne op h.st.own (by decide)) (type_ne rp h.st.own (by decide))) hT rfl hv
theorem trace24 (h:D24 N w m M q) (hR:R18 w x LR A) (hok:M.Ok) (hn:A.H.T.n=M.P.n) (hp:M.K.ph=3) (hcy:M.K.cy<4611686018427387904):
 Calls Tryz.prog 142 #[.pointer (some ⟨m,0,none⟩),.pointer (some ⟨x,0,none⟩)] w fun e w'=>e = .returned (.tuple #[])∧To24 N w w' m (M.traceR A.H) q:=by
 have HD0:=hid (show D24 N w m (M.drains 0) q from h)
 have HRR:=hid (fun W (hk:Keeps (T24 w N) w W)=>hR.keeps hk T24.alien)
 have HOK:=hid (fun k (hk:k≤M.K.many)=>And.intro (hok.drains hk) (M.drains_K k))
 have HTR:=hid (show M.traceR A.H=(M.drains M.K.many).trace1 A.H from rfl)
 have hk4:=hok.k4
 obtain⟨k,hkk⟩:∃ k,M.K.many=k:=⟨_,rfl⟩
 rw [hkk] at HOK HTR hk4
 have HKK:=hid hkk;have HN:=hid hn;have HP:=hid hp;have HCY:=hid hcy
 clear h hR hok hn hp hcy hkk
 go_enter Tryz.func142,Tryz.ntmps142
 go_wp2_with fail
 go_loopw [4] (fun ix wr=>∃ i:Nat,i≤k∧ix = .int .i64 i∧Hid (D24 N wr m (M.drains i) q)∧Hid (Keeps (T24 w N) w wr)) (fun ix _=>k - (intOf ix).toNat)
 case atStart=>exact⟨0,Nat.zero_le _,rfl,HD0,hid (Keeps.refl _ _)⟩
 case round=>
  clear HD0
  obtain⟨i,hi,rfl,HD,HK⟩:=hrel
  have hi0:(0:Int)≤i:=by omega
  obtain⟨hok1,hK1,hn1⟩:=HOK.out i hi
  have HNX:=hid (show M.drains (i+1)=(M.drains i).drain1 i from rfl)
  obtain⟨Mi,hMi⟩:∃ Mi,M.drains i=Mi:=⟨_,rfl⟩
  rw [hMi] at hok1 hK1 hn1 HD HNX
  have HMI:=hid hMi
  obtain⟨L,h24,lo⟩:=HD.out
  have hmany:Mi.K.many=k:=by rw [hK1];exact HKK.out
  obtain⟨cap,c0,c1,c2,c3,c4,c5,c6,cl⟩:=h24.cells
  rw [hmany] at c6
  have HMY:=hid hmany
  by_cases hlt:i<k
  ·obtain⟨cur,hrb,hcur⟩:=h24.row
   have d0:=cell_at hrb (hcur i (by omega))
   have hlt':(i:Int)<(k:Int):=by omega
   have h21:=(h24.bf i (by omega)).1
   have HDR:=hid (drain21 h21)
   have H24:=hid h24;have HLO:=hid lo
   have HLI:=hid (hok1.list (j:=i) (by omega))
   have hlen:(Mi.B i).list.length≤64:=by
    have e:(Mi.B i).list.length=(Mi.B i).n:=by simp [Bf.list]
    have:=h21.nn;have:=h21.p2;omega
   have HPN:=hid hn1
   clear h24 lo hrb hcur HD hMi h21 hn1 hok1 hK1 hmany
   go_wp2_with fail
   refine HDR.out.mono ?_
   rintro e w2 ⟨vo,rfl,hro,k2,v',hv',h21⟩
   obtain⟨p,c,rfl⟩:=own_shape hro
   have hlt2:=hro.lt
   have h24b:=H24.out.setBf (i:=i) (B:=(Mi.B i).drain) (by have:=HMY.out;omega) (k2.mono (fun _ _ h=>.inl h)) h21 rfl (fun z hz=>.inr (hv' z hz).1)
   have hmsz:m<wr.heap.size:=by obtain⟨_,o⟩:=H24.out.own;exact lt_block o
   have hlo1:=HLO.out.bv1 (i:=i) (v:=v') (fun z hz=>by have:=(hv' z hz).1;have:=HLO.out.m;omega)
   have hkt:=H24.out.to HLO.out k2 (fun y hy=>.inr (.inr (.inr (.inr (.inr ⟨i,by have:=HMY.out;omega,.inl hy⟩)))))
   have hpss:L.ps<wr.heap.size∧L.st<wr.heap.size:=by obtain⟨_,r,_⟩:=H24.out.pt.row;exact⟨lt_block r,lt_block H24.out.st.own⟩
   obtain⟨l,hl⟩:∃ l,(Mi.B i).list=l:=⟨_,rfl⟩
   obtain⟨L1,hL1⟩:∃ L1,({ L with bv:=updf L.bv i v' }:L24)=L1:=⟨_,rfl⟩
   obtain⟨M1,hM1⟩:∃ M1,({ Mi with B:=updf Mi.B i (Mi.B i).drain }:Mk)=M1:=⟨_,rfl⟩
   have HM1:=hid hM1
   have HFIN:=hid (show M1.shade l=Mi.drain1 i from by rw [← hM1,← hl];rfl)
   have hM1n:M1.P.n=M.P.n:=by rw [← hM1];exact HPN.out
   have hM1k:M1.K.many=Mi.K.many:=by rw [← hM1]
   have hps1:L1.ps=L.ps∧L1.st=L.st:=by rw [← hL1];exact⟨rfl,rfl⟩
   rw [hl] at hro hlen hlt2 HLI ⊢
   rw [hL1] at hlo1
   rw [hL1,hM1] at h24b
   obtain⟨nl,hnl⟩:∃ nl,l.length=nl:=⟨_,rfl⟩
   rw [hnl] at hro hlen hlt2 ⊢
   have HNL:=hid hnl;have HV:=hid hro.ints;have H24B:=hid h24b;have HLO1:=hid hlo1;have HPK:=hid (And.intro hM1n hM1k)
   have HNE:=hid (show ∀ z,(Value.slice p nl c).ownBlock=some z→¬ (z=L1.ps∨z=L1.st) from fun z hz=>by have:=(hlt2 z hz).1;rw [hps1.1,hps1.2];omega)
   have HK2:=hid (T24.trans HK.out hkt)
   clear hro h24b hlo1 hM1 hM1n hM1k hps1 hL1 hl hnl hlt2 hkt hpss hmsz h21 hv' k2 HK c0 c1 c2 c3 c4 c5 c6 cl d0 HDR H24 HLO
   go_wp2_with fail
   go_loopw [7] (fun jx wr=>∃ (j:Nat) (sv:Value),j≤nl∧jx = .int .i64 j∧Hid (R24 wr m { L1 with sv:=sv } (M1.shade (l.take j)) q)∧Hid (Ints wr (.slice p nl c) l)∧Hid (Keeps (T24 w N) w wr)) (fun jx _=>nl - (intOf jx).toNat)
   case atStart=>exact⟨0,L1.sv,Nat.zero_le _,rfl,H24B,HV,HK2⟩
   case round=>
    clear H24B HV HK2
    obtain⟨j,sv,hj,rfl,HR,HV,HK⟩:=hrel
    have hj0:(0:Int)≤j:=by omega
    by_cases hjl:j<nl
    ·have hjl':(j:Int)<(nl:Int):=by omega
     obtain⟨y,hy⟩:∃ y,l[j]?=some y:=⟨_,List.getElem?_eq_getElem (by rw [HNL.out];exact hjl)⟩
     obtain⟨g,rfl,hgl,d0⟩:=HV.out.cell.2 j y hy
     obtain⟨hy0,hy1⟩:=HLI.out y (List.mem_of_getElem? hy)
     obtain⟨s,rfl⟩:∃ s:Nat,y=s:=⟨y.toNat,by omega⟩
     have HTK:=hid (show l.take (j+1)=l.take j ++ [(s:Int)] from by rw [List.take_add_one,hy];rfl)
     have hsn:s<(M1.shade (l.take j)).P.n:=by rw [Mk.shade24_n,HPK.out.1,← HPN.out];omega
     have HSH:=hid (shade24 s HR.out hsn)
     clear hy hy0 hy1 hsn
     go_wp2_with fail
     refine HSH.out.mono ?_
     rintro e w3 ⟨rfl,k3,sv3,h3⟩
     have HR3:=hid (show R24 w3 m { L1 with sv:=sv3 } (M1.shade (l.take (j+1))) q from by
      rw [HTK.out,Mk.shade24_snoc,Int.toNat_natCast]
      exact h3)
     have HV3:=hid (HV.out.keeps k3 (fun z hz=>HNE.out z hz))
     have HK3:=hid (T24.trans HK.out (HR.out.toPS (show L24.Lo _ N m (M1.shade (l.take j)).K.many from by rw [show (M1.shade (l.take j)).K=M1.K from rfl,HPK.out.2];exact HLO1.out.sv) k3))
     clear k3 h3 d0
     go_wp2_with fail
     exact⟨⟨j+1,sv3,by omega,by go_num,HR3,HV3,HK3⟩,by simp [intOf];omega⟩
    ·obtain rfl:j=nl:=by omega
     have ht:l.take j=l:=List.take_of_length_le (by rw [HNL.out];exact Nat.le_refl _)
     rw [ht,HFIN.out] at HR
     go_wp2_with fail
     exact⟨⟨i+1,by omega,by go_num,by rw [HNX.out];exact hid ⟨_,HR.out,HLO1.out.sv⟩,HK⟩,by simp [intOf];omega⟩
  ·obtain rfl:i=k:=by omega
   have hRw:=HRR.out _ HK.out
   have hn2:A.H.T.n=Mi.P.n:=by rw [hn1];exact HN.out
   rw [HMI.out] at HTR
   have hph:Mi.K.ph=3:=by rw [hK1];exact HP.out
   have hcy:Mi.K.cy<4611686018427387904:=by rw [hK1];exact HCY.out
   have H24:=hid h24;have HLO:=hid lo;have HRW:=hid hRw;have HN2:=hid hn2;have HPH:=hid (And.intro hph hcy);have HOKI:=hid hok1
   have hlo:=lo
   by_cases hs:Mi.S.n=0
   ·have HPOP:=hid (pop20_none h24.st hs)
    have HG:=hid (grey15 h24.pt)
    have HS:=hid hs
    clear h24 lo hlo hRw hn2 hph hcy hok1 hK1 hn1 hs hMi HNX HD
    go_wp2_with fail
    refine (HPOP.out).mono ?_
    rintro e w' ⟨rfl,h'⟩
    obtain rfl:=h'.symm
    go_wp2_with fail
    refine HG.out.mono ?_
    rintro e w2 ⟨he,k2⟩
    have h2:=H24.out.k0 k2
    have H2:=hid h2;have K2:=hid k2
    obtain⟨cap,c0,c1,c2,c3,c4,c5,c6,cl⟩:=h2.cells
    clear h2
    rcases he with⟨hg,rfl⟩ | ⟨s,t,hg,rfl⟩
    ·have HT1:=hid (show Mi.trace1 A.H={ Mi with K:=Mi.K.go } from by unfold Mk.trace1;rw [if_pos HS.out,hg])
     have HGO:=hid (go22_ok H2.out.clk (by rw [HPH.out.1];decide) (fun h=>by have:=HPH.out.1;omega) HPH.out.2)
     clear hg k2
     go_wp2_with fail
     refine HGO.out.mono ?_
     rintro e w3 ⟨rfl,k3,cs,_,h3⟩
     have H3:=hid h3;have K3:=hid k3
     clear k3 h3
     go_wp2_with fail
     go_end0
     rw [HTR.out,HT1.out]
     exact⟨rfl,T24.trans HK.out (T24.trans K2.out.up (H2.out.to HLO.out K3.out (fun y hy=>.inr (.inl hy)))),_,H2.out.setC K3.out H3.out rfl,HLO.out.cs⟩
    ·have hc1:Mi.P.c s=1∧s<Mi.P.n:=Pt.gr_mem Mi.P Mi.P.n (by rw [hg];simp)
     have HT1:=hid (show Mi.trace1 A.H=Mi.scanAt A.H s from by unfold Mk.trace1;rw [if_pos HS.out,hg])
     have HSC:=hid (scan18 s H2.out (HRW.out.k0 k2) hc1.2 HN2.out hc1.1)
     clear hg k2 hc1
     go_wp2_with fail
     refine HSC.out.mono ?_
     rintro e w4 ⟨rfl,k4,sv4,h4⟩
     have H4:=hid h4;have K4:=hid k4
     clear k4 h4
     go_wp2_with fail
     refine bodyPost_ret (results_none rfl _ _ _) rfl ?_
     rw [HTR.out,HT1.out]
     exact⟨rfl,T24.trans HK.out (T24.trans K2.out.up (H2.out.toPS HLO.out K4.out)),_,H4.out,by rw [(Mi.scanAt_K A.H s).1];exact HLO.out.sv⟩
   ·have HPOP:=hid (pop20_ok h24.st (by omega))
    obtain⟨hs0,hs1⟩:=hok1.st (Mi.S.n - 1)
    obtain⟨s,hsl⟩:∃ s:Nat,Mi.S.f (Mi.S.n - 1)=s:=⟨(Mi.S.f (Mi.S.n - 1)).toNat,by omega⟩
    rw [hsl] at HPOP hs0 hs1
    have HSN:=hid (show s<Mi.P.n by omega)
    have HT1:=hid (show Mi.trace1 A.H=if Mi.P.c s=1 then Mk.scanAt { Mi with S:=Mi.S.pop } A.H s else { Mi with S:=Mi.S.pop } from by unfold Mk.trace1;rw [if_neg hs,hsl,Int.toNat_natCast])
    clear h24 lo hlo hRw hn2 hph hcy hok1 hK1 hn1 hs hMi HNX HD hsl hs0 hs1
    go_wp2_with fail
    refine HPOP.out.mono ?_
    rintro e w2 ⟨rfl,k2,v2,hv2,h20⟩
    have h2:=H24.out.setS k2 h20 (fun z hz=>.inr (hv2 z hz))
    have HKT:=hid (H24.out.to HLO.out k2 (fun y hy=>.inr (.inr (.inr (.inr (.inl hy))))))
    have H2:=hid h2
    have HRW2:=hid (HRW.out.keeps (k2.mono (T:=fun y=>y=L.ps∨y=L.st) (fun _ _ h=>.inr h)) H24.out.alien)
    have HOF:=hid (of15_ok s h2.pt HSN.out)
    obtain⟨cap,c0,c1,c2,c3,c4,c5,c6,cl⟩:=h2.cells
    clear k2 hv2 h20 h2
    by_cases hc:Mi.P.c s=1
    ·have HSC:=hid (scan18 s H2.out HRW2.out HSN.out HN2.out hc)
     rw [if_pos hc] at HT1
     rw [show ({ Mi with S:=Mi.S.pop }:Mk).P.c s=1 from hc] at HOF
     clear hc
     go_wp2_with fail
     refine (HOF.out).mono ?_
     rintro e w' ⟨rfl,h'⟩
     obtain rfl:=h'.symm
     go_wp2_with fail
     refine HSC.out.mono ?_
     rintro e w4 ⟨rfl,k4,sv4,h4⟩
     have H4:=hid h4;have K4:=hid k4
     clear k4 h4
     go_wp2_with fail
     refine bodyPost_ret (results_none rfl _ _ _) rfl ?_
     rw [HTR.out,HT1.out]
     exact⟨rfl,T24.trans HK.out (T24.trans HKT.out (H2.out.toPS HLO.out.sv K4.out)),_,H4.out,by rw [(Mk.scanAt_K _ A.H s).1];exact HLO.out.sv.sv⟩
    ·rw [if_neg hc] at HT1
     obtain⟨z,hz⟩:∃ z,({ Mi with S:=Mi.S.pop }:Mk).P.c s=z:=⟨_,rfl⟩
     rw [hz] at HOF
     have hz1:(z == 1)=false:=by rw [← hz];simpa using hc
     clear hc hz
     go_wp2_with fail
     refine (HOF.out).mono ?_
     rintro e w' ⟨rfl,h'⟩
     obtain rfl:=h'.symm
     go_wp2_with fail
     refine bodyPost_ret (results_none rfl _ _ _) rfl ?_
     rw [HTR.out,HT1.out]
     exact⟨rfl,T24.trans HK.out HKT.out,_,H2.out,HLO.out.sv⟩
end
end Go.Proofs.YtnlkfbndlngjaaaGreat
