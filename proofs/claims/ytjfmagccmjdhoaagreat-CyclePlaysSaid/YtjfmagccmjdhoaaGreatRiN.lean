import Derived.Test.YtjfmagccmjdhoaaGreatRiM
import Derived.Test.YtjfmagccmjdhoaaGreatRiH
import Derived.Deep.RegionHeldLaw
set_option linter.unusedVariables false
set_option maxHeartbeats 2000000
set_option maxRecDepth 100000
namespace Go.Proofs.YtjfmagccmjdhoaaGreat
open Go.RowKit
attribute [local go_sem] Oper.semAt_some
structure L24.Lo (L:L24) (N m k:Nat):Prop where
 m:N≤m
 c:N≤L.c
 p:N≤L.p
 ps:N≤L.ps
 st:N≤L.st
 bb:∀ j,j<k→N≤L.bb j
 bv:∀ j,j<k→∀ z,(L.bv j).ownBlock=some z→N≤z
def Ty24 (t:TypeId):Prop:=t=173∨t=246∨t=263∨t=3∨t=271∨t=279
instance (t:TypeId):Decidable (Ty24 t):=by unfold Ty24;infer_instance
def T24 (w:World) (N y:Nat):Prop:=N≤y∧∃ c t,w.heap[y]?=some (.cells c t)∧Ty24 t
section
variable {N m q x:Nat} {w w' w1 w2:World} {L:L24} {LR:L18} {M M':Mk} {A:Ar} {S:Nat→Prop}
theorem T24.trans (h1:zA (T24 w N) w w1) (h2:zA (T24 w1 N) w1 w2):zA (T24 w N) w w2:=
 h1.trans' h2 (fun _ _ h=>h) (fun y hy h=>by
  by_cases e:T24 w N y
  ·exact e
  ·obtain⟨hN,c,t,hc,ht⟩:=h
   rw [h1.block y hy e] at hc
   exact⟨hN,c,t,hc,ht⟩)
theorem T24.not {z:Nat} {c:Array Value} {t:TypeId} (hz:w.heap[z]?=some (.cells c t)) (ht:¬ Ty24 t):¬ T24 w N z:=fun ⟨_,c',t',h,h'⟩=>by
 rw [hz] at h
 simp at h
 rw [← h.2] at h'
 exact ht h'
theorem T24.alien:Alien (T24 w N) w:=fun y c t hy ht hs=>T24.not hy (by rcases ht with rfl | rfl | rfl | rfl | rfl <;> decide) hs
theorem ints_block {v:Value} {base:Nat} {l:List Int} (h:IRow w base v l) {y:Nat} (hy:v.ownBlock=some y):∃ c,w.heap[y]?=some (.cells c 3):=by
 rcases h.2 with⟨rfl,_⟩ | ⟨g,cap,cur,rfl,_,hg,_⟩
 ·cases hy
 ·obtain rfl:g=y:=Option.some.inj hy
  exact⟨_,hg⟩
theorem R24.foot (h:R24 w m L M q) (lo:L.Lo N m M.K.many) {y:Nat} (hy:y=m∨y=L.c∨y=L.p∨y=L.ps∨y=L.st∨∃ j,j<M.K.many∧(y=L.bb j∨(L.bv j).ownBlock=some y)):T24 w N y:=by
 obtain⟨⟨cap,o⟩,_,hc,hp,hs,hb,_⟩:=h
 rcases hy with rfl | rfl | rfl | rfl | rfl | ⟨j,hj,rfl | hy⟩
 ·exact⟨lo.m,_,_,o,by decide⟩
 ·obtain⟨ck,oc⟩:=hc.own;exact⟨lo.c,_,_,oc,by decide⟩
 ·obtain⟨ck,oc⟩:=hp.own;exact⟨lo.p,_,_,oc,by decide⟩
 ·obtain⟨cur,r,_⟩:=hp.row;exact⟨lo.ps,_,_,r,by decide⟩
 ·exact⟨lo.st,_,_,hs.own,by decide⟩
 ·exact⟨lo.bb j hj,_,_,(hb j hj).1.own,by decide⟩
 ·obtain⟨c,hc⟩:=ints_block (hb j hj).1.row hy
  exact⟨lo.bv j hj y hy,_,_,hc,by decide⟩
def D24 (N:Nat) (w:World) (m:Nat) (M:Mk) (q:Nat):Prop:=∃ L,R24 w m L M q∧L.Lo N m M.K.many
def To24 (N:Nat) (w w':World) (m:Nat) (M':Mk) (q:Nat):Prop:=zA (T24 w N) w w'∧D24 N w' m M' q
theorem R24.to (h:R24 w m L M q) (lo:L.Lo N m M.K.many) (hk:zA S w w') (hS:∀ y,S y→y=m∨y=L.c∨y=L.p∨y=L.ps∨y=L.st∨∃ j,j<M.K.many∧(y=L.bb j∨(L.bv j).ownBlock=some y)):zA (T24 w N) w w':=
 hk.mono (fun y _ hy=>h.foot lo (hS y hy))
theorem R24.toPS (h:R24 w m L M q) (lo:L.Lo N m M.K.many) (hk:zA (fun y=>y=L.ps∨y=L.st) w w'):zA (T24 w N) w w':=
 h.to lo hk (fun y hy=>hy.elim (fun h=>.inr (.inr (.inr (.inl h)))) (fun h=>.inr (.inr (.inr (.inr (.inl h))))))
theorem L24.Lo.sv {k:Nat} {v:Value} (lo:L.Lo N m k):({ L with sv:=v }:L24).Lo N m k:=⟨lo.m,lo.c,lo.p,lo.ps,lo.st,lo.bb,lo.bv⟩
theorem L24.Lo.cs {k s:Nat} (lo:L.Lo N m k):({ L with cs:=s }:L24).Lo N m k:=⟨lo.m,lo.c,lo.p,lo.ps,lo.st,lo.bb,lo.bv⟩
theorem L24.Lo.bv1 {k i:Nat} {v:Value} (lo:L.Lo N m k) (hv:∀ z,v.ownBlock=some z→N≤z):({ L with bv:=zU L.bv i v }:L24).Lo N m k:=by
 refine⟨lo.m,lo.c,lo.p,lo.ps,lo.st,lo.bb,fun j hj z hz=>?_⟩
 have hz':(zU L.bv i v j).ownBlock=some z:=hz
 by_cases e:j=i
 ·rw [e,updf_same'] at hz';exact hv z hz'
 ·rw [updf_oth' _ _ e] at hz';exact lo.bv j hj z hz'
theorem R24.setS {T:Sq} {v:Value} (h:R24 w m L M q) (hk:zA (fun y=>y=L.st) w w') (hT:R20 w' L.st v T) (hv:∀ k,v.ownBlock=some k→L.sv.ownBlock=some k∨w.heap.size≤k):R24 w' m { L with sv:=v } { M with S:=T } q:=by
 obtain⟨cp,op⟩:=h.pt.own
 obtain⟨curp,rp,_,_⟩:=h.pt.row
 exact h.setPS (P:=M.P) (hk.mono (fun _ _ h=>.inr h)) (h.pt.keeps hk (zM op h.st.own (by decide)) (zM rp h.st.own (by decide))) hT rfl hv
theorem trace24 (h:D24 N w m M q) (hR:R18 w x LR A) (hok:M.Ok) (hn:A.H.T.n=M.P.n) (hp:M.K.ph=3) (hcy:M.K.cy<4611686018427387904):
 Calls Tryz.prog 206 #[.pointer (some ⟨m,0,none⟩),.pointer (some ⟨x,0,none⟩)] w fun e w'=>e = .returned (.tuple #[])∧To24 N w w' m (M.traceR A.H) q:=by
 have HD0:=zC (show D24 N w m (M.drains 0) q from h)
 have HRR:=zC (fun W (hk:zA (T24 w N) w W)=>hR.keeps hk T24.alien)
 have HOK:=zC (fun k (hk:k≤M.K.many)=>And.intro (hok.drains hk) (M.drains_K k))
 have HTR:=zC (show M.traceR A.H=(M.drains M.K.many).trace1 A.H from rfl)
 have hk4:=hok.k4
 obtain⟨k,hkk⟩:∃ k,M.K.many=k:=⟨_,rfl⟩
 rw [hkk] at HOK HTR hk4
 have HKK:=zC hkk;have HN:=zC hn;have HP:=zC hp;have HCY:=zC hcy
 clear h hR hok hn hp hcy hkk
 go_in
 go_wp2_with fail
 go_loopw [4] (fun ix wr=>∃ i:Nat,i≤k∧ix = .int .i64 i∧Hid (D24 N wr m (M.drains i) q)∧Hid (zA (T24 w N) w wr)) (fun ix _=>k - (intOf ix).toNat)
 case atStart=>exact⟨0,Nat.zero_le _,rfl,HD0,zC (zA.refl _ _)⟩
 case round=>
  clear HD0
  obtain⟨i,hi,rfl,HD,HK⟩:=hrel
  have hi0:(0:Int)≤i:=by omega
  obtain⟨hok1,hK1,hn1⟩:=HOK.out i hi
  have HNX:=zC (show M.drains (i+1)=(M.drains i).drain1 i from rfl)
  obtain⟨Mi,hMi⟩:∃ Mi,M.drains i=Mi:=⟨_,rfl⟩
  rw [hMi] at hok1 hK1 hn1 HD HNX
  have HMI:=zC hMi
  obtain⟨L,h24,lo⟩:=HD.out
  have hmany:Mi.K.many=k:=by rw [hK1];exact HKK.out
  obtain⟨cap,c0,c1,c2,c3,c4,c5,c6,cl⟩:=h24.cells
  rw [hmany] at c6
  have HMY:=zC hmany
  by_cases hlt:i<k
  ·obtain⟨cur,hrb,hcur⟩:=h24.row
   have d0:=zD hrb (hcur i (by omega))
   have hlt':(i:Int)<(k:Int):=by omega
   have h21:=(h24.bf i (by omega)).1
   have HDR:=zC (drain21 h21)
   have H24:=zC h24;have HLO:=zC lo
   have HLI:=zC (hok1.list (j:=i) (by omega))
   have hlen:(Mi.B i).list.length≤64:=by
    have e:(Mi.B i).list.length=(Mi.B i).n:=by simp [Bf.list]
    have:=h21.nn;have:=h21.p2;omega
   have HPN:=zC hn1
   clear h24 lo hrb hcur HD hMi h21 hn1 hok1 hK1 hmany
   go_wp2_with fail
   refine HDR.out.mono ?_
   rintro e w2 ⟨vo,rfl,hro,k2,v',hv',h21⟩
   obtain⟨p,c,rfl⟩:=zW hro
   have hlt2:=hro.lt
   have h24b:=H24.out.setBf (i:=i) (B:=(Mi.B i).drain) (by have:=HMY.out;omega) (k2.mono (fun _ _ h=>.inl h)) h21 rfl (fun z hz=>.inr (hv' z hz).1)
   have hmsz:m<wr.heap.size:=by obtain⟨_,o⟩:=H24.out.own;exact zF o
   have hlo1:=HLO.out.bv1 (i:=i) (v:=v') (fun z hz=>by have:=(hv' z hz).1;have:=HLO.out.m;omega)
   have hkt:=H24.out.to HLO.out k2 (fun y hy=>.inr (.inr (.inr (.inr (.inr ⟨i,by have:=HMY.out;omega,.inl hy⟩)))))
   have hpss:L.ps<wr.heap.size∧L.st<wr.heap.size:=by obtain⟨_,r,_⟩:=H24.out.pt.row;exact⟨zF r,zF H24.out.st.own⟩
   obtain⟨l,hl⟩:∃ l,(Mi.B i).list=l:=⟨_,rfl⟩
   obtain⟨L1,hL1⟩:∃ L1,({ L with bv:=zU L.bv i v' }:L24)=L1:=⟨_,rfl⟩
   obtain⟨M1,hM1⟩:∃ M1,({ Mi with B:=zU Mi.B i (Mi.B i).drain }:Mk)=M1:=⟨_,rfl⟩
   have HM1:=zC hM1
   have HFIN:=zC (show M1.shade l=Mi.drain1 i from by rw [← hM1,← hl];rfl)
   have hM1n:M1.P.n=M.P.n:=by rw [← hM1];exact HPN.out
   have hM1k:M1.K.many=Mi.K.many:=by rw [← hM1]
   have hps1:L1.ps=L.ps∧L1.st=L.st:=by rw [← hL1];exact⟨rfl,rfl⟩
   rw [hl] at hro hlen hlt2 HLI ⊢
   rw [hL1] at hlo1
   rw [hL1,hM1] at h24b
   obtain⟨nl,hnl⟩:∃ nl,l.length=nl:=⟨_,rfl⟩
   rw [hnl] at hro hlen hlt2 ⊢
   have HNL:=zC hnl;have HV:=zC hro.ints;have H24B:=zC h24b;have HLO1:=zC hlo1;have HPK:=zC (And.intro hM1n hM1k)
   have HNE:=zC (show ∀ z,(Value.slice p nl c).ownBlock=some z→¬ (z=L1.ps∨z=L1.st) from fun z hz=>by have:=(hlt2 z hz).1;rw [hps1.1,hps1.2];omega)
   have HK2:=zC (T24.trans HK.out hkt)
   clear hro h24b hlo1 hM1 hM1n hM1k hps1 hL1 hl hnl hlt2 hkt hpss hmsz h21 hv' k2 HK c0 c1 c2 c3 c4 c5 c6 cl d0 HDR H24 HLO
   go_wp2_with fail
   go_loopw [7] (fun jx wr=>∃ (j:Nat) (sv:Value),j≤nl∧jx = .int .i64 j∧Hid (R24 wr m { L1 with sv:=sv } (M1.shade (l.take j)) q)∧Hid (Ints wr (.slice p nl c) l)∧Hid (zA (T24 w N) w wr)) (fun jx _=>nl - (intOf jx).toNat)
   case atStart=>exact⟨0,L1.sv,Nat.zero_le _,rfl,H24B,HV,HK2⟩
   case round=>
    clear H24B HV HK2
    obtain⟨j,sv,hj,rfl,HR,HV,HK⟩:=hrel
    have hj0:(0:Int)≤j:=by omega
    by_cases hjl:j<nl
    ·have hjl':(j:Int)<(nl:Int):=by omega
     obtain⟨y,hy⟩:∃ y,l[j]?=some y:=⟨_,List.getElem?_eq_getElem (by rw [HNL.out];exact hjl)⟩
     obtain⟨g,rfl,hgl,d0⟩:=HV.out.cell.2 j y hy
     obtain⟨hy0,hy1⟩:=HLI.out y (List.mem_of_getElem? hy)
     obtain⟨s,rfl⟩:∃ s:Nat,y=s:=⟨y.toNat,by omega⟩
     have HTK:=zC (show l.take (j+1)=l.take j ++ [(s:Int)] from by rw [List.take_add_one,hy];rfl)
     have hsn:s<(M1.shade (l.take j)).P.n:=by rw [Mk.shade24_n,HPK.out.1,← HPN.out];omega
     have HSH:=zC (shade24 s HR.out hsn)
     clear hy hy0 hy1 hsn
     go_wp2_with fail
     refine HSH.out.mono ?_
     rintro e w3 ⟨rfl,k3,sv3,h3⟩
     have HR3:=zC (show R24 w3 m { L1 with sv:=sv3 } (M1.shade (l.take (j+1))) q from by
      rw [HTK.out,Mk.shade24_snoc,Int.toNat_natCast]
      exact h3)
     have HV3:=zC (HV.out.keeps k3 (fun z hz=>HNE.out z hz))
     have HK3:=zC (T24.trans HK.out (HR.out.toPS (show L24.Lo _ N m (M1.shade (l.take j)).K.many from by rw [show (M1.shade (l.take j)).K=M1.K from rfl,HPK.out.2];exact HLO1.out.sv) k3))
     clear k3 h3 d0
     go_wp2_with fail
     exact⟨⟨j+1,sv3,by omega,by go_num,HR3,HV3,HK3⟩,by simp [intOf];omega⟩
    ·obtain rfl:j=nl:=by omega
     have ht:l.take j=l:=List.take_of_length_le (by rw [HNL.out];exact Nat.le_refl _)
     rw [ht,HFIN.out] at HR
     go_wp2_with fail
     exact⟨⟨i+1,by omega,by go_num,by rw [HNX.out];exact zC ⟨_,HR.out,HLO1.out.sv⟩,HK⟩,by simp [intOf];omega⟩
  ·obtain rfl:i=k:=by omega
   have hRw:=HRR.out _ HK.out
   have hn2:A.H.T.n=Mi.P.n:=by rw [hn1];exact HN.out
   rw [HMI.out] at HTR
   have hph:Mi.K.ph=3:=by rw [hK1];exact HP.out
   have hcy:Mi.K.cy<4611686018427387904:=by rw [hK1];exact HCY.out
   have H24:=zC h24;have HLO:=zC lo;have HRW:=zC hRw;have HN2:=zC hn2;have HPH:=zC (And.intro hph hcy);have HOKI:=zC hok1
   have hlo:=lo
   by_cases hs:Mi.S.n=0
   ·have HPOP:=zC (pop20_none h24.st hs)
    have HG:=zC (grey15 h24.pt)
    have HS:=zC hs
    clear h24 lo hlo hRw hn2 hph hcy hok1 hK1 hn1 hs hMi HNX HD
    go_wp2_with fail
    refine zP HPOP.out ?_
    go_wp2_with fail
    refine HG.out.mono ?_
    rintro e w2 ⟨he,k2⟩
    have h2:=H24.out.k0 k2
    have H2:=zC h2;have K2:=zC k2
    obtain⟨cap,c0,c1,c2,c3,c4,c5,c6,cl⟩:=h2.cells
    clear h2
    rcases he with⟨hg,rfl⟩ | ⟨s,t,hg,rfl⟩
    ·have HT1:=zC (show Mi.trace1 A.H={ Mi with K:=Mi.K.go } from by unfold Mk.trace1;rw [if_pos HS.out,hg])
     have HGO:=zC (go22_ok H2.out.clk (by rw [HPH.out.1];decide) (fun h=>by have:=HPH.out.1;omega) HPH.out.2)
     clear hg k2
     go_wp2_with fail
     refine HGO.out.mono ?_
     rintro e w3 ⟨rfl,k3,cs,_,h3⟩
     have H3:=zC h3;have K3:=zC k3
     clear k3 h3
     go_wp2_with fail
     go_end0
     rw [HTR.out,HT1.out]
     exact⟨rfl,T24.trans HK.out (T24.trans K2.out.up (H2.out.to HLO.out K3.out (fun y hy=>.inr (.inl hy)))),_,H2.out.setC K3.out H3.out rfl,HLO.out.cs⟩
    ·have hc1:Mi.P.c s=1∧s<Mi.P.n:=Pt.gr_mem Mi.P Mi.P.n (by rw [hg];simp)
     have HT1:=zC (show Mi.trace1 A.H=Mi.scanAt A.H s from by unfold Mk.trace1;rw [if_pos HS.out,hg])
     have HSC:=zC (scan18 s H2.out (HRW.out.k0 k2) hc1.2 HN2.out hc1.1)
     clear hg k2 hc1
     go_wp2_with fail
     refine HSC.out.mono ?_
     rintro e w4 ⟨rfl,k4,sv4,h4⟩
     have H4:=zC h4;have K4:=zC k4
     clear k4 h4
     go_wp2_with fail
     refine bodyPost_ret (results_none rfl _ _ _) rfl ?_
     rw [HTR.out,HT1.out]
     exact⟨rfl,T24.trans HK.out (T24.trans K2.out.up (H2.out.toPS HLO.out K4.out)),_,H4.out,by rw [(Mi.scanAt_K A.H s).1];exact HLO.out.sv⟩
   ·have HPOP:=zC (pop20_ok h24.st (by omega))
    obtain⟨hs0,hs1⟩:=hok1.st (Mi.S.n - 1)
    obtain⟨s,hsl⟩:∃ s:Nat,Mi.S.f (Mi.S.n - 1)=s:=⟨(Mi.S.f (Mi.S.n - 1)).toNat,by omega⟩
    rw [hsl] at HPOP hs0 hs1
    have HSN:=zC (show s<Mi.P.n by omega)
    have HT1:=zC (show Mi.trace1 A.H=if Mi.P.c s=1 then Mk.scanAt { Mi with S:=Mi.S.pop } A.H s else { Mi with S:=Mi.S.pop } from by unfold Mk.trace1;rw [if_neg hs,hsl,Int.toNat_natCast])
    clear h24 lo hlo hRw hn2 hph hcy hok1 hK1 hn1 hs hMi HNX HD hsl hs0 hs1
    go_wp2_with fail
    refine HPOP.out.mono ?_
    rintro e w2 ⟨rfl,k2,v2,hv2,h20⟩
    have h2:=H24.out.setS k2 h20 (fun z hz=>.inr (hv2 z hz))
    have HKT:=zC (H24.out.to HLO.out k2 (fun y hy=>.inr (.inr (.inr (.inr (.inl hy))))))
    have H2:=zC h2
    have HRW2:=zC (HRW.out.keeps (k2.mono (T:=fun y=>y=L.ps∨y=L.st) (fun _ _ h=>.inr h)) H24.out.alien)
    have HOF:=zC (of15_ok s h2.pt HSN.out)
    obtain⟨cap,c0,c1,c2,c3,c4,c5,c6,cl⟩:=h2.cells
    clear k2 hv2 h20 h2
    by_cases hc:Mi.P.c s=1
    ·have HSC:=zC (scan18 s H2.out HRW2.out HSN.out HN2.out hc)
     rw [if_pos hc] at HT1
     rw [show ({ Mi with S:=Mi.S.pop }:Mk).P.c s=1 from hc] at HOF
     clear hc
     go_wp2_with fail
     refine zP HOF.out ?_
     go_wp2_with fail
     refine HSC.out.mono ?_
     rintro e w4 ⟨rfl,k4,sv4,h4⟩
     have H4:=zC h4;have K4:=zC k4
     clear k4 h4
     go_wp2_with fail
     refine bodyPost_ret (results_none rfl _ _ _) rfl ?_
     rw [HTR.out,HT1.out]
     exact⟨rfl,T24.trans HK.out (T24.trans HKT.out (H2.out.toPS HLO.out.sv K4.out)),_,H4.out,by rw [(Mk.scanAt_K _ A.H s).1];exact HLO.out.sv.sv⟩
    ·rw [if_neg hc] at HT1
     obtain⟨z,hz⟩:∃ z,({ Mi with S:=Mi.S.pop }:Mk).P.c s=z:=⟨_,rfl⟩
     rw [hz] at HOF
     have hz1:(z == 1)=false:=by rw [← hz];simpa using hc
     clear hc hz
     go_wp2_with fail
     refine zP HOF.out ?_
     go_wp2_with fail
     refine bodyPost_ret (results_none rfl _ _ _) rfl ?_
     rw [HTR.out,HT1.out]
     exact⟨rfl,T24.trans HK.out HKT.out,_,H2.out,HLO.out.sv⟩
end
end Go.Proofs.YtjfmagccmjdhoaaGreat
namespace Go.Proofs.YtjfmagccmjdhoaaGreat
open Go.RowKit
attribute [local go_sem] Oper.semAt_some
section
variable {w w':World} {b s:Nat} {v:Value} {T:Sq} {B:Bf} {K:Ck} {P:Pt}
end
attribute [local go_sem] Oper.semAt_some
section
variable {w0 w w' W:World} {m q base i:Nat} {L:L24} {M:Mk} {S:Nat→Prop} {l:List Value} {bb:Nat→Nat} {bv:Nat→Value} {B:Nat→Bf}
end
theorem new15R (n:Nat) (w:World) (h1:1≤n) (h4:n≤256):Calls Tryz.prog 157 #[.int .i64 n] w fun e w'=>∃ b,e = .returned (.tuple #[.pointer (some ⟨b,0,none⟩),.int .i64 0])∧Kz w w'∧w.heap.size≤b∧∃ s,w.heap.size≤s∧R15 w' b s ⟨n,fun _=>0⟩:=by
 obtain⟨C,hC,hC2⟩:=made_ints h1 h4
 have e1:¬ (n:Int)<1:=by omega
 have e4:¬ 256<(n:Int):=by omega
 have HC2:=zC hC2
 clear hC2
 go_in
 go_wp2_with fail
 go_ret2
 have hsz:n≤C.size:=by have:=(Array.getElem?_eq_some_iff.1 (HC2.out (n - 1) (by omega))).1;omega
 exact⟨w.heap.size+1,rfl,((zA.refl _ _).alloc _).alloc _,by simp,w.heap.size,Nat.le_refl _,⟨⟨n,zN (by simp)⟩,⟨C,zG zE,hsz,HC2.out⟩,h1,h4⟩⟩
theorem new20R (n:Nat) (w:World) (h1:1≤n) (h4:n≤64):Calls Tryz.prog 158 #[.int .i64 n] w fun e w'=>∃ b,e = .returned (.tuple #[.pointer (some ⟨b,0,none⟩),.int .i64 0])∧Kz w w'∧w.heap.size≤b∧R20 w' b (.slice none 0 0) ⟨false,0,n,0,fun _=>0⟩:=by
 have e1:¬ (n:Int)<1:=by omega
 have e4:¬ 64<(n:Int):=by omega
 go_in
 go_wp2_with fail
 go_ret2
 exact⟨_,rfl,(zA.refl _ _).alloc _,Nat.le_refl _,⟨zE,IRow.nil _ _,h1,h4,Nat.zero_le _,Int.le_refl _,by show (0:Int)≤64;decide⟩⟩
theorem new24R (n k q p:Nat) (w:World) (n1:1≤n) (n2:n≤256) (k1:1≤k) (k4:k≤4) (s1:1≤q) (s2:q≤64) (p1:1≤p) (p2:p≤64):
 Calls Tryz.prog 77 #[.int .i64 n,.int .i64 k,.int .i64 q,.int .i64 p] w fun e w'=>∃ m,e = .returned (.tuple #[.pointer (some ⟨m,0,none⟩),.int .i64 0])∧Kz w w'∧D24 w.heap.size w' m (Mk.new n k q p) p:=by
 have e1:¬ (n:Int)<1:=by omega
 have e2:¬ 256<(n:Int):=by omega
 have e3:¬ (k:Int)<1:=by omega
 have e4:¬ 4<(k:Int):=by omega
 have e5:¬ (q:Int)<1:=by omega
 have e6:¬ 64<(q:Int):=by omega
 have e7:¬ (p:Int)<1:=by omega
 have e8:¬ 64<(p:Int):=by omega
 have H22:=zC (fun W=>new22_ok k W k1 k4)
 have H15:=zC (fun W=>new15R n W n1 n2)
 have H20:=zC (fun W=>new20R q W s1 s2)
 have HEM:=zC (fun m vC vP vS vB W h=>empty24R m n k p vC vP vS vB W h k1 k4 p1 p2)
 have HP12:=zC (And.intro p1 p2)
 clear n1 n2 k1 k4 s1 s2 p1 p2
 go_in
 go_wp2_with fail
 refine (H22.out _).mono ?_
 rintro e w1 ⟨c,rfl,k1,lc,s,ls,h22⟩
 have HQ1:=zC (zB (zE (w:=w) (o:=.cells #[.int .i64 n,.int .i64 k,.int .i64 p,.pointer none,.pointer none,.pointer none,.slice none 0 0] 173)) k1 (fun h=>h))
 have K1:=zC (((zA.refl (fun _=>False) w).alloc (.cells #[.int .i64 n,.int .i64 k,.int .i64 p,.pointer none,.pointer none,.pointer none,.slice none 0 0] 173)).trans k1)
 have HC:=zC h22
 obtain⟨c0,c1,c2,c3,c4,c5,c6,cf,cl⟩:=cells7f HQ1.out
 have cf3:=cf 3
 simp only [World.size_alloc] at lc ls
 clear k1 h22 cf
 go_wp2_with fail
 refine (H15.out _).mono ?_
 rintro e w2 ⟨pb,rfl,k2,lp,ps,lps,h15⟩
 have HQ2:=zC (zB ((zH HQ1.out 3 _).trans rfl) k2 (fun h=>h))
 have K12:=zC ((zJ w1 w.heap.size 3 (.pointer (some ⟨c,0,none⟩))).trans k2.up)
 have HP:=zC h15
 have hs1:=zF HQ1.out
 have hz:=(zJ w1 w.heap.size 3 (.pointer (some ⟨c,0,none⟩))).size
 have lp':w.heap.size+1≤pb:=by omega
 have lps':w.heap.size+1≤ps:=by omega
 clear k2 h15 c0 c1 c2 c3 c4 c5 c6 cl cf3 lp lps hs1
 obtain⟨c0,c1,c2,c3,c4,c5,c6,cf,cl⟩:=cells7f HQ2.out
 have cf4:=cf 4
 clear cf
 go_wp2_with fail
 refine (H20.out _).mono ?_
 rintro e w3 ⟨sb,rfl,k3,lsb,h20⟩
 have HQ3:=zC (zB ((zH HQ2.out 4 _).trans rfl) k3 (fun h=>h))
 have K23:=zC ((zJ w2 w.heap.size 4 (.pointer (some ⟨pb,0,none⟩))).trans k3.up)
 have HS:=zC h20
 have hs2:=zF HQ2.out
 have hz2:=(zJ w2 w.heap.size 4 (.pointer (some ⟨pb,0,none⟩))).size
 have lsb':w.heap.size+1≤sb:=by omega
 clear k3 h20 c0 c1 c2 c3 c4 c5 c6 cl cf4 lsb hs2
 obtain⟨c0,c1,c2,c3,c4,c5,c6,cf,cl⟩:=cells7f HQ3.out
 have cf5:=cf 5
 clear cf
 have HQ4:=zC ((zH HQ3.out 5 (.pointer (some ⟨sb,0,none⟩))).trans rfl)
 go_wp2_with fail
 refine (HEM.out _ _ _ _ _ _ HQ4.out).mono ?_
 rintro e w5 ⟨rfl,k5,rb,cap,cur,bb,q5,r5,hcur,l,hnb⟩
 have K35:=zC ((zJ w3 w.heap.size 5 (.pointer (some ⟨sb,0,none⟩))).trans k5)
 have HQ5:=zC q5;have HR5:=zC r5;have HCU:=zC hcur;have HNB:=zC hnb
 have HL3:=zC (show w.heap.size+1≤(w3.setCell ⟨w.heap.size,5,none⟩ (.pointer (some ⟨sb,0,none⟩))).heap.size from by have:=zF HQ4.out;omega)
 clear k5 q5 r5 hcur hnb
 go_wp2_with fail
 go_ret2
 have kf:zA (fun y=>w.heap.size≤y) w w5:=(K1.out.up).trans ((K12.out.trans (K23.out.trans K35.out)).mono (fun y _ h=>by omega))
 have h22:=HC.out.keeps (K12.out.trans (K23.out.trans K35.out)) (by omega) (by omega)
 have h15:=HP.out.keeps (K23.out.trans K35.out) (by omega) (by omega)
 have h20:=HS.out.keeps K35.out (by omega) (fun k hk=>(by cases hk))
 refine⟨w.heap.size,rfl,zA.fresh kf,⟨c,s,pb,ps,sb,.slice none 0 0,rb,bb,fun _=>.slice none 0 0⟩,⟨⟨cap,HQ5.out⟩,⟨cur,HR5.out,HCU.out⟩,h22,h15,h20,fun j hj=>⟨⟨HNB.out.blk j hj,IRow.nil _ _,HP12.out.1,HP12.out.2,Nat.zero_le _⟩,rfl⟩,fun i j hi hj e=>?_,fun k hk=>(by cases hk),fun j _ k hk=>(by cases hk),fun i j _ _ _ k hk=>(by cases hk)⟩,⟨Nat.le_refl _,by show w.heap.size≤c;omega,by show w.heap.size≤pb;omega,by show w.heap.size≤ps;omega,by show w.heap.size≤sb;omega,fun j hj=>?_,fun j _ z hz=>(by cases hz)⟩⟩
 ·rcases Nat.lt_trichotomy i j with h | h | h
  ·have:=HNB.out.up i j h hj;have e':bb i=bb j:=e;omega
  ·exact h
  ·have:=HNB.out.up j i h hi;have e':bb i=bb j:=e;omega
 ·have:=HNB.out.lo j hj
  have:=HL3.out
  show w.heap.size≤bb j
  omega
end Go.Proofs.YtjfmagccmjdhoaaGreat
namespace Go.Proofs.YtjfmagccmjdhoaaGreat
open Go.RowKit
attribute [local go_sem] Oper.semAt_some
section
variable {N m q x:Nat} {w w':World} {L:L24} {LR:L18} {M M':Mk} {A:Ar} {S:Nat→Prop}
theorem R24.k24 (h:R24 w m L M q):K24 w m L.c L.cs M.P.n M.K.many M.K:=by
 obtain⟨⟨cap,o⟩,_,hc,hp,_⟩:=h
 exact⟨⟨_,_,_,_,o⟩,hc,rfl,hp.n1,hp.n2⟩
theorem Ar.glL_len (A:Ar):A.glL.length≤8:=by unfold Ar.glL;exact Nat.le_trans (List.length_filter_le _ _) (by simp)
theorem step24_ok (h:D24 N w m M q) (hR:R18 w x LR A) (hok:M.Ok) (hn:A.H.T.n=M.P.n) (hm:A.many=M.K.many) (hcy:M.K.cy<4611686018427387904):
 Calls Tryz.prog 136 #[.pointer (some ⟨m,0,none⟩),.pointer (some ⟨x,0,none⟩)] w fun e w'=>e = .returned (.int .i64 0)∧To24 N w w' m (M.stepR A) q:=by
 obtain⟨L,h24,lo⟩:=h
 have HCH:=zC (check24_ok h24.k24 hR hn hm)
 have H24:=zC h24;have HR:=zC hR;have HLO:=zC lo;have HN:=zC hn;have HCY:=zC hcy;have HOK:=zC hok
 have hp5:=hok.ph
 have hcs:M.K.ph=1∨M.K.ph=2∨M.K.ph=3∨(M.K.ph≠1∧M.K.ph≠2∧M.K.ph≠3):=by omega
 clear h24 hR lo hn hm hcy hok
 rcases hcs with hp | hp | hp | ⟨hp1,hp2,hp3⟩
 ·have HP:=zC hp
  rcases hr:M.K.ready with _ | _
  ·have HST:=zC (show M.stepR A=M from by unfold Mk.stepR;rw [if_pos hp,if_neg (by rw [hr];decide)])
   have HRD:=zC (fun W (h:R24 W m L M q)=>ready22 h.clk)
   rw [hr] at HRD
   clear hp hr
   go_in
   go_wp2_with fail
   refine zQ HCH.out fun w1 k1=>?_
   have K1:=zC k1;have H1:=zC (H24.out.k0 k1);have HR1:=zC (HR.out.k0 k1)
   obtain⟨cap,c0,c1,c2,c3,c4,c5,c6,cl⟩:=H1.out.cells
   have HPH:=zC (phase22 H1.out.clk)
   rw [HP.out] at HPH
   clear k1
   go_wp2_with fail
   refine zP HPH.out ?_
   go_wp2_with fail
   refine zQ (HRD.out _ H1.out) fun w2 k2=>?_
   have K2:=zC (K1.out.trans k2)
   clear k2
   go_wp2_with fail
   go_ret
   rw [HST.out]
   exact⟨rfl,K2.out.up,L,H24.out.k0 K2.out,HLO.out⟩
  ·have HST:=zC (show M.stepR A=Mk.shade { M with K:=M.K.go } ((hres A.H A.glL).map (·.s)) from by unfold Mk.stepR;rw [if_pos hp,if_pos hr])
   have HRD:=zC (fun W (h:R24 W m L M q)=>ready22 h.clk)
   rw [hr] at HRD
   have hall:M.K.all=true:=by unfold Ck.ready at hr;rw [hp] at hr;simpa using hr
   have HALL:=zC hall
   clear hp hr hall
   go_in
   go_wp2_with fail
   refine zQ HCH.out fun w1 k1=>?_
   have K1:=zC k1;have H1:=zC (H24.out.k0 k1);have HR1:=zC (HR.out.k0 k1)
   obtain⟨cap,c0,c1,c2,c3,c4,c5,c6,cl⟩:=H1.out.cells
   have HPH:=zC (phase22 H1.out.clk)
   rw [HP.out] at HPH
   clear k1
   go_wp2_with fail
   refine zP HPH.out ?_
   go_wp2_with fail
   refine zQ (HRD.out _ H1.out) fun w2 k2=>?_
   have K2:=zC (K1.out.trans k2);have H2:=zC (H1.out.k0 k2);have HR2:=zC (HR1.out.k0 k2)
   clear k2 c0 c1 c2 c3 c4 c5 c6 cl
   obtain⟨cap,c0,c1,c2,c3,c4,c5,c6,cl⟩:=H2.out.cells
   go_wp2_with fail
   refine (go22_ok H2.out.clk (by rw [HP.out];decide) (fun _=>HALL.out) HCY.out).mono ?_
   rintro e w3 ⟨rfl,k3,cs,_,h3⟩
   have hkt:=H2.out.to HLO.out k3 (fun y hy=>.inr (.inl hy))
   have K3:=zC (T24.trans K2.out.up hkt)
   have H3:=zC (H2.out.setC k3 h3 rfl)
   have HR3:=zC (HR2.out.keeps hkt T24.alien)
   clear k3 h3 hkt
   go_wp2_with fail
   refine (globals18 HR3.out).mono ?_
   rintro e w4 ⟨v,rfl,hrow,k4⟩
   have K4:=zC (T24.trans K3.out k4.up);have H4:=zC (H3.out.k0 k4);have HR4:=zC (HR3.out.k0 k4);have HV:=zC hrow.refs
   clear k4 hrow
   go_wp2_with fail
   refine (there18 v A.glL H4.out HR4.out HV.out (by have:=A.glL_len;omega) HN.out).mono ?_
   rintro e w5 ⟨rfl,k5,sv,h5⟩
   have K5:=zC (T24.trans K4.out (H4.out.toPS HLO.out.cs k5));have H5:=zC h5
   clear k5 h5
   go_wp2_with fail
   go_ret
   rw [HST.out]
   exact⟨rfl,K5.out,_,H5.out,(show L24.Lo _ N m M.K.many from (HLO.out.cs (s:=cs)).sv (v:=sv))⟩
 ·have HP:=zC hp
  rcases hr:M.K.ready with _ | _
  ·have HST:=zC (show M.stepR A=M from by unfold Mk.stepR;rw [if_neg (by omega),if_pos hp,if_neg (by rw [hr];decide)])
   have HRD:=zC (fun W (h:R24 W m L M q)=>ready22 h.clk)
   rw [hr] at HRD
   clear hp hr
   go_in
   go_wp2_with fail
   refine zQ HCH.out fun w1 k1=>?_
   have K1:=zC k1;have H1:=zC (H24.out.k0 k1);have HR1:=zC (HR.out.k0 k1)
   obtain⟨cap,c0,c1,c2,c3,c4,c5,c6,cl⟩:=H1.out.cells
   have HPH:=zC (phase22 H1.out.clk)
   rw [HP.out] at HPH
   clear k1
   go_wp2_with fail
   refine zP HPH.out ?_
   go_wp2_with fail
   refine zQ (HRD.out _ H1.out) fun w2 k2=>?_
   have K2:=zC (K1.out.trans k2)
   clear k2
   go_wp2_with fail
   go_ret
   rw [HST.out]
   exact⟨rfl,K2.out.up,L,H24.out.k0 K2.out,HLO.out⟩
  ·have HST:=zC (show M.stepR A={ M with K:=M.K.go } from by unfold Mk.stepR;rw [if_neg (by omega),if_pos hp,if_pos hr])
   have HRD:=zC (fun W (h:R24 W m L M q)=>ready22 h.clk)
   rw [hr] at HRD
   have hall:M.K.all=true:=by unfold Ck.ready at hr;rw [hp] at hr;simpa using hr
   have HALL:=zC hall
   clear hp hr hall
   go_in
   go_wp2_with fail
   refine zQ HCH.out fun w1 k1=>?_
   have K1:=zC k1;have H1:=zC (H24.out.k0 k1);have HR1:=zC (HR.out.k0 k1)
   obtain⟨cap,c0,c1,c2,c3,c4,c5,c6,cl⟩:=H1.out.cells
   have HPH:=zC (phase22 H1.out.clk)
   rw [HP.out] at HPH
   clear k1
   go_wp2_with fail
   refine zP HPH.out ?_
   go_wp2_with fail
   refine zQ (HRD.out _ H1.out) fun w2 k2=>?_
   have K2:=zC (K1.out.trans k2);have H2:=zC (H1.out.k0 k2)
   clear k2 c0 c1 c2 c3 c4 c5 c6 cl
   obtain⟨cap,c0,c1,c2,c3,c4,c5,c6,cl⟩:=H2.out.cells
   go_wp2_with fail
   refine (go22_ok H2.out.clk (by rw [HP.out];decide) (fun _=>HALL.out) HCY.out).mono ?_
   rintro e w3 ⟨rfl,k3,cs,_,h3⟩
   have K3:=zC (T24.trans K2.out.up (H2.out.to HLO.out k3 (fun y hy=>.inr (.inl hy))))
   have H3:=zC (H2.out.setC k3 h3 rfl)
   clear k3 h3
   go_wp2_with fail
   go_ret
   rw [HST.out]
   exact⟨rfl,K3.out,_,H3.out,HLO.out.cs⟩
 ·have HP:=zC hp
  have HST:=zC (show M.stepR A=M.traceR A.H from by unfold Mk.stepR;rw [if_neg (by omega),if_neg (by omega),if_pos hp])
  clear hp
  go_in
  go_wp2_with fail
  refine zQ HCH.out fun w1 k1=>?_
  have K1:=zC k1;have H1:=zC (H24.out.k0 k1);have HR1:=zC (HR.out.k0 k1)
  obtain⟨cap,c0,c1,c2,c3,c4,c5,c6,cl⟩:=H1.out.cells
  have HPH:=zC (phase22 H1.out.clk)
  rw [HP.out] at HPH
  clear k1
  go_wp2_with fail
  refine zP HPH.out ?_
  go_wp2_with fail
  refine (trace24 (N:=N) ⟨L,H1.out,HLO.out⟩ HR1.out HOK.out HN.out HP.out HCY.out).mono ?_
  rintro e w2 ⟨rfl,k2,h2⟩
  have K2:=zC (T24.trans K1.out.up k2);have H2:=zC h2
  clear k2 h2
  go_wp2_with fail
  go_ret
  rw [HST.out]
  exact⟨rfl,K2.out,H2.out⟩
 ·have HST:=zC (show M.stepR A=M from by unfold Mk.stepR;rw [if_neg hp1,if_neg hp2,if_neg hp3])
  obtain⟨p,hp⟩:∃ p,M.K.ph=p:=⟨_,rfl⟩
  have HP:=zC hp
  have e1:((p:Int) == 1)=false:=by simp;omega
  have e2:((p:Int) == 2)=false:=by simp;omega
  have e3:((p:Int) == 3)=false:=by simp;omega
  clear hp hp1 hp2 hp3
  go_in
  go_wp2_with fail
  refine zQ HCH.out fun w1 k1=>?_
  have K1:=zC k1;have H1:=zC (H24.out.k0 k1);have HR1:=zC (HR.out.k0 k1)
  obtain⟨cap,c0,c1,c2,c3,c4,c5,c6,cl⟩:=H1.out.cells
  have HPH:=zC (phase22 H1.out.clk)
  rw [HP.out] at HPH
  clear k1
  go_wp2_with fail
  refine zP HPH.out ?_
  go_wp2_with fail
  go_ret
  rw [HST.out]
  exact⟨rfl,K1.out.up,L,H1.out,HLO.out⟩
theorem ack24R (i:Int) (h:D24 N w m M q) (hR:R18 w x LR A) (hn:A.H.T.n=M.P.n) (hm:A.many=M.K.many):
 Calls Tryz.prog 128 #[.pointer (some ⟨m,0,none⟩),.pointer (some ⟨x,0,none⟩),.int .i64 i] w fun e w'=>e = .returned (.tuple #[.bool (M.ackR A i).is,.int .i64 (M.ackR A i).e])∧To24 N w w' m (M.ackR A i).M q:=by
 obtain⟨L,h24,lo⟩:=h
 have HCH:=zC (check24_ok h24.k24 hR hn hm)
 have H24:=zC h24;have HR:=zC hR;have HLO:=zC lo;have HN:=zC hn;have HM:=zC hm
 clear h24 hR lo hn hm
 by_cases hi:i<0∨(M.K.many:Int)≤i
 ·have HE:=zC (show M.ackR A i=⟨M,false,3⟩ from by unfold Mk.ackR;rw [if_pos hi])
  rw [HE.out]
  have HA:=zC (fun W (h:R24 W m L M q)=>ack22_range i h.clk hi)
  clear hi
  go_in
  go_wp2_with fail
  refine zQ HCH.out fun w1 k1=>?_
  have K1:=zC k1;have H1:=zC (H24.out.k0 k1);have HR1:=zC (HR.out.k0 k1)
  obtain⟨cap,c0,c1,c2,c3,c4,c5,c6,cl⟩:=H1.out.cells
  clear k1
  go_wp2_with fail
  refine zP ((HA.out _ H1.out)) ?_
  go_wp2_with fail
  go_ret2
  exact⟨rfl,K1.out.up,L,H1.out,HLO.out⟩
 ·obtain⟨j,rfl⟩:∃ j:Nat,i=j:=⟨i.toNat,by omega⟩
  have hj:j<M.K.many:=by omega
  by_cases hp:M.K.ph=1∨M.K.ph=2
  ·have HA:=zC (fun W (h:R24 W m L M q)=>ack22_ok j h.clk hj hp)
   rcases hs:M.K.seen j with _ | _
   ·rw [hs] at HA
    rcases hp with hp | hp
    ·have HE:=zC (show M.ackR A j=⟨{ M with K:=M.K.ack j },true,0⟩ from by unfold Mk.ackR;rw [if_neg hi,if_neg (by omega),if_neg (by omega),Int.toNat_natCast,hs];rfl)
     rw [HE.out]
     have HPH:=zC (fun W (h:R24 W m L M q)=>show (M.K.ack j).ph=1 from hp)
     have HP1:=zC (show (M.K.ack j).ph=1 from hp)
     clear hp hs hi hj HPH
     go_in
     go_wp2_with fail
     refine zQ HCH.out fun w1 k1=>?_
     have K1:=zC k1;have H1:=zC (H24.out.k0 k1);have HR1:=zC (HR.out.k0 k1)
     obtain⟨cap,c0,c1,c2,c3,c4,c5,c6,cl⟩:=H1.out.cells
     clear k1
     go_wp2_with fail
     refine (HA.out _ H1.out).mono ?_
     rintro e w2 ⟨rfl,k2,cs,_,h2⟩
     have K2:=zC (T24.trans K1.out.up (H1.out.to HLO.out k2 (fun y hy=>.inr (.inl hy))))
     have H2:=zC (H1.out.setC k2 h2 rfl)
     have HPH:=zC (phase22 h2)
     rw [HP1.out] at HPH
     clear k2 h2 c0 c1 c2 c3 c4 c5 c6 cl
     obtain⟨cap,c0,c1,c2,c3,c4,c5,c6,cl⟩:=H2.out.cells
     go_wp2_with fail
     refine zP HPH.out ?_
     go_wp2_with fail
     go_ret2
     exact⟨rfl,K2.out,_,H2.out,HLO.out.cs⟩
    ·have HE:=zC (show M.ackR A j=⟨Mk.shade { M with K:=M.K.ack j } ((hres A.H (A.rt j).l).map (·.s)),true,0⟩ from by unfold Mk.ackR;rw [if_neg hi,if_neg (by omega),if_pos ⟨hp,by rw [Int.toNat_natCast];exact hs⟩,Int.toNat_natCast])
     rw [HE.out]
     have HP1:=zC (show (M.K.ack j).ph=2 from hp)
     have HJ:=zC hj
     clear hp hs hi hj
     go_in
     go_wp2_with fail
     refine zQ HCH.out fun w1 k1=>?_
     have K1:=zC k1;have H1:=zC (H24.out.k0 k1);have HR1:=zC (HR.out.k0 k1)
     obtain⟨cap,c0,c1,c2,c3,c4,c5,c6,cl⟩:=H1.out.cells
     clear k1
     go_wp2_with fail
     refine (HA.out _ H1.out).mono ?_
     rintro e w2 ⟨rfl,k2,cs,_,h2⟩
     have hkt:=H1.out.to HLO.out k2 (fun y hy=>.inr (.inl hy))
     have K2:=zC (T24.trans K1.out.up hkt)
     have H2:=zC (H1.out.setC k2 h2 rfl)
     have HR2:=zC (HR1.out.keeps hkt T24.alien)
     have HPH:=zC (phase22 h2)
     rw [HP1.out] at HPH
     clear k2 h2 hkt c0 c1 c2 c3 c4 c5 c6 cl
     obtain⟨cap,c0,c1,c2,c3,c4,c5,c6,cl⟩:=H2.out.cells
     go_wp2_with fail
     refine zP HPH.out ?_
     go_wp2_with fail
     refine (stack18 j HR2.out (by rw [HM.out];exact HJ.out)).mono ?_
     rintro e w3 ⟨v,rfl,hrow,k3⟩
     have K3:=zC (T24.trans K2.out k3.up);have H3:=zC (H2.out.k0 k3);have HR3:=zC (HR2.out.k0 k3);have HV:=zC hrow.refs
     have HLN:=zC (show (A.rt j).l.length≤32 from by obtain⟨p,c,_,h32⟩:=HR2.out.sl (m:=j) (by rw [HM.out];exact HJ.out);simpa [Sk.l] using h32)
     clear k3 hrow
     go_wp2_with fail
     refine (there18 v (A.rt j).l H3.out HR3.out HV.out (by have:=HLN.out;omega) HN.out).mono ?_
     rintro e w4 ⟨rfl,k4,sv,h4⟩
     have K4:=zC (T24.trans K3.out (H3.out.toPS HLO.out.cs k4));have H4:=zC h4
     clear k4 h4
     go_wp2_with fail
     go_ret2
     exact⟨rfl,K4.out,_,H4.out,(show L24.Lo _ N m M.K.many from (HLO.out.cs (s:=cs)).sv (v:=sv))⟩
   ·rw [hs] at HA
    have HE:=zC (show M.ackR A j=⟨{ M with K:=M.K.ack j },false,0⟩ from by unfold Mk.ackR;rw [if_neg hi,if_neg (by omega),if_neg (by rw [Int.toNat_natCast,hs];simp),Int.toNat_natCast,hs];rfl)
    rw [HE.out]
    clear hp hs hi hj
    go_in
    go_wp2_with fail
    refine zQ HCH.out fun w1 k1=>?_
    have K1:=zC k1;have H1:=zC (H24.out.k0 k1);have HR1:=zC (HR.out.k0 k1)
    obtain⟨cap,c0,c1,c2,c3,c4,c5,c6,cl⟩:=H1.out.cells
    clear k1
    go_wp2_with fail
    refine (HA.out _ H1.out).mono ?_
    rintro e w2 ⟨rfl,k2,cs,_,h2⟩
    have K2:=zC (T24.trans K1.out.up (H1.out.to HLO.out k2 (fun y hy=>.inr (.inl hy))))
    have H2:=zC (H1.out.setC k2 h2 rfl)
    clear k2 h2 c0 c1 c2 c3 c4 c5 c6 cl
    go_wp2_with fail
    go_ret2
    exact⟨rfl,K2.out,_,H2.out,HLO.out.cs⟩
  ·have HE:=zC (show M.ackR A j=⟨M,false,8⟩ from by unfold Mk.ackR;rw [if_neg hi,if_pos hp])
   rw [HE.out]
   have HA:=zC (fun W (h:R24 W m L M q)=>ack22_state j h.clk hj (by omega) (by omega))
   clear hp hi hj
   go_in
   go_wp2_with fail
   refine zQ HCH.out fun w1 k1=>?_
   have K1:=zC k1;have H1:=zC (H24.out.k0 k1);have HR1:=zC (HR.out.k0 k1)
   obtain⟨cap,c0,c1,c2,c3,c4,c5,c6,cl⟩:=H1.out.cells
   clear k1
   go_wp2_with fail
   refine zP ((HA.out _ H1.out)) ?_
   go_wp2_with fail
   go_ret2
   exact⟨rfl,K1.out.up,L,H1.out,HLO.out⟩
end
end Go.Proofs.YtjfmagccmjdhoaaGreat
