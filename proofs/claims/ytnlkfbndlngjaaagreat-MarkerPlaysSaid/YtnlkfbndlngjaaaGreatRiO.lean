import Derived.Test.YtnlkfbndlngjaaaGreatRiN
set_option maxHeartbeats 1000000
set_option maxRecDepth 100000
namespace Go.Proofs.YtnlkfbndlngjaaaGreat
open Go.RowKit
attribute [local go_sem] Oper.semAt_some
set_option linter.unusedVariables false
set_option linter.unusedSimpArgs false
section
variable {N m q x:Nat} {w w':World} {L:L24} {LR:L18} {M M':Mk} {A:Ar} {S:Nat→Prop}
theorem R24.k24 (h:R24 w m L M q):K24 w m L.c L.cs M.P.n M.K.many M.K:=by
 obtain⟨⟨cap,o⟩,_,hc,hp,_⟩:=h
 exact⟨⟨_,_,_,_,o⟩,hc,rfl,hp.n1,hp.n2⟩
theorem Ar.glL_len (A:Ar):A.glL.length≤8:=by unfold Ar.glL;exact Nat.le_trans (List.length_filter_le _ _) (by simp)
theorem step24_ok (h:D24 N w m M q) (hR:R18 w x LR A) (hok:M.Ok) (hn:A.H.T.n=M.P.n) (hm:A.many=M.K.many) (hcy:M.K.cy<4611686018427387904):
 Calls Tryz.prog 72 #[.pointer (some ⟨m,0,none⟩),.pointer (some ⟨x,0,none⟩)] w fun e w'=>e = .returned (.int .i64 0)∧To24 N w w' m (M.stepR A) q:=by
 obtain⟨L,h24,lo⟩:=h
 have HCH:=hid (check24_ok h24.k24 hR hn hm)
 have H24:=hid h24;have HR:=hid hR;have HLO:=hid lo;have HN:=hid hn;have HCY:=hid hcy;have HOK:=hid hok
 have hp5:=hok.ph
 have hcs:M.K.ph=1∨M.K.ph=2∨M.K.ph=3∨(M.K.ph≠1∧M.K.ph≠2∧M.K.ph≠3):=by omega
 clear h24 hR lo hn hm hcy hok
 rcases hcs with hp | hp | hp | ⟨hp1,hp2,hp3⟩
 ·have HP:=hid hp
  rcases hr:M.K.ready with _ | _
  ·have HST:=hid (show M.stepR A=M from by unfold Mk.stepR;rw [if_pos hp,if_neg (by rw [hr];decide)])
   have HRD:=hid (fun W (h:R24 W m L M q)=>ready22 h.clk)
   rw [hr] at HRD
   clear hp hr
   go_enter Tryz.func72,Tryz.ntmps72
   go_wp2_with fail
   refine HCH.out.mono ?_
   rintro e w1 ⟨rfl,k1⟩
   have K1:=hid k1;have H1:=hid (H24.out.k0 k1);have HR1:=hid (HR.out.k0 k1)
   obtain⟨cap,c0,c1,c2,c3,c4,c5,c6,cl⟩:=H1.out.cells
   have HPH:=hid (phase22 H1.out.clk)
   rw [HP.out] at HPH
   clear k1
   go_wp2_with fail
   refine (HPH.out).mono ?_
   rintro e w' ⟨rfl,h'⟩
   obtain rfl:=h'.symm
   go_wp2_with fail
   refine (HRD.out _ H1.out).mono ?_
   rintro e w2 ⟨rfl,k2⟩
   have K2:=hid (K1.out.trans k2)
   clear k2
   go_wp2_with fail
   go_ret
   rw [HST.out]
   exact⟨rfl,K2.out.up,L,H24.out.k0 K2.out,HLO.out⟩
  ·have HST:=hid (show M.stepR A=Mk.shade { M with K:=M.K.go } ((hres A.H A.glL).map (·.s)) from by unfold Mk.stepR;rw [if_pos hp,if_pos hr])
   have HRD:=hid (fun W (h:R24 W m L M q)=>ready22 h.clk)
   rw [hr] at HRD
   have hall:M.K.all=true:=by unfold Ck.ready at hr;rw [hp] at hr;simpa using hr
   have HALL:=hid hall
   clear hp hr hall
   go_enter Tryz.func72,Tryz.ntmps72
   go_wp2_with fail
   refine HCH.out.mono ?_
   rintro e w1 ⟨rfl,k1⟩
   have K1:=hid k1;have H1:=hid (H24.out.k0 k1);have HR1:=hid (HR.out.k0 k1)
   obtain⟨cap,c0,c1,c2,c3,c4,c5,c6,cl⟩:=H1.out.cells
   have HPH:=hid (phase22 H1.out.clk)
   rw [HP.out] at HPH
   clear k1
   go_wp2_with fail
   refine (HPH.out).mono ?_
   rintro e w' ⟨rfl,h'⟩
   obtain rfl:=h'.symm
   go_wp2_with fail
   refine (HRD.out _ H1.out).mono ?_
   rintro e w2 ⟨rfl,k2⟩
   have K2:=hid (K1.out.trans k2);have H2:=hid (H1.out.k0 k2);have HR2:=hid (HR1.out.k0 k2)
   clear k2 c0 c1 c2 c3 c4 c5 c6 cl
   obtain⟨cap,c0,c1,c2,c3,c4,c5,c6,cl⟩:=H2.out.cells
   go_wp2_with fail
   refine (go22_ok H2.out.clk (by rw [HP.out];decide) (fun _=>HALL.out) HCY.out).mono ?_
   rintro e w3 ⟨rfl,k3,cs,_,h3⟩
   have hkt:=H2.out.to HLO.out k3 (fun y hy=>.inr (.inl hy))
   have K3:=hid (T24.trans K2.out.up hkt)
   have H3:=hid (H2.out.setC k3 h3 rfl)
   have HR3:=hid (HR2.out.keeps hkt T24.alien)
   clear k3 h3 hkt
   go_wp2_with fail
   refine (globals18 HR3.out).mono ?_
   rintro e w4 ⟨v,rfl,hrow,k4⟩
   have K4:=hid (T24.trans K3.out k4.up);have H4:=hid (H3.out.k0 k4);have HR4:=hid (HR3.out.k0 k4);have HV:=hid hrow.refs
   clear k4 hrow
   go_wp2_with fail
   refine (there18 v A.glL H4.out HR4.out HV.out (by have:=A.glL_len;omega) HN.out).mono ?_
   rintro e w5 ⟨rfl,k5,sv,h5⟩
   have K5:=hid (T24.trans K4.out (H4.out.toPS HLO.out.cs k5));have H5:=hid h5
   clear k5 h5
   go_wp2_with fail
   go_ret
   rw [HST.out]
   exact⟨rfl,K5.out,_,H5.out,(show L24.Lo _ N m M.K.many from (HLO.out.cs (s:=cs)).sv (v:=sv))⟩
 ·have HP:=hid hp
  rcases hr:M.K.ready with _ | _
  ·have HST:=hid (show M.stepR A=M from by unfold Mk.stepR;rw [if_neg (by omega),if_pos hp,if_neg (by rw [hr];decide)])
   have HRD:=hid (fun W (h:R24 W m L M q)=>ready22 h.clk)
   rw [hr] at HRD
   clear hp hr
   go_enter Tryz.func72,Tryz.ntmps72
   go_wp2_with fail
   refine HCH.out.mono ?_
   rintro e w1 ⟨rfl,k1⟩
   have K1:=hid k1;have H1:=hid (H24.out.k0 k1);have HR1:=hid (HR.out.k0 k1)
   obtain⟨cap,c0,c1,c2,c3,c4,c5,c6,cl⟩:=H1.out.cells
   have HPH:=hid (phase22 H1.out.clk)
   rw [HP.out] at HPH
   clear k1
   go_wp2_with fail
   refine (HPH.out).mono ?_
   rintro e w' ⟨rfl,h'⟩
   obtain rfl:=h'.symm
   go_wp2_with fail
   refine (HRD.out _ H1.out).mono ?_
   rintro e w2 ⟨rfl,k2⟩
   have K2:=hid (K1.out.trans k2)
   clear k2
   go_wp2_with fail
   go_ret
   rw [HST.out]
   exact⟨rfl,K2.out.up,L,H24.out.k0 K2.out,HLO.out⟩
  ·have HST:=hid (show M.stepR A={ M with K:=M.K.go } from by unfold Mk.stepR;rw [if_neg (by omega),if_pos hp,if_pos hr])
   have HRD:=hid (fun W (h:R24 W m L M q)=>ready22 h.clk)
   rw [hr] at HRD
   have hall:M.K.all=true:=by unfold Ck.ready at hr;rw [hp] at hr;simpa using hr
   have HALL:=hid hall
   clear hp hr hall
   go_enter Tryz.func72,Tryz.ntmps72
   go_wp2_with fail
   refine HCH.out.mono ?_
   rintro e w1 ⟨rfl,k1⟩
   have K1:=hid k1;have H1:=hid (H24.out.k0 k1);have HR1:=hid (HR.out.k0 k1)
   obtain⟨cap,c0,c1,c2,c3,c4,c5,c6,cl⟩:=H1.out.cells
   have HPH:=hid (phase22 H1.out.clk)
   rw [HP.out] at HPH
   clear k1
   go_wp2_with fail
   refine (HPH.out).mono ?_
   rintro e w' ⟨rfl,h'⟩
   obtain rfl:=h'.symm
   go_wp2_with fail
   refine (HRD.out _ H1.out).mono ?_
   rintro e w2 ⟨rfl,k2⟩
   have K2:=hid (K1.out.trans k2);have H2:=hid (H1.out.k0 k2)
   clear k2 c0 c1 c2 c3 c4 c5 c6 cl
   obtain⟨cap,c0,c1,c2,c3,c4,c5,c6,cl⟩:=H2.out.cells
   go_wp2_with fail
   refine (go22_ok H2.out.clk (by rw [HP.out];decide) (fun _=>HALL.out) HCY.out).mono ?_
   rintro e w3 ⟨rfl,k3,cs,_,h3⟩
   have K3:=hid (T24.trans K2.out.up (H2.out.to HLO.out k3 (fun y hy=>.inr (.inl hy))))
   have H3:=hid (H2.out.setC k3 h3 rfl)
   clear k3 h3
   go_wp2_with fail
   go_ret
   rw [HST.out]
   exact⟨rfl,K3.out,_,H3.out,HLO.out.cs⟩
 ·have HP:=hid hp
  have HST:=hid (show M.stepR A=M.traceR A.H from by unfold Mk.stepR;rw [if_neg (by omega),if_neg (by omega),if_pos hp])
  clear hp
  go_enter Tryz.func72,Tryz.ntmps72
  go_wp2_with fail
  refine HCH.out.mono ?_
  rintro e w1 ⟨rfl,k1⟩
  have K1:=hid k1;have H1:=hid (H24.out.k0 k1);have HR1:=hid (HR.out.k0 k1)
  obtain⟨cap,c0,c1,c2,c3,c4,c5,c6,cl⟩:=H1.out.cells
  have HPH:=hid (phase22 H1.out.clk)
  rw [HP.out] at HPH
  clear k1
  go_wp2_with fail
  refine (HPH.out).mono ?_
  rintro e w' ⟨rfl,h'⟩
  obtain rfl:=h'.symm
  go_wp2_with fail
  refine (trace24 (N:=N) ⟨L,H1.out,HLO.out⟩ HR1.out HOK.out HN.out HP.out HCY.out).mono ?_
  rintro e w2 ⟨rfl,k2,h2⟩
  have K2:=hid (T24.trans K1.out.up k2);have H2:=hid h2
  clear k2 h2
  go_wp2_with fail
  go_ret
  rw [HST.out]
  exact⟨rfl,K2.out,H2.out⟩
 ·have HST:=hid (show M.stepR A=M from by unfold Mk.stepR;rw [if_neg hp1,if_neg hp2,if_neg hp3])
  obtain⟨p,hp⟩:∃ p,M.K.ph=p:=⟨_,rfl⟩
  have HP:=hid hp
  have e1:((p:Int) == 1)=false:=by simp;omega
  have e2:((p:Int) == 2)=false:=by simp;omega
  have e3:((p:Int) == 3)=false:=by simp;omega
  clear hp hp1 hp2 hp3
  go_enter Tryz.func72,Tryz.ntmps72
  go_wp2_with fail
  refine HCH.out.mono ?_
  rintro e w1 ⟨rfl,k1⟩
  have K1:=hid k1;have H1:=hid (H24.out.k0 k1);have HR1:=hid (HR.out.k0 k1)
  obtain⟨cap,c0,c1,c2,c3,c4,c5,c6,cl⟩:=H1.out.cells
  have HPH:=hid (phase22 H1.out.clk)
  rw [HP.out] at HPH
  clear k1
  go_wp2_with fail
  refine (HPH.out).mono ?_
  rintro e w' ⟨rfl,h'⟩
  obtain rfl:=h'.symm
  go_wp2_with fail
  go_ret
  rw [HST.out]
  exact⟨rfl,K1.out.up,L,H1.out,HLO.out⟩
theorem ack24R (i:Int) (h:D24 N w m M q) (hR:R18 w x LR A) (hn:A.H.T.n=M.P.n) (hm:A.many=M.K.many):
 Calls Tryz.prog 71 #[.pointer (some ⟨m,0,none⟩),.pointer (some ⟨x,0,none⟩),.int .i64 i] w fun e w'=>e = .returned (.tuple #[.bool (M.ackR A i).is,.int .i64 (M.ackR A i).e])∧To24 N w w' m (M.ackR A i).M q:=by
 obtain⟨L,h24,lo⟩:=h
 have HCH:=hid (check24_ok h24.k24 hR hn hm)
 have H24:=hid h24;have HR:=hid hR;have HLO:=hid lo;have HN:=hid hn;have HM:=hid hm
 clear h24 hR lo hn hm
 by_cases hi:i<0∨(M.K.many:Int)≤i
 ·have HE:=hid (show M.ackR A i=⟨M,false,3⟩ from by unfold Mk.ackR;rw [if_pos hi])
  rw [HE.out]
  have HA:=hid (fun W (h:R24 W m L M q)=>ack22_range i h.clk hi)
  clear hi
  go_enter Tryz.func71,Tryz.ntmps71
  go_wp2_with fail
  refine HCH.out.mono ?_
  rintro e w1 ⟨rfl,k1⟩
  have K1:=hid k1;have H1:=hid (H24.out.k0 k1);have HR1:=hid (HR.out.k0 k1)
  obtain⟨cap,c0,c1,c2,c3,c4,c5,c6,cl⟩:=H1.out.cells
  clear k1
  go_wp2_with fail
  refine ((HA.out _ H1.out)).mono ?_
  rintro e w' ⟨rfl,h'⟩
  obtain rfl:=h'.symm
  go_wp2_with fail
  go_ret2
  exact⟨rfl,K1.out.up,L,H1.out,HLO.out⟩
 ·obtain⟨j,rfl⟩:∃ j:Nat,i=j:=⟨i.toNat,by omega⟩
  have hj:j<M.K.many:=by omega
  by_cases hp:M.K.ph=1∨M.K.ph=2
  ·have HA:=hid (fun W (h:R24 W m L M q)=>ack22_ok j h.clk hj hp)
   rcases hs:M.K.seen j with _ | _
   ·rw [hs] at HA
    rcases hp with hp | hp
    ·have HE:=hid (show M.ackR A j=⟨{ M with K:=M.K.ack j },true,0⟩ from by unfold Mk.ackR;rw [if_neg hi,if_neg (by omega),if_neg (by omega),Int.toNat_natCast,hs];rfl)
     rw [HE.out]
     have HPH:=hid (fun W (h:R24 W m L M q)=>show (M.K.ack j).ph=1 from hp)
     have HP1:=hid (show (M.K.ack j).ph=1 from hp)
     clear hp hs hi hj HPH
     go_enter Tryz.func71,Tryz.ntmps71
     go_wp2_with fail
     refine HCH.out.mono ?_
     rintro e w1 ⟨rfl,k1⟩
     have K1:=hid k1;have H1:=hid (H24.out.k0 k1);have HR1:=hid (HR.out.k0 k1)
     obtain⟨cap,c0,c1,c2,c3,c4,c5,c6,cl⟩:=H1.out.cells
     clear k1
     go_wp2_with fail
     refine (HA.out _ H1.out).mono ?_
     rintro e w2 ⟨rfl,k2,cs,_,h2⟩
     have K2:=hid (T24.trans K1.out.up (H1.out.to HLO.out k2 (fun y hy=>.inr (.inl hy))))
     have H2:=hid (H1.out.setC k2 h2 rfl)
     have HPH:=hid (phase22 h2)
     rw [HP1.out] at HPH
     clear k2 h2 c0 c1 c2 c3 c4 c5 c6 cl
     obtain⟨cap,c0,c1,c2,c3,c4,c5,c6,cl⟩:=H2.out.cells
     go_wp2_with fail
     refine (HPH.out).mono ?_
     rintro e w' ⟨rfl,h'⟩
     obtain rfl:=h'.symm
     go_wp2_with fail
     go_ret2
     exact⟨rfl,K2.out,_,H2.out,HLO.out.cs⟩
    ·have HE:=hid (show M.ackR A j=⟨Mk.shade { M with K:=M.K.ack j } ((hres A.H (A.rt j).l).map (·.s)),true,0⟩ from by unfold Mk.ackR;rw [if_neg hi,if_neg (by omega),if_pos ⟨hp,by rw [Int.toNat_natCast];exact hs⟩,Int.toNat_natCast])
     rw [HE.out]
     have HP1:=hid (show (M.K.ack j).ph=2 from hp)
     have HJ:=hid hj
     clear hp hs hi hj
     go_enter Tryz.func71,Tryz.ntmps71
     go_wp2_with fail
     refine HCH.out.mono ?_
     rintro e w1 ⟨rfl,k1⟩
     have K1:=hid k1;have H1:=hid (H24.out.k0 k1);have HR1:=hid (HR.out.k0 k1)
     obtain⟨cap,c0,c1,c2,c3,c4,c5,c6,cl⟩:=H1.out.cells
     clear k1
     go_wp2_with fail
     refine (HA.out _ H1.out).mono ?_
     rintro e w2 ⟨rfl,k2,cs,_,h2⟩
     have hkt:=H1.out.to HLO.out k2 (fun y hy=>.inr (.inl hy))
     have K2:=hid (T24.trans K1.out.up hkt)
     have H2:=hid (H1.out.setC k2 h2 rfl)
     have HR2:=hid (HR1.out.keeps hkt T24.alien)
     have HPH:=hid (phase22 h2)
     rw [HP1.out] at HPH
     clear k2 h2 hkt c0 c1 c2 c3 c4 c5 c6 cl
     obtain⟨cap,c0,c1,c2,c3,c4,c5,c6,cl⟩:=H2.out.cells
     go_wp2_with fail
     refine (HPH.out).mono ?_
     rintro e w' ⟨rfl,h'⟩
     obtain rfl:=h'.symm
     go_wp2_with fail
     refine (stack18 j HR2.out (by rw [HM.out];exact HJ.out)).mono ?_
     rintro e w3 ⟨v,rfl,hrow,k3⟩
     have K3:=hid (T24.trans K2.out k3.up);have H3:=hid (H2.out.k0 k3);have HR3:=hid (HR2.out.k0 k3);have HV:=hid hrow.refs
     have HLN:=hid (show (A.rt j).l.length≤32 from by obtain⟨p,c,_,h32⟩:=HR2.out.sl (m:=j) (by rw [HM.out];exact HJ.out);simpa [Sk.l] using h32)
     clear k3 hrow
     go_wp2_with fail
     refine (there18 v (A.rt j).l H3.out HR3.out HV.out (by have:=HLN.out;omega) HN.out).mono ?_
     rintro e w4 ⟨rfl,k4,sv,h4⟩
     have K4:=hid (T24.trans K3.out (H3.out.toPS HLO.out.cs k4));have H4:=hid h4
     clear k4 h4
     go_wp2_with fail
     go_ret2
     exact⟨rfl,K4.out,_,H4.out,(show L24.Lo _ N m M.K.many from (HLO.out.cs (s:=cs)).sv (v:=sv))⟩
   ·rw [hs] at HA
    have HE:=hid (show M.ackR A j=⟨{ M with K:=M.K.ack j },false,0⟩ from by unfold Mk.ackR;rw [if_neg hi,if_neg (by omega),if_neg (by rw [Int.toNat_natCast,hs];simp),Int.toNat_natCast,hs];rfl)
    rw [HE.out]
    clear hp hs hi hj
    go_enter Tryz.func71,Tryz.ntmps71
    go_wp2_with fail
    refine HCH.out.mono ?_
    rintro e w1 ⟨rfl,k1⟩
    have K1:=hid k1;have H1:=hid (H24.out.k0 k1);have HR1:=hid (HR.out.k0 k1)
    obtain⟨cap,c0,c1,c2,c3,c4,c5,c6,cl⟩:=H1.out.cells
    clear k1
    go_wp2_with fail
    refine (HA.out _ H1.out).mono ?_
    rintro e w2 ⟨rfl,k2,cs,_,h2⟩
    have K2:=hid (T24.trans K1.out.up (H1.out.to HLO.out k2 (fun y hy=>.inr (.inl hy))))
    have H2:=hid (H1.out.setC k2 h2 rfl)
    clear k2 h2 c0 c1 c2 c3 c4 c5 c6 cl
    go_wp2_with fail
    go_ret2
    exact⟨rfl,K2.out,_,H2.out,HLO.out.cs⟩
  ·have HE:=hid (show M.ackR A j=⟨M,false,8⟩ from by unfold Mk.ackR;rw [if_neg hi,if_pos hp])
   rw [HE.out]
   have HA:=hid (fun W (h:R24 W m L M q)=>ack22_state j h.clk hj (by omega) (by omega))
   clear hp hi hj
   go_enter Tryz.func71,Tryz.ntmps71
   go_wp2_with fail
   refine HCH.out.mono ?_
   rintro e w1 ⟨rfl,k1⟩
   have K1:=hid k1;have H1:=hid (H24.out.k0 k1);have HR1:=hid (HR.out.k0 k1)
   obtain⟨cap,c0,c1,c2,c3,c4,c5,c6,cl⟩:=H1.out.cells
   clear k1
   go_wp2_with fail
   refine ((HA.out _ H1.out)).mono ?_
   rintro e w' ⟨rfl,h'⟩
   obtain rfl:=h'.symm
   go_wp2_with fail
   go_ret2
   exact⟨rfl,K1.out.up,L,H1.out,HLO.out⟩
end
end Go.Proofs.YtnlkfbndlngjaaaGreat
