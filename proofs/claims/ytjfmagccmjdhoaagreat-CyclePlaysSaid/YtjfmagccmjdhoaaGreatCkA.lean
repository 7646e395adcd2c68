import Derived.Test.YtjfmagccmjdhoaaGreatCkS
set_option maxHeartbeats 4000000
set_option maxRecDepth 100000
namespace Go.Proofs.YtjfmagccmjdhoaaGreat
open Go.RowKit
attribute [local go_sem] Oper.semAt_some
def CcAt (w:World) (z y b:Nat) (k:Col):Prop:=
 w.heap[z]?=some (.cells #[.bool true,.int .i64 k.s.M.P.n,.int .i64 k.s.M.K.many,.pointer (some ⟨y,0,none⟩),.pointer (some ⟨b,0,none⟩),.int .i64 k.C.at',.int .i64 k.C.begun,.bool k.C.asked] 130)
structure Dc (F:Nat→Prop) (w0 w:World) (a m:Nat) (LA:ArL) (LM:MkL) (x y:Nat) (A:Ar) (M:Mk) (qq b z:Nat) (k:Col):Prop where
 fd:Fo F w0 w a m LA LM x y A M k.s.A k.s.M qq
 sw:DwAt w b k.C.S
 hb:w0.heap.size≤b
 cy:CcAt w z y b k
 hz:w0.heap.size≤z
 lt:∀ v,F v→v<w.heap.size
def DTy (t:TypeId):Prop:=GTy t∨t=130∨t=220
instance (t:TypeId):Decidable (DTy t):=by unfold DTy;infer_instance
def Dt (w:World) (N y:Nat):Prop:=N≤y∧∃ c t,w.heap[y]?=some (.cells c t)∧DTy t
theorem Dt.trans {N:Nat} {w w1 w2:World} (h1:zA (Dt w N) w w1) (h2:zA (Dt w1 N) w1 w2):zA (Dt w N) w w2:=
 h1.trans' h2 (fun _ _ h=>h) (fun y hy h=>by
  by_cases e:Dt w N y
  ·exact e
  ·obtain⟨hN,c,t,hc,ht⟩:=h
   rw [h1.block y hy e] at hc
   exact⟨hN,c,t,hc,ht⟩)
theorem Dt.block {N z:Nat} {w w':World} {c:Array Value} {t:TypeId} (hk:zA (Dt w N) w w') (hz:w.heap[z]?=some (.cells c t)) (ht:¬ DTy t):w'.heap[z]?=some (.cells c t):=
 zB hz hk (fun ⟨_,c',t',h,h'⟩=>by
  rw [hz] at h
  simp at h
  rw [← h.2] at h'
  exact ht h')
theorem Gt.dt {N:Nat} {w w':World} (h:zA (Gt w N) w w'):zA (Dt w N) w w':=h.mono (fun _ _ ⟨h1,c,t,h2,h3⟩=>⟨h1,c,t,h2,.inl h3⟩)
section
variable {F:Nat→Prop} {w0 w w':World} {a m x y qq b z:Nat} {LA:ArL} {LM:MkL} {A:Ar} {M:Mk} {k k':Col} {s':Sys} {S':Sw}
theorem CcAt.gt {N:Nat} (h:CcAt w z y b k) (hk:zA (Gt w N) w w'):CcAt w' z y b k:=Gt.block hk h (by decide)
theorem CcAt.ne (h:CcAt w z y b k) (hs:DwAt w b S'):b≠z:=fun e=>by
 unfold CcAt at h
 unfold DwAt at hs
 rw [← e,hs] at h
 simp at h
theorem Dc.quiet (h:Dc F w0 w a m LA LM x y A M qq b z k) (hk:Kz w w'):Dc F w0 w' a m LA LM x y A M qq b z k:=
 ⟨Fo.quiet h.fd hk,zB h.sw hk (fun h=>h),h.hb,zB h.cy hk (fun h=>h),h.hz,fun v hv=>Nat.lt_of_lt_of_le (h.lt v hv) hk.size⟩
theorem Dc.wk (h:Dc F w0 w a m LA LM x y A M qq b z k):FD w0 w a m LA LM x y A M k.s qq:=Fo.weak h.fd
theorem Dc.op (h:Dc F w0 w a m LA LM x y A M qq b z k) (hd:Fo F w0 w' a m LA LM x y A M s'.A s'.M qq) (hk:zA (Gt w w0.heap.size) w w') (hn:s'.M.P.n=k.s.M.P.n) (hm:s'.M.K.many=k.s.M.K.many):Dc F w0 w' a m LA LM x y A M qq b z ⟨s',k.C⟩:=
 ⟨hd,h.sw.gt hk,h.hb,by unfold CcAt;dsimp only;rw [hn,hm];exact h.cy.gt hk,h.hz,fun v hv=>Nat.lt_of_lt_of_le (h.lt v hv) hk.size⟩
theorem Fo.cy {B:Ar} {M2:Mk} (h:Fo F w0 w a m LA LM x y A M B M2 qq) (hs:CcAt w z y b k) (hb:w0.heap.size≤z) (hk:zA (fun v=>v=z) w w'):Fo F w0 w' a m LA LM x y A M B M2 qq:=by
 obtain⟨LR,h1,h2,h4⟩:=h.doc
 have ty:∀ v c t,w.heap[v]?=some (.cells c t)→v=z→t=130:=fun v c t hz e=>by
  subst e
  have hq:=hs
  unfold CcAt at hq
  rw [hz] at hq
  simp at hq
  exact hq.2
 exact⟨h.du.other hk (fun v e=>by have e':v=z:=e;omega) (fun v c t hz e=>by rw [ty v c t hz e];decide),h.lx,⟨LR,h1,h2.keeps hk (fun v c t hz ht e=>by rw [ty v c t hz e] at ht;revert ht;decide),h4⟩,h.d.other hk (fun v c t hz e=>by rw [ty v c t hz e];decide)⟩
theorem Dc.setC (h:Dc F w0 w a m LA LM x y A M qq b z k) (hk:zA (fun v=>v=z) w w') (hs:k'.s=k.s) (hS:k'.C.S=k.C.S) (hc:CcAt w' z y b k'):Dc F w0 w' a m LA LM x y A M qq b z k':=
 ⟨by rw [hs];exact Fo.cy h.fd h.cy h.hz hk,by rw [hS];exact zB h.sw hk (h.cy.ne h.sw),h.hb,hc,h.hz,fun v hv=>Nat.lt_of_lt_of_le (h.lt v hv) hk.size⟩
theorem Dc.setS (h:Dc F w0 w a m LA LM x y A M qq b z k) (hk:zA (fun v=>v=b) w w') (hS:DwAt w' b S'):Dc F w0 w' a m LA LM x y A M qq b z ⟨k.s,{ k.C with S:=S' }⟩:=
 ⟨Fo.own h.fd h.sw h.hb hk,hS,h.hb,zB h.cy hk (fun e=>h.cy.ne h.sw e.symm),h.hz,fun v hv=>Nat.lt_of_lt_of_le (h.lt v hv) hk.size⟩
theorem Dc.swept (h:Dc F w0 w a m LA LM x y A M qq b z k) (hd:Fo F w0 w' a m LA LM x y A M s'.A s'.M qq) (hk:zA (fun v=>v=b∨Gt w w0.heap.size v) w w') (hS:DwAt w' b S') (hn:s'.M.P.n=k.s.M.P.n) (hm:s'.M.K.many=k.s.M.K.many):Dc F w0 w' a m LA LM x y A M qq b z ⟨s',{ k.C with S:=S' }⟩:=by
 have hz:¬ (z=b∨Gt w w0.heap.size z):=by
  rintro (e | ⟨_,c,t,hc,ht⟩)
  ·exact h.cy.ne h.sw e.symm
  ·have hq:=h.cy
   unfold CcAt at hq
   rw [hq] at hc
   simp at hc
   rw [← hc.2] at ht
   revert ht;decide
 exact⟨hd,hS,h.hb,by unfold CcAt;dsimp only;rw [hn,hm];exact zB h.cy hk hz,h.hz,fun v hv=>Nat.lt_of_lt_of_le (h.lt v hv) hk.size⟩
theorem Dc.cells (h:Dc F w0 w a m LA LM x y A M qq b z k):w.cell? ⟨z,0,none⟩=some (.bool true)∧w.cell? ⟨z,1,none⟩=some (.int .i64 k.s.M.P.n)∧w.cell? ⟨z,2,none⟩=some (.int .i64 k.s.M.K.many)∧w.cell? ⟨z,3,none⟩=some (.pointer (some ⟨y,0,none⟩))∧w.cell? ⟨z,4,none⟩=some (.pointer (some ⟨b,0,none⟩))∧
 w.cell? ⟨z,5,none⟩=some (.int .i64 k.C.at')∧w.cell? ⟨z,6,none⟩=some (.int .i64 k.C.begun)∧w.cell? ⟨z,7,none⟩=some (.bool k.C.asked)∧(∀ i,w.frozen? ⟨z,i,none⟩=false)∧z<w.heap.size:=cells8f h.cy
theorem ccvalid (h:Dc F w0 w a m LA LM x y A M qq b z k):Calls Tryz.prog 116 #[.pointer (some ⟨z,0,none⟩)] w fun e w'=>e = .returned (.bool true)∧w'=w:=by
 obtain⟨c0,_⟩:=h.cells
 clear h
 go_in
 go_wp2
 go_ret
 exact⟨rfl,rfl⟩
theorem ccphase (h:Dc F w0 w a m LA LM x y A M qq b z k):Calls Tryz.prog 56 #[.pointer (some ⟨z,0,none⟩)] w fun e w'=>e = .returned (.int .i64 k.s.M.K.ph)∧w'=w:=by
 have HV:=zC (ccvalid h)
 have HP:=zC h.wk.ph
 obtain⟨c0,c1,c2,c3,c4,c5,c6,c7,cf,cl⟩:=h.cells
 clear h cf
 go_in
 go_wp2_with fail
 refine zP HV.out ?_
 go_wp2_with fail
 refine zP HP.out ?_
 go_wp2_with fail
 go_ret
 exact⟨rfl,rfl⟩
theorem ccbegun (h:Dc F w0 w a m LA LM x y A M qq b z k):Calls Tryz.prog 57 #[.pointer (some ⟨z,0,none⟩)] w fun e w'=>e = .returned (.int .i64 k.C.begun)∧w'=w:=by
 have HV:=zC (ccvalid h)
 obtain⟨c0,c1,c2,c3,c4,c5,c6,c7,cf,cl⟩:=h.cells
 clear h cf
 go_in
 go_wp2_with fail
 refine zP HV.out ?_
 go_wp2_with fail
 go_ret
 exact⟨rfl,rfl⟩
theorem FD.cyc (h:FD w0 w a m LA LM x y A M s' qq):Calls Tryz.prog 137 #[.pointer (some ⟨y,0,none⟩)] w fun e w'=>e = .returned (.int .i64 s'.M.K.cy)∧w'=w:=by
 obtain⟨L,h1,_⟩:=Fo.d h
 exact cycles24 h1
theorem ccended (h:Dc F w0 w a m LA LM x y A M qq b z k):Calls Tryz.prog 58 #[.pointer (some ⟨z,0,none⟩)] w fun e w'=>e = .returned (.int .i64 k.s.M.K.cy)∧w'=w:=by
 have HV:=zC (ccvalid h)
 have HP:=zC h.wk.cyc
 obtain⟨c0,c1,c2,c3,c4,c5,c6,c7,cf,cl⟩:=h.cells
 clear h cf
 go_in
 go_wp2_with fail
 refine zP HV.out ?_
 go_wp2_with fail
 refine zP HP.out ?_
 go_wp2_with fail
 go_ret
 exact⟨rfl,rfl⟩
theorem ccmarker (h:Dc F w0 w a m LA LM x y A M qq b z k):Calls Tryz.prog 45 #[.pointer (some ⟨z,0,none⟩)] w fun e w'=>e = .returned (.pointer (some ⟨y,0,none⟩))∧w'=w:=by
 have HV:=zC (ccvalid h)
 obtain⟨c0,c1,c2,c3,c4,c5,c6,c7,cf,cl⟩:=h.cells
 clear h cf
 go_in
 go_wp2_with fail
 refine zP HV.out ?_
 go_wp2_with fail
 go_ret
 exact⟨rfl,rfl⟩
theorem CcAt.dt {N:Nat} {v:Nat} {c:Array Value} {t:TypeId} (hc:w.heap[v]?=some (.cells c t)) (ht:DTy t) (hN:N≤v) (hk:zA (fun u=>u=v) w w'):zA (Dt w N) w w':=
 hk.mono (fun u _ e=>by have e':u=v:=e;subst e';exact⟨hN,c,t,hc,ht⟩)
theorem Dc.own (h:Dc F w0 w a m LA LM x y A M qq b z k) (hk:zA (fun v=>v=z) w w'):zA (Dt w w0.heap.size) w w':=CcAt.dt h.cy (.inr (.inl rfl)) h.hz hk
theorem Dc.owns (h:Dc F w0 w a m LA LM x y A M qq b z k) (hk:zA (fun v=>v=b) w w'):zA (Dt w w0.heap.size) w w':=CcAt.dt h.sw (.inr (.inr rfl)) h.hb hk
theorem Dc.ownf (h:Dc F w0 w a m LA LM x y A M qq b z k) (hk:zA (fun v=>v=b∨Gt w w0.heap.size v) w w'):zA (Dt w w0.heap.size) w w':=
 hk.mono (fun u _ e=>by
  rcases e with e | ⟨h1,c,t,h2,h3⟩
  ·subst e;exact⟨h.hb,_,_,h.sw,.inr (.inr rfl)⟩
  ·exact⟨h1,c,t,h2,.inl h3⟩)
theorem ccbegin (h:Dc F w0 w a m LA LM x y A M qq b z k) (hb:k.C.begun<4611686018427387904):Calls Tryz.prog 130 #[.pointer (some ⟨z,0,none⟩)] w fun e w'=>e = .returned (.tuple #[])∧Dc F w0 w' a m LA LM x y A M qq b z k.begin∧zA (Dt w w0.heap.size) w w':=by
 have HB:=zC (Fo.gbegin h.fd)
 have H0:=zC h
 obtain⟨c0,c1,c2,c3,c4,c5,c6,c7,cf,cl⟩:=h.cells
 have hk1:k.s.M.beginR.1.P.n=k.s.M.P.n∧k.s.M.beginR.1.K.many=k.s.M.K.many:=by unfold Mk.beginR;split <;> exact⟨rfl,rfl⟩
 have HK:=zC hk1
 clear h cf hk1
 go_in
 go_wp2_with fail
 refine HB.out.mono ?_
 rintro e w1 ⟨rfl,hd,k1⟩
 have HD:=zC (H0.out.op (s':=k.s.begun) hd k1 HK.out.1 HK.out.2);have K1:=zC k1
 clear hd k1 c0 c1 c2 c3 c4 c5 c6 c7 cl
 obtain⟨c0,c1,c2,c3,c4,c5,c6,c7,cf,cl⟩:=HD.out.cells
 dsimp only at c6 c7
 have cf6:=cf 6;have cf7:=cf 7
 clear cf
 go_wp2_with fail
 go_end0
 have kx:zA (fun v=>v=z) w1 ((w1.setCell ⟨z,7,none⟩ (.bool false)).setCell ⟨z,6,none⟩ (.int .i64 ((k.C.begun:Int)+1))):=(zJ _ _ _ _).trans (zJ _ _ _ _)
 exact⟨rfl,HD.out.setC (k':=k.begin) kx rfl rfl ((zH (zH HD.out.cy 7 _) 6 _).trans rfl),Dt.trans (Gt.dt K1.out) (HD.out.own kx)⟩
theorem ccask (h:Dc F w0 w a m LA LM x y A M qq b z k) (hb:k.C.begun<4611686018427387904):Calls Tryz.prog 54 #[.pointer (some ⟨z,0,none⟩)] w fun e w'=>e = .returned (.bool k.askR.2)∧Dc F w0 w' a m LA LM x y A M qq b z k.askR.1∧zA (Dt w w0.heap.size) w w':=by
 have HV:=zC (ccvalid h)
 have HP:=zC h.wk.ph
 have HB:=zC (ccbegin h hb)
 have H0:=zC h
 obtain⟨c0,c1,c2,c3,c4,c5,c6,c7,cf,cl⟩:=h.cells
 have cf7:=cf 7
 unfold Col.askR
 split
 ·rename_i hp
  rw [hp] at HP
  clear h cf hb
  go_in
  go_wp2_with fail
  refine zP HV.out ?_
  go_wp2_with fail
  refine zP HP.out ?_
  go_wp2_with fail
  refine HB.out.mono ?_
  rintro e w1 ⟨rfl,h1,k1⟩
  have H1:=zC h1;have K1:=zC k1
  clear h1 k1
  go_wp2_with fail
  go_ret
  exact⟨rfl,H1.out,K1.out⟩
 ·rename_i hp
  have hp':((k.s.M.K.ph:Int) == 0)=false:=by simp;omega
  clear h cf hb
  go_in
  go_wp2_with fail
  refine zP HV.out ?_
  go_wp2_with fail
  refine zP HP.out ?_
  go_wp2_with fail
  go_ret
  have kx:zA (fun v=>v=z) w (w.setCell ⟨z,7,none⟩ (.bool true)):=zJ _ _ _ _
  exact⟨rfl,H0.out.setC (k':=⟨k.s,{ k.C with asked:=true }⟩) kx rfl rfl ((zH H0.out.cy 7 _).trans rfl),H0.out.own kx⟩
theorem ccack (h:Dc F w0 w a m LA LM x y A M qq b z k) (hok:k.Ok) (i:Int):Calls Tryz.prog 53 #[.pointer (some ⟨z,0,none⟩),.pointer (some ⟨x,0,none⟩),.int .i64 i] w
 fun e w'=>e = .returned (.tuple #[.bool (k.s.M.ackR k.s.A i).is,.int .i64 (k.s.M.ackR k.s.A i).e])∧Dc F w0 w' a m LA LM x y A M qq b z ⟨⟨k.s.A,(k.s.M.ackR k.s.A i).M⟩,k.C⟩∧zA (Dt w w0.heap.size) w w':=by
 have HV:=zC (ccvalid h)
 have HA:=zC (Fo.gack h.fd hok.s.n hok.s.k i)
 have H0:=zC h
 obtain⟨l1,l2,_⟩:=(Col.ack_ok hok i).2
 dsimp only at l1 l2
 have HL:=zC (And.intro l2 l1)
 obtain⟨c0,c1,c2,c3,c4,c5,c6,c7,cf,cl⟩:=h.cells
 clear h cf hok l1 l2
 go_in
 go_wp2_with fail
 refine zP HV.out ?_
 go_wp2_with fail
 refine HA.out.mono ?_
 rintro e w1 ⟨rfl,hd,k1⟩
 have H1:=zC (H0.out.op (s':=⟨k.s.A,(k.s.M.ackR k.s.A i).M⟩) hd k1 HL.out.1 HL.out.2);have K1:=zC k1
 clear hd k1
 go_wp2_with fail
 go_ret2
 exact⟨rfl,H1.out,Gt.dt K1.out⟩
end
end Go.Proofs.YtjfmagccmjdhoaaGreat
namespace Go.Proofs.YtjfmagccmjdhoaaGreat
open Go.RowKit
attribute [local go_sem] Oper.semAt_some
def Sys.hdl (s:Sys) (i:Nat):Rf × Bool:=if (s.lostAt i).2=true then ((s.lostAt i).1,true) else (.no,false)
section
variable {F:Nat→Prop} {w0 w w':World} {a m x y qq b z:Nat} {LA:ArL} {LM:MkL} {A:Ar} {M:Mk} {k k':Col} {s':Sys} {S':Sw}
theorem FD.obj (h:FD w0 w a m LA LM x y A M s' qq) (i:Nat) (g:Int) (hc:qH s'.A.H.T i g=0):Calls Tryz.prog 197 #[.pointer (some ⟨x,0,none⟩),.agg #[.int .i64 i,.int .u32 g]] w
 fun e w'=>e = .returned (.tuple #[.agg (s'.A.H.ob i).arr,.int .i64 0])∧Kz w w':=by
 obtain⟨LR,_,h2,_⟩:=Fo.doc h
 exact object18 i g h2 hc
theorem cchandle (h:Dc F w0 w a m LA LM x y A M qq b z k) (hok:k.Ok) (slot:Nat) (hs:slot<k.s.M.P.n):
 Calls Tryz.prog 131 #[.pointer (some ⟨z,0,none⟩),.pointer (some ⟨x,0,none⟩),.int .i64 slot] w fun e w'=>e = .returned (.tuple #[(k.s.hdl slot).1.val,.bool (k.s.hdl slot).2])∧Kz w w':=by
 have HQ:=zC (fun W (hk:Kz w W)=>h.quiet hk)
 have HMK:=zC (fun W (hk:Kz w W)=>(h.quiet hk).wk.mk slot hs)
 obtain⟨mk,hmk⟩:∃ mk,(k.s.M.P.c slot != 0)=mk:=⟨_,rfl⟩
 rw [hmk] at HMK
 have HMV:=zC hmk
 have HC:=zC (fun W (hk:Kz w W)=>(h.quiet hk).cells)
 have HOK:=zC hok;have HS:=zC hs
 have HAN:=zC (show k.s.A.H.T.n=k.s.M.P.n from hok.s.n)
 have hn2:k.s.M.P.n≤256:=by have:=hok.s.m.n2;omega
 obtain⟨w1,hw1⟩:∃ w1,w.alloc (.cells #[.int .i64 0,.int .u32 0] 51)=w1:=⟨_,rfl⟩
 have K1:=zC (show Kz w w1 by rw [← hw1];exact (zA.refl _ _).alloc _)
 have HR1:=zC (show w1.heap[w.heap.size]?=some (.cells #[.int .i64 0,.int .u32 0] 51) by rw [← hw1];exact zE)
 have HW1:=zC hw1
 clear h hmk hok hs hw1
 go_in
 go_upto_region 1 with (fail)
 rw [HW1.out]
 obtain⟨c0,c1,c2,c3,c4,c5,c6,c7,cf,cl⟩:=HC.out _ K1.out
 clear cf
 go_wp2_with fail
 refine zP ((HMK.out _ K1.out)) ?_
 go_wp2_with fail
 refine ((HQ.out _ K1.out).wk.heap).mono ?_
 rintro e w3 ⟨hb3,ht3,rfl,k3,_,_,hh3⟩
 have K3:=zC (K1.out.trans k3);have HH3:=zC hh3;have HR3:=zC (zB HR1.out k3 (fun h=>h))
 clear k3 hh3 c0 c1 c2 c3 c4 c5 c6 c7 cl
 go_wp2_with fail
 refine (all14 HH3.out).mono ?_
 rintro e w4 ⟨v,rfl,hr4,k4⟩
 have K4:=zC (K3.out.trans k4);have HR4:=zC (zB HR3.out k4 (fun h=>h))
 obtain⟨pa,ca,rfl⟩:=hr4.refs.slice
 have HV4:=zC hr4.refs
 have hlen:=tk_len k.s.A.H.T
 obtain⟨l,hl⟩:∃ l,k.s.A.H.T.tk=l:=⟨_,rfl⟩
 rw [hl] at HV4 hlen ⊢
 have hl256:l.length≤256:=by have:=HAN.out;omega
 have HL:=zC hl
 clear k4 hr4 hl hlen HH3 HR3 K3 HR1
 have hz4:w.heap.size<w4.heap.size:=zF HR4.out
 go_wp2_with fail
 go_loopw [11] (fun ix wr=>∃ i:Nat,ix = .int .i64 i∧i≤l.length∧Kz w4 wr∧(mk=false→∀ j r,j<i→l[j]?=some r→r.s=(slot:Int)→(k.s.A.H.ob slot).h=false)) (fun ix _=>l.length - (intOf ix).toNat)
 case atStart=>exact⟨0,rfl,Nat.zero_le _,zA.refl _ _,fun _ j r hj=>absurd hj (Nat.not_lt_zero _)⟩
 case round=>
  obtain⟨i,rfl,hi,hkr,hno⟩:=hrel
  have KR:=zC (K4.out.trans hkr)
  have HRR:=zC (zB HR4.out hkr (fun h=>h))
  have HVR:=zC (HV4.out.keeps hkr (fun _ _ h=>h))
  have hkrs:=hkr.size
  have HKR:=zC hkr
  clear hkr
  have hi0:(0:Int)≤i:=by omega
  by_cases hlt:i<l.length
  ·have hlt':(i:Int)<(l.length:Int):=by omega
   obtain⟨r,hr⟩:∃ r,l[i]?=some r:=⟨_,List.getElem?_eq_getElem hlt⟩
   obtain⟨g,rfl,hg,g0,g1⟩:=HVR.out.cell.2 i r hr
   obtain⟨i0,e1,e2,e3,e4⟩:=tk_of (T:=k.s.A.H.T) (r:=r) (by rw [HL.out];exact List.mem_of_getElem? hr)
   obtain⟨rs,rg⟩:=r
   dsimp only at e1 e4 g0 g1
   subst e1;subst e4
   have HOB:=zC (fun W (hk:Kz w W)=>(HQ.out W hk).wk.obj i0 (k.s.A.H.T.gn i0) (by unfold qH;simp [*]))
   obtain⟨O,hO⟩:∃ O,k.s.A.H.ob i0=O:=⟨_,rfl⟩
   rw [hO] at HOB
   obtain⟨on,q0,q1,q2,q3,oh⟩:=O
   dsimp only [Ob.arr] at HOB
   have HOO:=zC (show (k.s.A.H.ob i0).h=oh by rw [hO])
   clear hO
   go_wp2_with fail
   refine zQ (HOB.out _ KR.out) fun w5 k5=>?_
   have K5:=zC k5
   have k6:Kz wr (w5.alloc (.cells #[.int .i64 on,.int .i64 q0.s,.int .u32 q0.g,.int .i64 q1.s,.int .u32 q1.g,.int .i64 q2.s,.int .u32 q2.g,.int .i64 q3.s,.int .u32 q3.g,.bool oh] 164)):=k5.alloc _
   obtain⟨g',hg',_,p0,p1⟩:=(HVR.out.keeps k6 (fun _ _ h=>h)).cell.2 i _ hr
   obtain rfl:g'=g:=by simpa using hg'.symm
   obtain⟨x0,x1,xf,xl⟩:=zK (zB HRR.out k6 (fun h=>h))
   have x0f:=xf 0;have x1f:=xf 1
   obtain⟨b0,b1,bf,bl⟩:=zK (zB HRR.out K5.out (fun h=>h))
   have b0f:=bf 0;have b1f:=bf 1
   clear bf
   have ohc:=zD (i:=9) (zE (w:=w5) (o:=(.cells #[.int .i64 on,.int .i64 q0.s,.int .u32 q0.g,.int .i64 q1.s,.int .u32 q1.g,.int .i64 q2.s,.int .u32 q2.g,.int .i64 q3.s,.int .u32 q3.g,.bool oh] 164))) rfl
   have hz5:w.heap.size<w5.heap.size:=Nat.lt_of_lt_of_le (zF HRR.out) k5.size
   have HK6:=zC k6
   have HE2:=zC e2;have HE3:=zC e3;have HR:=zC hr;have HNO0:=zC hno
   clear k5 k6 xf hg' HOB g0 g1 e2 e3 hr hno hg
   by_cases hs1:i0=slot
   ·have hsb:((i0:Int) == (slot:Int))=true:=by simp;omega
    cases oh
    ·have HNO:=zC (show mk=false→∀ j r,j<i+1→l[j]?=some r→r.s=(slot:Int)→(k.s.A.H.ob slot).h=false from fun e j r hj hr' hr2=>by
      rw [← hs1];exact HOO.out)
     clear hs1
     go_wp2_with fail
     exact⟨⟨i+1,by go_num,by omega,HKR.out.trans HK6.out,HNO.out⟩,by simp [intOf];omega⟩
    ·cases mk
     ·have HST:=zC (show k.s.hdl slot=(⟨(i0:Int),k.s.A.H.T.gn i0⟩,true) from by
       subst hs1
       have hmv:=HMV.out
       unfold Sys.hdl
       rw [lostAt_some (by simpa using hmv) HE3.out,HOO.out]
       rfl)
      clear hs1
      go_wp2_with fail
      refine bodyPost_ret_by (v:=.tuple #[(k.s.hdl slot).1.val,.bool (k.s.hdl slot).2]) (by rw [HST.out];simp [results,Tryz.results131,go_sem,Rf.val, *]) rfl ⟨rfl,?_⟩
      exact (kfin (KR.out.trans K5.out) (Nat.le_refl _) _ _).alloc _
     ·clear hs1
      go_wp2_with fail
      exact⟨⟨i+1,by go_num,by omega,HKR.out.trans HK6.out,fun e=>(by cases e)⟩,by simp [intOf];omega⟩
   ·have hsb:((i0:Int) == (slot:Int))=false:=by simp;omega
    have HNO:=zC (show mk=false→∀ j r,j<i+1→l[j]?=some r→r.s=(slot:Int)→(k.s.A.H.ob slot).h=false from fun e j r hj hr' hr2=>by
     by_cases hji:j=i
     ·subst hji
      have h1:=HR.out
      rw [hr'] at h1
      obtain rfl:=Option.some.inj h1
      exact absurd hr2 (by show ¬ (i0:Int)=(slot:Int);omega)
     ·exact HNO0.out e j r (by omega) hr' hr2)
    clear hs1
    go_wp2_with fail
    exact⟨⟨i+1,by go_num,by omega,HKR.out.trans HK6.out,HNO.out⟩,by simp [intOf];omega⟩
  ·have hnl:¬ (i:Int)<(l.length:Int):=by omega
   have HST:=zC (show k.s.hdl slot=(.no,false) from by
    have hmv:=HMV.out
    unfold Sys.hdl
    refine if_neg ?_
    by_cases hc:k.s.M.P.c slot≠0∨k.s.A.H.T.st slot≠1
    ·rw [lostAt_none hc];decide
    ·have h0:k.s.M.P.c slot=0:=by
      by_cases e:k.s.M.P.c slot=0
      ·exact e
      ·exact absurd (.inl e) hc
     have h1:k.s.A.H.T.st slot=1:=by
      by_cases e:k.s.A.H.T.st slot=1
      ·exact e
      ·exact absurd (.inr e) hc
     rw [lostAt_some h0 h1]
     have hm:=tk_mem (T:=k.s.A.H.T) (i:=slot) (by rw [HAN.out];exact HS.out) h1
     rw [HL.out] at hm
     obtain⟨j,hj⟩:=List.getElem?_of_mem hm
     have hjl:j<l.length:=(List.getElem?_eq_some_iff.1 hj).1
     have:=hno (by rw [← hmv];simp [h0]) j _ (by omega) hj rfl
     simp [this])
   obtain⟨x0,x1,xf,xl⟩:=zK HRR.out
   have x0f:=xf 0;have x1f:=xf 1
   clear xf hno
   go_wp2_with fail
   refine bodyPost_ret_by (v:=.tuple #[(k.s.hdl slot).1.val,.bool (k.s.hdl slot).2]) (by rw [HST.out];simp [results,Tryz.results131,go_sem,Rf.val,Rf.no, *]) rfl ⟨rfl,?_⟩
   exact kfin KR.out (Nat.le_refl _) _ _
end
end Go.Proofs.YtjfmagccmjdhoaaGreat
