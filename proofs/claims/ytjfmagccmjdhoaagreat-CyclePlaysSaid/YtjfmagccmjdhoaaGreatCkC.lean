import Derived.Test.YtjfmagccmjdhoaaGreatCkA
set_option maxHeartbeats 4000000
set_option maxRecDepth 100000
namespace Go.Proofs.YtjfmagccmjdhoaaGreat
open Go.RowKit
attribute [local go_sem] Oper.semAt_some
section
variable {F F':Nat→Prop} {w0 w w':World} {a m x y qq b z:Nat} {LA:ArL} {LM:MkL} {A:Ar} {M:Mk} {k k':Col} {s':Sys} {S':Sw}
theorem Dc.sub (h:Dc F w0 w a m LA LM x y A M qq b z k) (hF:∀ v,F' v→F v):Dc F' w0 w a m LA LM x y A M qq b z k:=
 ⟨Fo.sub h.fd hF,h.sw,h.hb,h.cy,h.hz,fun v hv=>h.lt v (hF v hv)⟩
theorem Dc.new (h:Dc F w0 w a m LA LM x y A M qq b z k) (hk:Kz w w') (hF:∀ v,F' v→F v∨w.heap.size≤v∧v<w'.heap.size):Dc F' w0 w' a m LA LM x y A M qq b z k:=by
 have hq:=h.quiet hk
 exact⟨Fo.quiet (Fo.addF h.fd (fun v hv=>(hF v hv).imp id (fun e=>e.1))) hk,hq.sw,hq.hb,hq.cy,hq.hz,fun v hv=>(hF v hv).elim (fun e=>hq.lt v e) (fun e=>e.2)⟩
theorem Dc.box {B:Nat} {cs:Array Value} (h:Dc F w0 w a m LA LM x y A M qq b z k) (hk:zA (fun v=>v=B) w w') (hb:w.heap[B]?=some (.cells cs 51)) (hN:w0.heap.size≤B) (hf:F B):Dc F w0 w' a m LA LM x y A M qq b z k:=
 ⟨Fo.box h.fd hk hb hN hf,zB h.sw hk (zM h.sw hb (by decide)),h.hb,zB h.cy hk (zM h.cy hb (by decide)),h.hz,fun v hv=>Nat.lt_of_lt_of_le (h.lt v hv) hk.size⟩
def Col.Nn (k:Col):Prop:=k.C.S.n≤k.C.S.next
theorem Col.step_nn (h:k.Nn) (room:Bool):(k.stepR room).c.Nn:=by
 have hd:k.discover.Nn:=by
  unfold Col.discover Col.Nn
  split
  ·exact Nat.le_refl _
  ·exact h
 unfold Col.stepR
 split
 ·dsimp only
  split
  ·exact h
  ·exact h
 split
 ·split
  ·split
   ·exact hd
   ·exact h
  ·exact hd
 split
 ·have hs:(k.C.S.stepR k.s).S.n≤(k.C.S.stepR k.s).S.next:=by
   unfold Col.Nn at h
   unfold Sw.stepR
   split
   ·show k.C.S.n≤k.C.S.next+1;omega
   ·show k.C.S.n+1≤k.C.S.next+1;omega
  show k.sweep.Nn
  unfold Col.sweep Col.Nn
  split
  ·exact hs
  ·exact hs
 ·show k.mark.Nn
  unfold Col.mark Col.Nn
  dsimp only
  split
  ·exact h
  ·exact h
def CcTo (F:Nat→Prop) (w0 w:World) (a m:Nat) (LA:ArL) (LM:MkL) (x y:Nat) (A:Ar) (M:Mk) (qq b z:Nat) (room:Nat) (R:CyRes):Prop:=
 Calls Tryz.prog 55 #[.pointer (some ⟨z,0,none⟩),.pointer (some ⟨x,0,none⟩),.int .i64 room] w fun e w'=>e = .returned (.tuple #[R.r.val,.bool R.is,.int .i64 0])∧Dc F w0 w' a m LA LM x y A M qq b z R.c∧zA (Dt w w0.heap.size) w w'
theorem ccstep_idle (h:Dc F w0 w a m LA LM x y A M qq b z k) (hok:k.Ok) (hp:k.s.M.K.ph=0) (hb:k.C.begun<4611686018427387904) (room:Nat) (hr:room<4611686018427387904):
 CcTo F w0 w a m LA LM x y A M qq b z room ⟨if k.C.asked=true then k.begin else k,.no,false⟩:=by
 obtain⟨wA,hwA⟩:∃ wA,w.alloc (.cells #[.int .i64 0,.int .u32 0] 51)=wA:=⟨_,rfl⟩
 have kA:Kz w wA:=by rw [← hwA];exact (zA.refl _ _).alloc _
 have HR1:=zC (show wA.heap[w.heap.size]?=some (.cells #[.int .i64 0,.int .u32 0] 51) by rw [← hwA];exact zE)
 have hA:=Dc.new (F':=fun v=>F v∨v=w.heap.size) h kA (fun v hv=>hv.imp id (fun e=>⟨Nat.le_of_eq e.symm,by rw [e];exact zF HR1.out⟩))
 have HQ:=zC (fun W (hk:Kz wA W)=>hA.quiet hk)
 have HSZ:=zC (fun W (hk:Kz wA W)=>(hA.quiet hk).wk.sizes)
 rw [hok.s.n,hok.s.k] at HSZ
 have HV:=zC (fun W (hk:Kz wA W)=>ccvalid (hA.quiet hk))
 have HPH:=zC (fun W (hk:Kz wA W)=>(hA.quiet hk).wk.ph)
 have HC:=zC (fun W (hk:Kz wA W)=>(hA.quiet hk).cells)
 have HOK:=zC hok;have HW1:=zC hwA;have KA:=zC kA
 have HW0:=zC (Fo.du h.fd).kp.size
 obtain⟨n,hn⟩:∃ n,k.s.M.P.n=n:=⟨_,rfl⟩
 obtain⟨ms,hms⟩:∃ ms,k.s.M.K.many=ms:=⟨_,rfl⟩
 have HN:=zC hn
 have hn1:1≤n:=by have:=hok.s.m.n1;omega
 have hnb:((n:Int) == 0)=false:=by simp;omega
 have hr0:¬ (room:Int)<0:=by omega
 rw [hn,hms] at HSZ HC
 rw [hp] at HPH
 have HBG:=zC (fun W (hk:Kz wA W)=>ccbegin (hA.quiet hk) hb)
 obtain⟨ak,hak⟩:∃ ak,k.C.asked=ak:=⟨_,rfl⟩
 rw [hak] at HC ⊢
 clear h hok hp hb kA hA hwA hn hms hak
 unfold CcTo
 cases ak
 ·go_in
  go_upto_region 1 with (fail)
  rw [HW1.out]
  go_wp2_with fail
  refine zQ (HSZ.out _ (zA.refl _ _)) fun w1 k1=>?_
  have K1:=zC k1
  have HR2:=zC (zB HR1.out k1 (fun h=>h))
  obtain⟨c0,c1,c2,c3,c4,c5,c6,c7,cf,cl⟩:=HC.out _ k1
  clear k1 HR1
  go_wp2_with fail
  refine zP ((HV.out _ K1.out)) ?_
  go_wp2_with fail
  refine zP ((HPH.out _ K1.out)) ?_
  clear c0 c1 c2 c3 c4 c5 c6 cf
  go_upto_region 26 with (fail)
  have HD2:=zC (HQ.out _ K1.out)
  obtain⟨x0,x1,xf,xl⟩:=zK HR2.out
  have x0f:=xf 0;have x1f:=xf 1
  clear xf
  go_wp2_with fail
  obtain⟨w8,hw8⟩:∃ w8,(World.setCell w1 ⟨w.heap.size,0,none⟩ (.int .i64 0)).setCell ⟨w.heap.size,1,none⟩ (.int .u32 0)=w8:=⟨_,rfl⟩
  have k8:zA (fun v=>v=w.heap.size) w1 w8:=by rw [← hw8];exact (zJ _ _ _ _).trans (zJ _ _ _ _)
  have hq8:w8.heap[w.heap.size]?=some (.cells #[.int .i64 0,.int .u32 0] 51):=by rw [← hw8];exact (zH (zH HR2.out 0 _) 1 _).trans rfl
  obtain⟨v0,v1,_,_⟩:=zK hq8
  try rw [hw8]
  refine bodyPost_ret_by (v:=.tuple #[.agg #[.int .i64 0,.int .u32 0],.bool false,.int .i64 0]) (by simp [results,Tryz.results55,go_sem, *]) rfl ⟨(by first | rfl | (rw [his];rfl)),(HD2.out.box k8 HR2.out HW0.out (.inr rfl)).sub (fun _ h=>.inl h),?_⟩
  rw [← hw8];exact kfin (KA.out.trans K1.out).up (Nat.le_refl _) _ _
 ·go_in
  go_upto_region 1 with (fail)
  rw [HW1.out]
  go_wp2_with fail
  refine zQ (HSZ.out _ (zA.refl _ _)) fun w1 k1=>?_
  have K1:=zC k1
  have HR2:=zC (zB HR1.out k1 (fun h=>h))
  obtain⟨c0,c1,c2,c3,c4,c5,c6,c7,cf,cl⟩:=HC.out _ k1
  clear k1 HR1
  go_wp2_with fail
  refine zP ((HV.out _ K1.out)) ?_
  go_wp2_with fail
  refine zP ((HPH.out _ K1.out)) ?_
  clear c0 c1 c2 c3 c4 c5 c6 cf
  go_wp2_with fail
  refine (HBG.out _ K1.out).mono ?_
  rintro e w2 ⟨rfl,hd2,k2⟩
  have HD2:=zC hd2;have HR3:=zC (Dt.block k2 HR2.out (by decide))
  have K2:=zC (show zA (Dt w w0.heap.size) w w2 from Dt.trans (KA.out.trans K1.out).up k2)
  clear hd2 k2
  go_upto_region 26 with (fail)
  obtain⟨x0,x1,xf,xl⟩:=zK HR3.out
  have x0f:=xf 0;have x1f:=xf 1
  clear xf
  go_wp2_with fail
  obtain⟨w8,hw8⟩:∃ w8,(World.setCell w2 ⟨w.heap.size,0,none⟩ (.int .i64 0)).setCell ⟨w.heap.size,1,none⟩ (.int .u32 0)=w8:=⟨_,rfl⟩
  have k8:zA (fun v=>v=w.heap.size) w2 w8:=by rw [← hw8];exact (zJ _ _ _ _).trans (zJ _ _ _ _)
  have hq8:w8.heap[w.heap.size]?=some (.cells #[.int .i64 0,.int .u32 0] 51):=by rw [← hw8];exact (zH (zH HR3.out 0 _) 1 _).trans rfl
  obtain⟨v0,v1,_,_⟩:=zK hq8
  try rw [hw8]
  refine bodyPost_ret_by (v:=.tuple #[.agg #[.int .i64 0,.int .u32 0],.bool false,.int .i64 0]) (by simp [results,Tryz.results55,go_sem, *]) rfl ⟨(by first | rfl | (rw [his];rfl)),(HD2.out.box k8 HR3.out HW0.out (.inr rfl)).sub (fun _ h=>.inl h),?_⟩
  rw [← hw8];exact kfin K2.out (Nat.le_refl _) _ _
theorem ccstep_mark (h:Dc F w0 w a m LA LM x y A M qq b z k) (hok:k.Ok) (hp:k.s.M.K.ph=1∨k.s.M.K.ph=2∨k.s.M.K.ph=3) (hcy:k.s.M.K.cy<4611686018427387904) (room:Nat) (hr:room<4611686018427387904):
 CcTo F w0 w a m LA LM x y A M qq b z room ⟨k.mark,.no,false⟩:=by
 obtain⟨wA,hwA⟩:∃ wA,w.alloc (.cells #[.int .i64 0,.int .u32 0] 51)=wA:=⟨_,rfl⟩
 have kA:Kz w wA:=by rw [← hwA];exact (zA.refl _ _).alloc _
 have HR1:=zC (show wA.heap[w.heap.size]?=some (.cells #[.int .i64 0,.int .u32 0] 51) by rw [← hwA];exact zE)
 have hA:=Dc.new (F':=fun v=>F v∨v=w.heap.size) h kA (fun v hv=>hv.imp id (fun e=>⟨Nat.le_of_eq e.symm,by rw [e];exact zF HR1.out⟩))
 have HQ:=zC (fun W (hk:Kz wA W)=>hA.quiet hk)
 have HSZ:=zC (fun W (hk:Kz wA W)=>(hA.quiet hk).wk.sizes)
 rw [hok.s.n,hok.s.k] at HSZ
 have HV:=zC (fun W (hk:Kz wA W)=>ccvalid (hA.quiet hk))
 have HPH:=zC (fun W (hk:Kz wA W)=>(hA.quiet hk).wk.ph)
 have HC:=zC (fun W (hk:Kz wA W)=>(hA.quiet hk).cells)
 have HOK:=zC hok;have HW1:=zC hwA;have KA:=zC kA
 have HW0:=zC (Fo.du h.fd).kp.size
 obtain⟨n,hn⟩:∃ n,k.s.M.P.n=n:=⟨_,rfl⟩
 obtain⟨ms,hms⟩:∃ ms,k.s.M.K.many=ms:=⟨_,rfl⟩
 have HN:=zC hn
 have hn1:1≤n:=by have:=hok.s.m.n1;omega
 have hnb:((n:Int) == 0)=false:=by simp;omega
 have hr0:¬ (room:Int)<0:=by omega
 rw [hn,hms] at HSZ HC
 obtain⟨_,hlk,_⟩:=Col.mark_ok hok hp
 have HST:=zC (fun W (hk:Kz wA W)=>Fo.gstep (hA.quiet hk).fd hok.s.m hok.s.n hok.s.k hcy)
 have HLK:=zC hlk
 obtain⟨ph,hph⟩:∃ ph,k.s.M.K.ph=ph:=⟨_,rfl⟩
 rw [hph] at HPH hp
 have q0:((ph:Int) == 0)=false:=by simp;omega
 have q4:((ph:Int) == 4)=false:=by simp;omega
 have q5:((ph:Int) == 5)=false:=by simp;omega
 obtain⟨q,hq⟩:∃ q,k.s.step.M.K.ph=q:=⟨_,rfl⟩
 have HPN:=zC (fun W (hd:Dc (fun v=>F v∨v=w.heap.size) w0 W a m LA LM x y A M qq b z ⟨k.s.step,k.C⟩)=>hd.wk.ph)
 rw [hq] at HPN
 have HMK:=zC (show k.mark=⟨k.s.step,if q=4 then { k.C with at':=0 } else k.C⟩ by unfold Col.mark;rw [hq])
 clear h hok hp hcy kA hA hwA hn hms hph hlk hq
 unfold CcTo
 go_in
 go_upto_region 1 with (fail)
 rw [HW1.out]
 go_wp2_with fail
 refine zQ (HSZ.out _ (zA.refl _ _)) fun w1 k1=>?_
 have K1:=zC k1
 have HR2:=zC (zB HR1.out k1 (fun h=>h))
 obtain⟨c0,c1,c2,c3,c4,c5,c6,c7,cf,cl⟩:=HC.out _ k1
 clear k1 HR1
 go_wp2_with fail
 refine zP ((HV.out _ K1.out)) ?_
 go_wp2_with fail
 refine zP ((HPH.out _ K1.out)) ?_
 go_wp2_with fail
 refine (HST.out _ K1.out).mono ?_
 rintro e w2 ⟨rfl,hd2,k2⟩
 have HD2:=zC ((HQ.out _ K1.out).op (s':=k.s.step) hd2 k2 HLK.out.2.1 HLK.out.1);have HR3:=zC (Gt.block k2 HR2.out (by decide))
 have K2:=zC (show zA (Dt w w0.heap.size) w w2 from Dt.trans (KA.out.trans K1.out).up (Gt.dt k2))
 clear hd2 k2 c0 c1 c2 c3 c4 c5 c6 c7 cf cl
 obtain⟨c0,c1,c2,c3,c4,c5,c6,c7,cf,cl⟩:=HD2.out.cells
 have cf5:=cf 5
 clear cf
 go_wp2_with fail
 refine zP ((HPN.out _ HD2.out)) ?_
 by_cases hq4:q=4
 ·have hqb:((q:Int) == 4)=true:=by simp;omega
  have HM2:=zC (show k.mark=⟨k.s.step,{ k.C with at':=0 }⟩ by rw [HMK.out,if_pos hq4])
  clear hq4
  have kx:zA (fun v=>v=z) w2 (w2.setCell ⟨z,5,none⟩ (.int .i64 0)):=zJ _ _ _ _
  have HD3:=zC (HD2.out.setC (k':=k.mark) kx (by rw [HM2.out]) (by rw [HM2.out]) (by rw [HM2.out];exact (zH HD2.out.cy 5 _).trans rfl))
  have HR4:=zC (zB HR3.out kx (fun e=>zM HR3.out HD2.out.cy (by decide) e))
  have K3:=zC (show zA (Dt w w0.heap.size) w (w2.setCell ⟨z,5,none⟩ (.int .i64 0)) from Dt.trans K2.out (HD2.out.own kx))
  clear kx
  go_upto_region 26 with (fail)
  obtain⟨x0,x1,xf,xl⟩:=zK HR4.out
  have x0f:=xf 0;have x1f:=xf 1
  clear xf
  go_wp2_with fail
  obtain⟨w8,hw8⟩:∃ w8,(World.setCell (w2.setCell ⟨z,5,none⟩ (.int .i64 0)) ⟨w.heap.size,0,none⟩ (.int .i64 0)).setCell ⟨w.heap.size,1,none⟩ (.int .u32 0)=w8:=⟨_,rfl⟩
  have k8:zA (fun v=>v=w.heap.size) (w2.setCell ⟨z,5,none⟩ (.int .i64 0)) w8:=by rw [← hw8];exact (zJ _ _ _ _).trans (zJ _ _ _ _)
  have hq8:w8.heap[w.heap.size]?=some (.cells #[.int .i64 0,.int .u32 0] 51):=by rw [← hw8];exact (zH (zH HR4.out 0 _) 1 _).trans rfl
  obtain⟨v0,v1,_,_⟩:=zK hq8
  try rw [hw8]
  refine bodyPost_ret_by (v:=.tuple #[.agg #[.int .i64 0,.int .u32 0],.bool false,.int .i64 0]) (by simp [results,Tryz.results55,go_sem, *]) rfl ⟨(by first | rfl | (rw [his];rfl)),(HD3.out.box k8 HR4.out HW0.out (.inr rfl)).sub (fun _ h=>.inl h),?_⟩
  rw [← hw8];exact kfin K3.out (Nat.le_refl _) _ _
 ·have hqb:((q:Int) == 4)=false:=by simp;omega
  have HM2:=zC (show k.mark=⟨k.s.step,k.C⟩ by rw [HMK.out,if_neg hq4])
  have HD3:=zC (show Dc (fun v=>F v∨v=w.heap.size) w0 w2 a m LA LM x y A M qq b z k.mark by rw [HM2.out];exact HD2.out)
  clear hq4
  go_upto_region 26 with (fail)
  obtain⟨x0,x1,xf,xl⟩:=zK HR3.out
  have x0f:=xf 0;have x1f:=xf 1
  clear xf
  go_wp2_with fail
  obtain⟨w8,hw8⟩:∃ w8,(World.setCell w2 ⟨w.heap.size,0,none⟩ (.int .i64 0)).setCell ⟨w.heap.size,1,none⟩ (.int .u32 0)=w8:=⟨_,rfl⟩
  have k8:zA (fun v=>v=w.heap.size) w2 w8:=by rw [← hw8];exact (zJ _ _ _ _).trans (zJ _ _ _ _)
  have hq8:w8.heap[w.heap.size]?=some (.cells #[.int .i64 0,.int .u32 0] 51):=by rw [← hw8];exact (zH (zH HR3.out 0 _) 1 _).trans rfl
  obtain⟨v0,v1,_,_⟩:=zK hq8
  try rw [hw8]
  refine bodyPost_ret_by (v:=.tuple #[.agg #[.int .i64 0,.int .u32 0],.bool false,.int .i64 0]) (by simp [results,Tryz.results55,go_sem, *]) rfl ⟨(by first | rfl | (rw [his];rfl)),(HD3.out.box k8 HR3.out HW0.out (.inr rfl)).sub (fun _ h=>.inl h),?_⟩
  rw [← hw8];exact kfin K2.out (Nat.le_refl _) _ _
theorem ccstep_sweep (h:Dc F w0 w a m LA LM x y A M qq b z k) (hok:k.Ok) (hp:k.s.M.K.ph=5) (hnn:k.Nn) (hcy:k.s.M.K.cy<4611686018427387904) (room:Nat) (hr:room<4611686018427387904):
 CcTo F w0 w a m LA LM x y A M qq b z room ⟨k.sweep,.no,false⟩:=by
 have hhb:=h.hb
 obtain⟨wA,hwA⟩:∃ wA,w.alloc (.cells #[.int .i64 0,.int .u32 0] 51)=wA:=⟨_,rfl⟩
 have kA:Kz w wA:=by rw [← hwA];exact (zA.refl _ _).alloc _
 have HR1:=zC (show wA.heap[w.heap.size]?=some (.cells #[.int .i64 0,.int .u32 0] 51) by rw [← hwA];exact zE)
 have hA:=Dc.new (F':=fun v=>F v∨v=w.heap.size) h kA (fun v hv=>hv.imp id (fun e=>⟨Nat.le_of_eq e.symm,by rw [e];exact zF HR1.out⟩))
 have HQ:=zC (fun W (hk:Kz wA W)=>hA.quiet hk)
 have HSZ:=zC (fun W (hk:Kz wA W)=>(hA.quiet hk).wk.sizes)
 rw [hok.s.n,hok.s.k] at HSZ
 have HV:=zC (fun W (hk:Kz wA W)=>ccvalid (hA.quiet hk))
 have HPH:=zC (fun W (hk:Kz wA W)=>(hA.quiet hk).wk.ph)
 have HC:=zC (fun W (hk:Kz wA W)=>(hA.quiet hk).cells)
 have HOK:=zC hok;have HW1:=zC hwA;have KA:=zC kA
 have HW0:=zC (Fo.du h.fd).kp.size
 obtain⟨n,hn⟩:∃ n,k.s.M.P.n=n:=⟨_,rfl⟩
 obtain⟨ms,hms⟩:∃ ms,k.s.M.K.many=ms:=⟨_,rfl⟩
 have HN:=zC hn
 have hn1:1≤n:=by have:=hok.s.m.n1;omega
 have hnb:((n:Int) == 0)=false:=by simp;omega
 have hr0:¬ (room:Int)<0:=by omega
 rw [hn,hms] at HSZ HC
 have hnn2:k.s.M.P.n≤256:=by have:=hok.s.m.n2;omega
 have HST:=zC (fun W (hk:Kz wA W)=>dsw_stepF (hA.quiet hk).fd (hA.quiet hk).lt (hA.quiet hk).sw hhb hok.sz.symm (by rw [hok.sz];omega) (by rw [hok.sz];omega) hok.s hp (by rw [hok.sz];exact hok.a5 hp) hnn)
 obtain⟨_,hM,_⟩:=Sw.step_safe (S:=k.C.S) hok.s hok.safe (by omega) (hok.a5 hp)
 have hlk:=(Col.sweep_ok hok hp).2.1
 obtain⟨R,hR⟩:∃ R,k.C.S.stepR k.s=R:=⟨_,rfl⟩
 rw [hR] at HST hM
 have HM:=zC hM
 have HSW:=zC (show k.sweep=if R.S.next=R.S.size then ⟨⟨R.s.A,R.s.M.goR.1⟩,{ k.C with S:=R.S }⟩ else ⟨R.s,{ k.C with S:=R.S }⟩ by unfold Col.sweep;rw [hR])
 have HLK:=zC hlk
 have HMO:=zC (show R.s.M.Ok∧R.s.M.K.cy<4611686018427387904 by rw [hM];exact⟨hok.s.m,hcy⟩)
 rw [hp] at HPH
 clear h hok hp hnn hcy kA hA hwA hn hms hlk hM hR hhb hnn2
 unfold CcTo
 go_in
 go_upto_region 1 with (fail)
 rw [HW1.out]
 go_wp2_with fail
 refine zQ (HSZ.out _ (zA.refl _ _)) fun w1 k1=>?_
 have K1:=zC k1
 have HR2:=zC (zB HR1.out k1 (fun h=>h))
 obtain⟨c0,c1,c2,c3,c4,c5,c6,c7,cf,cl⟩:=HC.out _ k1
 clear k1 HR1
 go_wp2_with fail
 refine zP ((HV.out _ K1.out)) ?_
 go_wp2_with fail
 refine zP ((HPH.out _ K1.out)) ?_
 go_upto_region 23 with (fail)
 go_region_held3 (fun W=>W.cell? ⟨z,4,none⟩=some (.pointer (some ⟨b,0,none⟩))∧W.cell? ⟨z,3,none⟩=some (.pointer (some ⟨y,0,none⟩)))
  ((first | exact⟨c4,c3⟩ | exact (let q:=((HQ.out _ K1.out.drew).swept (s':=R.s) hd2 k2 hs2 (by rw [HM.out]) (by rw [HM.out])).cells;⟨q.2.2.2.2.1,q.2.2.2.1⟩)))
  (first | (go_at_call 134;refine (HST.out _ K1.out.drew).mono ?_;rintro e w2 ⟨rfl,hd2,hs2,k2⟩))
 have HD2:=zC ((HQ.out _ K1.out.drew).swept (s':=R.s) hd2 k2 hs2 (by rw [HM.out]) (by rw [HM.out]))
 have kd:=(HQ.out _ K1.out.drew).ownf k2
 have HR3:=zC (Dt.block kd HR2.out (by decide))
 have K2:=zC (show zA (Dt w w0.heap.size) w w2 from Dt.trans (KA.out.trans K1.out.drew).up kd)
 clear hd2 k2 hs2 kd c0 c1 c2 c3 c4 c5 c6 c7 cf cl HST
 obtain⟨c0,c1,c2,c3,c4,c5,c6,c7,cf,cl⟩:=HD2.out.cells
 have HDN:=zC (dsw_done HD2.out.sw)
 clear cf
 go_wp2_with fail
 refine zQ HDN.out fun w3 k3=>?_
 have HD3:=zC (HD2.out.quiet k3);have HR4:=zC (zB HR3.out k3 (fun h=>h))
 have K3:=zC (Dt.trans K2.out k3.up)
 clear k3 c0 c1 c2 c3 c4 c5 c6 c7 cl HDN
 by_cases hq:R.S.next=R.S.size
 ·have hqb:((R.S.next:Int) == (R.S.size:Int))=true:=by simp;omega
  have HW:=zC (show k.sweep=⟨⟨R.s.A,R.s.M.goR.1⟩,{ k.C with S:=R.S }⟩ by rw [HSW.out,if_pos hq])
  have hlk:=HLK.out
  unfold Col.Like at hlk
  rw [HW.out] at hlk
  have HG:=zC (Fo.ggo HD3.out.fd HMO.out.1 HMO.out.2)
  have HL2:=zC (show R.s.M.goR.1.P.n=R.s.M.P.n∧R.s.M.goR.1.K.many=R.s.M.K.many by rw [HM.out] at hlk ⊢;exact⟨hlk.2.1,hlk.1⟩)
  obtain⟨c0,c1,c2,c3,c4,c5,c6,c7,cf,cl⟩:=HD3.out.cells
  clear hq cf hlk
  go_wp2_with fail
  refine HG.out.mono ?_
  rintro e w4 ⟨rfl,hd4,k4⟩
  have HD4:=zC (show Dc (fun v=>F v∨v=w.heap.size) w0 w4 a m LA LM x y A M qq b z k.sweep by rw [HW.out];exact HD3.out.op (s':=⟨R.s.A,R.s.M.goR.1⟩) hd4 k4 HL2.out.1 HL2.out.2)
  have HR5:=zC (Gt.block k4 HR4.out (by decide))
  have K4:=zC (Dt.trans K3.out (Gt.dt k4))
  clear hd4 k4 HG
  go_upto_region 26 with (fail)
  obtain⟨x0,x1,xf,xl⟩:=zK HR5.out
  have x0f:=xf 0;have x1f:=xf 1
  clear xf
  go_wp2_with fail
  obtain⟨w8,hw8⟩:∃ w8,(World.setCell w4 ⟨w.heap.size,0,none⟩ (.int .i64 0)).setCell ⟨w.heap.size,1,none⟩ (.int .u32 0)=w8:=⟨_,rfl⟩
  have k8:zA (fun v=>v=w.heap.size) w4 w8:=by rw [← hw8];exact (zJ _ _ _ _).trans (zJ _ _ _ _)
  have hq8:w8.heap[w.heap.size]?=some (.cells #[.int .i64 0,.int .u32 0] 51):=by rw [← hw8];exact (zH (zH HR5.out 0 _) 1 _).trans rfl
  obtain⟨v0,v1,_,_⟩:=zK hq8
  try rw [hw8]
  refine bodyPost_ret_by (v:=.tuple #[.agg #[.int .i64 0,.int .u32 0],.bool false,.int .i64 0]) (by simp [results,Tryz.results55,go_sem, *]) rfl ⟨(by first | rfl | (rw [his];rfl)),(HD4.out.box k8 HR5.out HW0.out (.inr rfl)).sub (fun _ h=>.inl h),?_⟩
  rw [← hw8];exact kfin K4.out (Nat.le_refl _) _ _
 ·have hqb:((R.S.next:Int) == (R.S.size:Int))=false:=by simp;omega
  have HW:=zC (show k.sweep=⟨R.s,{ k.C with S:=R.S }⟩ by rw [HSW.out,if_neg hq])
  have HD4:=zC (show Dc (fun v=>F v∨v=w.heap.size) w0 w3 a m LA LM x y A M qq b z k.sweep by rw [HW.out];exact HD3.out)
  clear hq
  go_upto_region 26 with (fail)
  obtain⟨x0,x1,xf,xl⟩:=zK HR4.out
  have x0f:=xf 0;have x1f:=xf 1
  clear xf
  go_wp2_with fail
  obtain⟨w8,hw8⟩:∃ w8,(World.setCell w3 ⟨w.heap.size,0,none⟩ (.int .i64 0)).setCell ⟨w.heap.size,1,none⟩ (.int .u32 0)=w8:=⟨_,rfl⟩
  have k8:zA (fun v=>v=w.heap.size) w3 w8:=by rw [← hw8];exact (zJ _ _ _ _).trans (zJ _ _ _ _)
  have hq8:w8.heap[w.heap.size]?=some (.cells #[.int .i64 0,.int .u32 0] 51):=by rw [← hw8];exact (zH (zH HR4.out 0 _) 1 _).trans rfl
  obtain⟨v0,v1,_,_⟩:=zK hq8
  try rw [hw8]
  refine bodyPost_ret_by (v:=.tuple #[.agg #[.int .i64 0,.int .u32 0],.bool false,.int .i64 0]) (by simp [results,Tryz.results55,go_sem, *]) rfl ⟨(by first | rfl | (rw [his];rfl)),(HD4.out.box k8 HR4.out HW0.out (.inr rfl)).sub (fun _ h=>.inl h),?_⟩
  rw [← hw8];exact kfin K3.out (Nat.le_refl _) _ _
theorem ccstep_disc (h:Dc F w0 w a m LA LM x y A M qq b z k) (hok:k.Ok) (hp:k.s.M.K.ph=4) (hcy:k.s.M.K.cy<4611686018427387904) (room:Nat) (hr:room<4611686018427387904):
 CcTo F w0 w a m LA LM x y A M qq b z room (k.stepR (decide (0<room))):=by
 obtain⟨wA,hwA⟩:∃ wA,w.alloc (.cells #[.int .i64 0,.int .u32 0] 51)=wA:=⟨_,rfl⟩
 have kA:Kz w wA:=by rw [← hwA];exact (zA.refl _ _).alloc _
 have HR1:=zC (show wA.heap[w.heap.size]?=some (.cells #[.int .i64 0,.int .u32 0] 51) by rw [← hwA];exact zE)
 have hA:=Dc.new (F':=fun v=>F v∨v=w.heap.size) h kA (fun v hv=>hv.imp id (fun e=>⟨Nat.le_of_eq e.symm,by rw [e];exact zF HR1.out⟩))
 have HQ:=zC (fun W (hk:Kz wA W)=>hA.quiet hk)
 have HSZ:=zC (fun W (hk:Kz wA W)=>(hA.quiet hk).wk.sizes)
 rw [hok.s.n,hok.s.k] at HSZ
 have HV:=zC (fun W (hk:Kz wA W)=>ccvalid (hA.quiet hk))
 have HPH:=zC (fun W (hk:Kz wA W)=>(hA.quiet hk).wk.ph)
 have HC:=zC (fun W (hk:Kz wA W)=>(hA.quiet hk).cells)
 have HOK:=zC hok;have HW1:=zC hwA;have KA:=zC kA
 have HW0:=zC (Fo.du h.fd).kp.size
 obtain⟨n,hn⟩:∃ n,k.s.M.P.n=n:=⟨_,rfl⟩
 obtain⟨ms,hms⟩:∃ ms,k.s.M.K.many=ms:=⟨_,rfl⟩
 have HN:=zC hn
 have hn1:1≤n:=by have:=hok.s.m.n1;omega
 have hnb:((n:Int) == 0)=false:=by simp;omega
 have hr0:¬ (room:Int)<0:=by omega
 rw [hn,hms] at HSZ HC
 have hat:=hok.a4 hp
 have hnn2:k.s.M.P.n≤256:=by have:=hok.s.m.n2;omega
 have HH:=zC (fun W (hk:Kz wA W)=>cchandle (hA.quiet hk) hok k.C.at' hat)
 have hlk:=(Col.discover_ok hok hp).2.1
 have hsp:k.stepR (decide (0<room))=if (k.s.hdl k.C.at').2=true∧room=0 then ⟨k,.no,false⟩ else ⟨k.discover,(k.s.hdl k.C.at').1,(k.s.hdl k.C.at').2⟩:=by
  unfold Col.stepR Sys.hdl
  rw [if_neg (by omega),if_pos hp]
  by_cases e:(k.s.lostAt k.C.at').2=true
  ·rw [if_pos e,if_pos e]
   by_cases e2:room=0
   ·subst e2;simp
   ·rw [if_pos (by simp;omega),if_neg (by rintro⟨_,e3⟩;exact e2 e3)]
  ·rw [if_neg e,if_neg e,if_neg (by rintro⟨e3,_⟩;cases e3)]
 obtain⟨R,hR⟩:∃ R,k.s.hdl k.C.at'=R:=⟨_,rfl⟩
 obtain⟨RR,hRR⟩:∃ RR,k.stepR (decide (0<room))=RR:=⟨_,rfl⟩
 rw [hRR] at hsp ⊢
 rw [hR] at hsp HH
 obtain⟨⟨rs,rg⟩,is⟩:=R
 dsimp only [Rf.val] at hsp HH
 rw [hp] at HPH
 have hnn3:n≤256:=by omega
 have hat2:k.C.at'<n:=by omega
 have HDC:=zC (show k.discover=if k.C.at'+1=n then ⟨⟨k.s.A,k.s.M.goR.1⟩,{ k.C with at':=k.C.at'+1,S:=⟨k.C.S.size,0,0⟩ }⟩ else ⟨k.s,{ k.C with at':=k.C.at'+1 }⟩ by unfold Col.discover;rw [hn])
 have HLK:=zC hlk;have HSP:=zC hsp
 have HMO:=zC (And.intro hok.s.m hcy)
 clear h hok hp hcy kA hA hwA hn hms hlk hR hRR hnn2 hsp hat
 unfold CcTo
 go_in
 go_upto_region 1 with (fail)
 rw [HW1.out]
 go_wp2_with fail
 refine zQ (HSZ.out _ (zA.refl _ _)) fun w1 k1=>?_
 have K1:=zC k1
 have HR2:=zC (zB HR1.out k1 (fun h=>h))
 obtain⟨c0,c1,c2,c3,c4,c5,c6,c7,cf,cl⟩:=HC.out _ k1
 clear k1 HR1
 go_wp2_with fail
 refine zP ((HV.out _ K1.out)) ?_
 go_wp2_with fail
 refine zP ((HPH.out _ K1.out)) ?_
 go_wp2_with fail
 refine zQ (HH.out _ K1.out) fun w2 k2=>?_
 have K2:=zC (K1.out.trans k2)
 have kb:Kz w2 (w2.alloc (.cells #[.int .i64 rs,.int .u32 rg] 51)):=(zA.refl _ _).alloc _
 have HR3:=zC (zB (zB HR2.out k2 (fun h=>h)) kb (fun h=>h))
 have HY3:=zC (zE (w:=w2) (o:=.cells #[.int .i64 rs,.int .u32 rg] 51))
 have K3:=zC (K2.out.trans kb)
 have hz2:w.heap.size<w2.heap.size:=zF (zB HR2.out k2 (fun h=>h))
 obtain⟨w3,hw3⟩:∃ w3,w2.alloc (.cells #[.int .i64 rs,.int .u32 rg] 51)=w3:=⟨_,rfl⟩
 have HW3:=zC hw3
 rw [hw3] at HR3 HY3 K3
 obtain⟨B,hB⟩:∃ B,w2.heap.size=B:=⟨_,rfl⟩
 have HBB:=zC hB
 rw [hB] at HY3 hz2
 clear k2 kb c0 c1 c2 c3 c4 c5 c6 c7 cf cl HH hw3 hB
 go_upto_region 15 with (fail)
 rw [HW3.out,HBB.out]
 by_cases hx:is=true∧room=0
 ·obtain⟨rfl,rfl⟩:=hx
  have hs2:RR=⟨k,.no,false⟩:=by rw [HSP.out,if_pos ⟨rfl,rfl⟩]
  subst hs2
  have HD3:=zC (HQ.out _ K3.out)
  go_upto_region 16 with (fail)
  obtain⟨x0,x1,xf,xl⟩:=zK HR3.out
  have x0f:=xf 0;have x1f:=xf 1
  clear xf
  go_wp2_with fail
  obtain⟨w8,hw8⟩:∃ w8,(World.setCell w3 ⟨w.heap.size,0,none⟩ (.int .i64 0)).setCell ⟨w.heap.size,1,none⟩ (.int .u32 0)=w8:=⟨_,rfl⟩
  have k8:zA (fun v=>v=w.heap.size) w3 w8:=by rw [← hw8];exact (zJ _ _ _ _).trans (zJ _ _ _ _)
  have hq8:w8.heap[w.heap.size]?=some (.cells #[.int .i64 0,.int .u32 0] 51):=by rw [← hw8];exact (zH (zH HR3.out 0 _) 1 _).trans rfl
  obtain⟨v0,v1,_,_⟩:=zK hq8
  try rw [hw8]
  refine bodyPost_ret_by (v:=.tuple #[.agg #[.int .i64 0,.int .u32 0],.bool false,.int .i64 0]) (by simp [results,Tryz.results55,go_sem, *]) rfl ⟨(by first | rfl | (rw [his];rfl)),(HD3.out.box k8 HR3.out HW0.out (.inr rfl)).sub (fun _ h=>.inl h),?_⟩
  rw [← hw8];exact kfin (KA.out.trans K3.out).up (Nat.le_refl _) _ _
 ·have hs2:RR=⟨k.discover,⟨rs,rg⟩,is⟩:=by rw [HSP.out,if_neg hx]
  subst hs2
  have hx2:is=false∨is=true∧((room:Int) == 0)=false:=by
   cases is
   ·exact .inl rfl
   ·exact .inr ⟨rfl,(by have h3:¬ room=0:=fun e=>hx ⟨rfl,e⟩;simp;omega)⟩
  obtain⟨c0,c1,c2,c3,c4,c5,c6,c7,cf,cl⟩:=HC.out _ K3.out
  have cf5:=cf 5
  have kx:zA (fun v=>v=z) w3 (w3.setCell ⟨z,5,none⟩ (.int .i64 ((k.C.at':Int)+1))):=zJ _ _ _ _
  have HD3:=zC (HQ.out _ K3.out)
  have HD4:=zC (HD3.out.setC (k':=⟨k.s,{ k.C with at':=k.C.at'+1 }⟩) kx rfl rfl ((zH HD3.out.cy 5 _).trans rfl))
  have HR4:=zC (zB HR3.out kx (fun e=>zM HR3.out HD3.out.cy (by decide) e))
  have HY4:=zC (zB HY3.out kx (fun e=>zM HY3.out HD3.out.cy (by decide) e))
  have K4:=zC (show zA (Dt w w0.heap.size) w _ from Dt.trans (KA.out.trans K3.out).up (HD3.out.own kx))
  clear kx cf hx HD3 HR3 HY3
  obtain⟨w4,hw4⟩:∃ w4,w3.setCell ⟨z,5,none⟩ (.int .i64 ((k.C.at':Int)+1))=w4:=⟨_,rfl⟩
  have HW4:=zC hw4
  rw [hw4] at HD4 HR4 HY4 K4
  clear hw4
  rcases hx2 with his | ⟨his,hx2⟩
  all_goals
   go_upto_region 18 with (fail)
   rw [HW4.out]
   clear c0 c1 c2 c3 c4 c5 c6 c7 cl cf5
   obtain⟨c0,c1,c2,c3,c4,c5,c6,c7,cf,cl⟩:=HD4.out.cells
   dsimp only at c5
   have hcast:(((k.C.at'+1:Nat)):Int)=(k.C.at':Int)+1:=by omega
   rw [hcast] at c5
   rw [show k.s.M.P.n=n from HN.out] at c1
   clear cf
   go_quiet (fail)
   have kq:Kz w4 (w4.drewN nq):=(zA.refl _ _).drewN _
   obtain⟨w5,hw5⟩:∃ w5,w4.drewN nq=w5:=⟨_,rfl⟩
   rw [hw5] at kq ⊢
   have HD5:=zC (HD4.out.quiet kq);have HR5:=zC (zB HR4.out kq (fun h=>h));have HY5:=zC (zB HY4.out kq (fun h=>h));have K5:=zC (Dt.trans K4.out kq.up)
   clear kq hw5 c0 c1 c2 c3 c4 c5 c6 c7 cl
   by_cases hq:k.C.at'+1=n
   ·have hqb:((k.C.at':Int)+1 == (n:Int))=true:=by simp;omega
    have HW:=zC (show k.discover=⟨⟨k.s.A,k.s.M.goR.1⟩,{ k.C with at':=k.C.at'+1,S:=⟨k.C.S.size,0,0⟩ }⟩ by rw [HDC.out,if_pos hq])
    have hlk:=HLK.out
    unfold Col.Like at hlk
    rw [HW.out] at hlk
    have HL2:=zC (And.intro hlk.2.1 hlk.1)
    have HG:=zC (Fo.ggo HD5.out.fd HMO.out.1 HMO.out.2)
    obtain⟨c0,c1,c2,c3,c4,c5,c6,c7,cf,cl⟩:=HD5.out.cells
    clear hq cf hlk
    go_wp2_with fail
    refine HG.out.mono ?_
    rintro e w6 ⟨rfl,hd6,k6⟩
    have HD6:=zC (HD5.out.op (s':=⟨k.s.A,k.s.M.goR.1⟩) hd6 k6 HL2.out.1 HL2.out.2)
    have HR6:=zC (Gt.block k6 HR5.out (by decide));have HY6:=zC (Gt.block k6 HY5.out (by decide))
    have K6:=zC (Dt.trans K5.out (Gt.dt k6))
    have HBG:=zC (dsw_begin HD6.out.sw)
    clear hd6 k6 HG c0 c1 c2 c3 c4 c5 c6 c7 cl
    obtain⟨c0,c1,c2,c3,c4,c5,c6,c7,cf,cl⟩:=HD6.out.cells
    clear cf
    go_wp2_with fail
    refine HBG.out.mono ?_
    rintro e w7 ⟨rfl,k7,hs7⟩
    have HD7:=zC (show Dc (fun v=>F v∨v=w.heap.size) w0 w7 a m LA LM x y A M qq b z k.discover by rw [HW.out];exact HD6.out.setS k7 hs7)
    have HR7:=zC (zB HR6.out k7 (fun e=>zM HR6.out HD6.out.sw (by decide) e));have HY7:=zC (zB HY6.out k7 (fun e=>zM HY6.out HD6.out.sw (by decide) e))
    have K7:=zC (Dt.trans K6.out (HD6.out.owns k7))
    clear k7 hs7 HBG c0 c1 c2 c3 c4 c5 c6 c7 cl
    obtain⟨y0,y1,_,yl⟩:=zK HY7.out
    go_upto_region 21 with (fail)
    obtain⟨x0,x1,xf,xl⟩:=zK HR7.out
    have x0f:=xf 0;have x1f:=xf 1
    clear xf
    go_wp2_with fail
    obtain⟨w8,hw8⟩:∃ w8,(World.setCell w7 ⟨w.heap.size,0,none⟩ (.int .i64 rs)).setCell ⟨w.heap.size,1,none⟩ (.int .u32 rg)=w8:=⟨_,rfl⟩
    have k8:zA (fun v=>v=w.heap.size) w7 w8:=by rw [← hw8];exact (zJ _ _ _ _).trans (zJ _ _ _ _)
    have hq8:w8.heap[w.heap.size]?=some (.cells #[.int .i64 rs,.int .u32 rg] 51):=by rw [← hw8];exact (zH (zH HR7.out 0 _) 1 _).trans rfl
    obtain⟨v0,v1,_,_⟩:=zK hq8
    try rw [hw8]
    refine bodyPost_ret_by (v:=.tuple #[.agg #[.int .i64 rs,.int .u32 rg],.bool is,.int .i64 0]) (by simp [results,Tryz.results55,go_sem, *]) rfl ⟨(by first | rfl | (rw [his];rfl)),(HD7.out.box k8 HR7.out HW0.out (.inr rfl)).sub (fun _ h=>.inl h),?_⟩
    rw [← hw8];exact kfin K7.out (Nat.le_refl _) _ _
   ·have hqb:((k.C.at':Int)+1 == (n:Int))=false:=by simp;omega
    have HW:=zC (show k.discover=⟨k.s,{ k.C with at':=k.C.at'+1 }⟩ by rw [HDC.out,if_neg hq])
    have HD7:=zC (show Dc (fun v=>F v∨v=w.heap.size) w0 w5 a m LA LM x y A M qq b z k.discover by rw [HW.out];exact HD5.out)
    clear hq
    obtain⟨y0,y1,_,yl⟩:=zK HY5.out
    go_upto_region 21 with (fail)
    obtain⟨x0,x1,xf,xl⟩:=zK HR5.out
    have x0f:=xf 0;have x1f:=xf 1
    clear xf
    go_wp2_with fail
    obtain⟨w8,hw8⟩:∃ w8,(World.setCell w5 ⟨w.heap.size,0,none⟩ (.int .i64 rs)).setCell ⟨w.heap.size,1,none⟩ (.int .u32 rg)=w8:=⟨_,rfl⟩
    have k8:zA (fun v=>v=w.heap.size) w5 w8:=by rw [← hw8];exact (zJ _ _ _ _).trans (zJ _ _ _ _)
    have hq8:w8.heap[w.heap.size]?=some (.cells #[.int .i64 rs,.int .u32 rg] 51):=by rw [← hw8];exact (zH (zH HR5.out 0 _) 1 _).trans rfl
    obtain⟨v0,v1,_,_⟩:=zK hq8
    try rw [hw8]
    refine bodyPost_ret_by (v:=.tuple #[.agg #[.int .i64 rs,.int .u32 rg],.bool is,.int .i64 0]) (by simp [results,Tryz.results55,go_sem, *]) rfl ⟨(by first | rfl | (rw [his];rfl)),(HD7.out.box k8 HR5.out HW0.out (.inr rfl)).sub (fun _ h=>.inl h),?_⟩
    rw [← hw8];exact kfin K5.out (Nat.le_refl _) _ _
theorem ccstep (h:Dc F w0 w a m LA LM x y A M qq b z k) (hok:k.Ok) (hnn:k.Nn) (hb:k.C.begun<4611686018427387904) (hcy:k.s.M.K.cy<4611686018427387904) (room:Nat) (hr:room<4611686018427387904):
 CcTo F w0 w a m LA LM x y A M qq b z room (k.stepR (decide (0<room))):=by
 by_cases h4:k.s.M.K.ph=4
 ·exact ccstep_disc h hok h4 hcy room hr
 by_cases h0:k.s.M.K.ph=0
 ·have e:k.stepR (decide (0<room))=⟨if k.C.asked=true then k.begin else k,.no,false⟩:=by unfold Col.stepR;rw [if_pos h0]
  rw [e];exact ccstep_idle h hok h0 hb room hr
 by_cases h5:k.s.M.K.ph=5
 ·have e:k.stepR (decide (0<room))=⟨k.sweep,.no,false⟩:=by unfold Col.stepR;rw [if_neg h0,if_neg h4,if_pos h5]
  rw [e];exact ccstep_sweep h hok h5 hnn hcy room hr
 ·have e:k.stepR (decide (0<room))=⟨k.mark,.no,false⟩:=by unfold Col.stepR;rw [if_neg h0,if_neg h4,if_neg h5]
  rw [e];exact ccstep_mark h hok (by have:=hok.s.m.ph;omega) hcy room hr
end
end Go.Proofs.YtjfmagccmjdhoaaGreat
