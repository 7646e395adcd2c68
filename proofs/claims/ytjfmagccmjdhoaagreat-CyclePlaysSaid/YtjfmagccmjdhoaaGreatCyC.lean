import Derived.Test.YtjfmagccmjdhoaaGreatCyA
set_option maxHeartbeats 4000000
set_option maxRecDepth 100000
namespace Go.Proofs.YtjfmagccmjdhoaaGreat
open Go.RowKit
theorem qD {w:World} {b:Nat} {v0 v1 v2 v3 v4 v5 v6:Value} {t:TypeId} (h:w.heap[b]?=some (.cells #[v0,v1,v2,v3,v4,v5,v6] t)):
 w.cell? ⟨b,0,none⟩=some v0∧w.cell? ⟨b,1,none⟩=some v1∧w.cell? ⟨b,2,none⟩=some v2∧w.cell? ⟨b,3,none⟩=some v3∧w.cell? ⟨b,4,none⟩=some v4∧w.cell? ⟨b,5,none⟩=some v5∧w.cell? ⟨b,6,none⟩=some v6∧b<w.heap.size:=
 ⟨zD h rfl,zD h rfl,zD h rfl,zD h rfl,zD h rfl,zD h rfl,zD h rfl,zF h⟩
section
variable {w0 w w':World} {a m b c:Nat} {LA:ArL} {LM:MkL} {k:Col}
theorem foot3_of {LA:ArL} {LM:MkL} {b c:Nat} {s t:Sys} (h1:t.A.many=s.A.many) (h2:t.M.K.many=s.M.K.many):zV LA LM b c t=zV LA LM b c s:=by
 funext y
 unfold zV
 rw [foot2_of h1 h2]
theorem cyvalid (h:Quad w0 w a m b c LA LM k):Calls Tryz.prog 25 #[.pointer (some ⟨c,0,none⟩)] w fun e w'=>e = .returned (.bool true)∧w'=w:=by
 obtain⟨c0,c1,c2,c3,c4,c5,c6,cl⟩:=qD h.own
 clear h
 go_in
 go_wp2_with fail
 go_ret
 exact⟨rfl,rfl⟩
theorem cyphase (h:Quad w0 w a m b c LA LM k):Calls Tryz.prog 9 #[.pointer (some ⟨c,0,none⟩)] w fun e w'=>e = .returned (.int .i64 k.s.M.K.ph)∧w'=w:=by
 have HV:=zC (cyvalid h)
 have HP:=zC (mphase m LM k.s.M w h.tr.both.mm)
 obtain⟨c0,c1,c2,c3,c4,c5,c6,cl⟩:=qD h.own
 clear h
 go_in
 go_wp2_with fail
 refine zP HV.out ?_
 go_wp2_with fail
 refine zP HP.out ?_
 go_wp2_with fail
 go_ret
 exact⟨rfl,rfl⟩
theorem cyended (h:Quad w0 w a m b c LA LM k):Calls Tryz.prog 11 #[.pointer (some ⟨c,0,none⟩)] w fun e w'=>e = .returned (.int .i64 k.s.M.K.cy)∧w'=w:=by
 have HV:=zC (cyvalid h)
 have HP:=zC (mcycles m LM k.s.M w h.tr.both.mm)
 obtain⟨c0,c1,c2,c3,c4,c5,c6,cl⟩:=qD h.own
 clear h
 go_in
 go_wp2_with fail
 refine zP HV.out ?_
 go_wp2_with fail
 refine zP HP.out ?_
 go_wp2_with fail
 go_ret
 exact⟨rfl,rfl⟩
theorem cybegun (h:Quad w0 w a m b c LA LM k):Calls Tryz.prog 10 #[.pointer (some ⟨c,0,none⟩)] w fun e w'=>e = .returned (.int .i64 k.C.begun)∧w'=w:=by
 have HV:=zC (cyvalid h)
 obtain⟨c0,c1,c2,c3,c4,c5,c6,cl⟩:=qD h.own
 clear h
 go_in
 go_wp2_with fail
 refine zP HV.out ?_
 go_wp2_with fail
 go_ret
 exact⟨rfl,rfl⟩
theorem cymarker (h:Quad w0 w a m b c LA LM k):Calls Tryz.prog 35 #[.pointer (some ⟨c,0,none⟩)] w fun e w'=>e = .returned (.pointer (some ⟨m,0,none⟩))∧w'=w:=by
 have HV:=zC (cyvalid h)
 obtain⟨c0,c1,c2,c3,c4,c5,c6,cl⟩:=qD h.own
 clear h
 go_in
 go_wp2_with fail
 refine zP HV.out ?_
 go_wp2_with fail
 go_ret
 exact⟨rfl,rfl⟩
theorem cyack (h:Quad w0 w a m b c LA LM k) (hok:k.Ok) (i:Int):Calls Tryz.prog 16 #[.pointer (some ⟨c,0,none⟩),.pointer (some ⟨a,0,none⟩),.int .i64 i] w
 fun e w'=>e = .returned (.tuple #[.bool (k.s.M.ackR k.s.A i).is,.int .i64 (k.s.M.ackR k.s.A i).e])∧Quad w0 w' a m b c LA LM ⟨⟨k.s.A,(k.s.M.ackR k.s.A i).M⟩,k.C⟩∧zA (zV LA LM b c k.s) w w':=by
 have HV:=zC (cyvalid h)
 obtain⟨_,_,_,a4,a5,_⟩:=Sys.ack_next hok.s i
 have HAK:=zC ((duo_ack_any h.tr.both hok.s.n hok.s.k i).mono (fun e w' ⟨h1,h2,h3⟩=>And.intro h1 (And.intro (h.both (s':=⟨k.s.A,(k.s.M.ackR k.s.A i).M⟩) (h3.mono (fun _ _ h=>.inr h)) h2 a5 a4) (h3.mono (T:=zV LA LM b c k.s) (fun _ _ h=>.inr (.inr (.inr h)))))))
 obtain⟨c0,c1,c2,c3,c4,c5,c6,cl⟩:=qD h.own
 clear h hok a4 a5
 go_in
 go_wp2_with fail
 refine zP HV.out ?_
 go_wp2_with fail
 refine HAK.out.mono ?_
 rintro e w1 ⟨rfl,hq,hk⟩
 go_wp2_with fail
 go_ret2
 exact⟨rfl,hq,hk⟩
theorem cybegin (h:Quad w0 w a m b c LA LM k) (hp:k.s.M.K.ph=0) (hb:k.C.begun<4611686018427387904):Calls Tryz.prog 64 #[.pointer (some ⟨c,0,none⟩)] w
 fun e w'=>e = .returned (.int .i64 0)∧Quad w0 w' a m b c LA LM k.begin∧zA (zV LA LM b c k.s) w w':=by
 have HQ:=zC h
 have hown:=h.own
 obtain⟨c0,c1,c2,c3,c4,c5,c6,cl⟩:=qD hown
 have f6:=zL hown 6;have f5:=zL hown 5
 obtain⟨w1,hw1⟩:∃ w1,(w.setCell ⟨c,6,none⟩ (.bool false)).setCell ⟨c,5,none⟩ (.int .i64 ((k.C.begun:Int)+1))=w1:=⟨_,rfl⟩
 have hk1:zA (fun y=>y=c) w w1:=by rw [← hw1];exact (zJ _ _ _ _).trans (zJ _ _ _ _)
 have hq1:Quad w0 w1 a m b c LA LM ⟨k.s,{ k.C with asked:=false,begun:=k.C.begun+1 }⟩:=h.coll hk1 rfl (by
  rw [← hw1]
  exact (zH (zH hown 6 _) 5 _).trans (by simp [cyArr]))
 have HB:=zC ((duo_begin_any hq1.tr.both).mono (fun e w' ⟨h1,h2,h3⟩=>And.intro h1 (And.intro (hq1.both (s':=k.s.begun) (h3.mono (fun _ _ h=>.inr h)) h2 (by unfold Sys.begun Mk.beginR;split <;> rfl) (by unfold Sys.begun Mk.beginR;split <;> rfl)) h3)))
 rw [show k.s.M.beginR.2=0 by unfold Mk.beginR;rw [if_pos hp]] at HB
 obtain⟨d0,_,_,_,_,_,_,_⟩:=qD hq1.own
 have HW:=zC hw1;have HK:=zC hk1
 have hb0:(k.C.begun:Int)<4611686018427387904:=by omega
 have hb1:(0:Int)≤k.C.begun:=by omega
 clear hown hk1 hq1 hw1 h hp hb
 go_in
 go_wp2_with fail
 rw [HW.out]
 refine HB.out.mono ?_
 rintro e w2 ⟨rfl,hq,hk⟩
 go_wp2_with fail
 go_ret
 exact⟨rfl,hq,(HK.out.mono (fun _ _ h=>.inl h)).trans (hk.mono (fun _ _ h=>.inr (.inr (.inr h))))⟩
theorem cyask (h:Quad w0 w a m b c LA LM k) (hb:k.C.begun<4611686018427387904):Calls Tryz.prog 15 #[.pointer (some ⟨c,0,none⟩)] w
 fun e w'=>e = .returned (.bool k.askR.2)∧Quad w0 w' a m b c LA LM k.askR.1∧zA (zV LA LM b c k.s) w w':=by
 have HV:=zC (cyvalid h)
 have HP:=zC (mphase m LM k.s.M w h.tr.both.mm)
 have hown:=h.own
 obtain⟨c0,c1,c2,c3,c4,c5,c6,cl⟩:=qD hown
 have f6:=zL hown 6
 by_cases hp:k.s.M.K.ph=0
 ·have HB:=zC (cybegin h hp hb)
  have hp0:((k.s.M.K.ph:Int) == 0)=true:=by rw [hp];rfl
  rw [show k.askR=(k.begin,true) by unfold Col.askR;rw [if_pos hp]]
  clear hown h hp hb
  go_in
  go_wp2_with fail
  refine zP HV.out ?_
  go_wp2_with fail
  refine zP HP.out ?_
  go_wp2_with fail
  refine HB.out.mono ?_
  rintro e w1 ⟨rfl,hq,hk⟩
  go_wp2_with fail
  go_ret
  exact⟨rfl,hq,hk⟩
 ·have hp0:((k.s.M.K.ph:Int) == 0)=false:=by simp;omega
  have hk1:zA (fun y=>y=c) w (w.setCell ⟨c,6,none⟩ (.bool true)):=zJ _ _ _ _
  have HQ:=zC (h.coll (C':={ k.C with asked:=true }) hk1 rfl ((zH hown 6 _).trans (by simp [cyArr])))
  have HK:=zC hk1
  rw [show k.askR=(⟨k.s,{ k.C with asked:=true }⟩,false) by unfold Col.askR;rw [if_neg hp]]
  clear hown h hp hb hk1
  go_in
  go_wp2_with fail
  refine zP HV.out ?_
  go_wp2_with fail
  refine zP HP.out ?_
  go_wp2_with fail
  go_ret
  exact⟨rfl,HQ.out,HK.out.mono (fun _ _ h=>.inl h)⟩
end
variable {w0 w w':World} {a m b c:Nat} {LA:ArL} {LM:MkL} {k:Col}
def StepTo (w0 w:World) (a m b c:Nat) (LA:ArL) (LM:MkL) (k:Col) (R:CyRes) (e:Ending) (w':World):Prop:=
 e = .returned (.tuple #[R.r.val,.bool R.is,.int .i64 0])∧Quad w0 w' a m b c LA LM R.c∧zA (zV LA LM b c k.s) w w'
theorem cyrest (h:Quad w0 w a m b c LA LM k) (hok:k.Ok) (hp:k.s.M.K.ph=0) (hb:k.C.begun<4611686018427387904) (v room:Value):
 Calls Tryz.prog 215 #[.pointer (some ⟨c,0,none⟩),v,room] w (StepTo w0 w a m b c LA LM k ⟨if k.C.asked=true then k.begin else k,.no,false⟩):=by
 have hbo:=(Col.begin_ok hok hp).2.1
 have HFL:=zC h.footlt
 have HF:=zC (fun (W W':World) (d:Col) (hW:Quad w0 W a m b c LA LM d) (hl:k.Like d) (hk:zA (fun y=>w.heap.size≤y) W W')=>h.far hW hl hk)
 obtain⟨wA,hwA⟩:∃ wA,w.alloc (.cells #[.int .i64 0,.int .u32 0] 51)=wA:=⟨_,rfl⟩
 have kA:Kz w wA:=by rw [← hwA];exact (zA.refl _ _).alloc _
 have qA:wA.heap[w.heap.size]?=some (.cells #[.int .i64 0,.int .u32 0] 51):=by rw [← hwA];exact zE
 have hQA:=h.same kA
 obtain⟨c0,c1,c2,c3,c4,c5,c6,cl⟩:=qD hQA.own
 by_cases hs:k.C.asked=true
 ·rw [hs] at c6
  rw [if_pos hs]
  have HB:=zC (cybegin hQA hp hb)
  have HQA:=zC qA;have HKA:=zC kA;have HW:=zC hwA
  clear h hok hp hb hs hwA kA qA hQA c0 c1 c2 c3 c4 c5
  go_in
  go_upto_region 1 with (fail)
  rw [HW.out]
  go_wp2_with fail
  refine HB.out.mono ?_
  rintro e w1 ⟨rfl,hq,hk⟩
  obtain⟨a0,a1,af,al⟩:=zK (zB HQA.out hk (fun hf=>by have:=HFL.out _ hf;omega))
  have f0:=af 0;have f1:=af 1
  have HQ:=zC hq;have HK:=zC (HKA.out.up.trans hk)
  clear hq hk af
  go_wp2_with fail
  refine bodyPost_ret_by (v:=.tuple #[.agg #[.int .i64 0,.int .u32 0],.bool false,.int .i64 0]) (by simp [results,Tryz.results215,go_sem, *]) rfl ⟨rfl,HF.out _ _ _ HQ.out hbo (kfin0 _ _ _ _),kfin HK.out (Nat.le_refl _) _ _⟩
 ·have hs':k.C.asked=false:=by simpa using hs
  rw [hs'] at c6
  rw [if_neg hs]
  have HQA:=zC qA;have HKA:=zC kA;have HW:=zC hwA;have HH:=zC hQA
  obtain⟨a0,a1,af,al⟩:=zK qA
  have f0:=af 0;have f1:=af 1
  clear h hok hp hb hs hs' hwA kA qA hQA c0 c1 c2 c3 c4 c5 af
  go_in
  go_upto_region 1 with (fail)
  rw [HW.out]
  go_wp2_with fail
  refine bodyPost_ret_by (v:=.tuple #[.agg #[.int .i64 0,.int .u32 0],.bool false,.int .i64 0]) (by simp [results,Tryz.results215,go_sem, *]) rfl ⟨rfl,HF.out _ _ _ HH.out (Col.Like.refl k) (kfin0 _ _ _ _),kfin HKA.out.up (Nat.le_refl _) _ _⟩
theorem cymark (h:Quad w0 w a m b c LA LM k) (hok:k.Ok) (hp:k.s.M.K.ph=1∨k.s.M.K.ph=2∨k.s.M.K.ph=3) (hcy:k.s.M.K.cy<4611686018427387904) (room:Value):
 Calls Tryz.prog 216 #[.pointer (some ⟨c,0,none⟩),.pointer (some ⟨a,0,none⟩),room] w (StepTo w0 w a m b c LA LM k ⟨k.mark,.no,false⟩):=by
 obtain⟨mo,ml,_⟩:=Col.mark_ok hok hp
 obtain⟨_,o2,o3⟩:=Sys.step_next hok.s
 have HFL:=zC h.footlt
 have HF:=zC (fun (W W':World) (d:Col) (hW:Quad w0 W a m b c LA LM d) (hl:k.Like d) (hk:zA (fun y=>w.heap.size≤y) W W')=>h.far hW hl hk)
 have HST:=zC (fun W (hk:Kz w W)=>(duo_step_any (h.same hk).tr.both hok.s.m hok.s.n hok.s.k hcy).mono (fun e w' ⟨h1,h2,h3⟩=>And.intro h1 (And.intro ((h.same hk).both (s':=k.s.step) (h3.mono (fun _ _ h=>.inr h)) h2 o3 o2) (h3.mono (T:=zV LA LM b c k.s) (fun _ _ h=>.inr (.inr (.inr h)))))))
 obtain⟨wA,hwA⟩:∃ wA,w.alloc (.cells #[.int .i64 0,.int .u32 0] 51)=wA:=⟨_,rfl⟩
 have kA:Kz w wA:=by rw [← hwA];exact (zA.refl _ _).alloc _
 have qA:wA.heap[w.heap.size]?=some (.cells #[.int .i64 0,.int .u32 0] 51):=by rw [← hwA];exact zE
 obtain⟨c0,c1,c2,c3,c4,c5,c6,cl⟩:=qD (h.same kA).own
 have HQA:=zC qA;have HKA:=zC kA;have HW:=zC hwA
 clear h hwA kA qA c1 c2 c3 c4 c5 c6
 by_cases h4:k.s.step.M.K.ph=4
 ·have hm4:k.mark=⟨k.s.step,{ k.C with at':=0 }⟩:=by unfold Col.mark;rw [if_pos h4]
  have ht4:((k.s.step.M.K.ph:Int) == 4)=true:=by rw [h4];rfl
  have HM4:=zC hm4
  have HPH:=zC (fun W (hq:Quad w0 W a m b c LA LM ⟨k.s.step,k.C⟩)=>mphase m LM k.s.step.M W hq.tr.both.mm)
  have HML:=zC ml
  clear hok mo o2 o3 hm4 h4 ml hcy hp
  go_in
  go_upto_region 1 with (fail)
  rw [HW.out]
  go_wp2_with fail
  refine (HST.out _ HKA.out).mono ?_
  rintro e w1 ⟨rfl,hq,hk⟩
  have hq1:=zB HQA.out hk (fun hf=>by have:=HFL.out _ hf;omega)
  have HQ1:=zC hq1
  obtain⟨d0,d1,d2,d3,d4,d5,d6,dl⟩:=qD hq.own
  have fc:=zL hq.own 4
  have HQ:=zC hq;have HK:=zC (HKA.out.up.trans hk)
  clear hq hk hq1 c0
  go_wp2_with fail
  refine zP ((HPH.out _ HQ.out)) ?_
  have k2:zA (fun y=>y=c) w1 (w1.setCell ⟨c,4,none⟩ (.int .i64 0)):=zJ _ _ _ _
  have HQ2:=zC (show Quad w0 (w1.setCell ⟨c,4,none⟩ (.int .i64 0)) a m b c LA LM k.mark by
   rw [HM4.out]
   exact HQ.out.coll (C':={ k.C with at':=0 }) k2 rfl ((zH HQ.out.own 4 _).trans (by simp [cyArr])))
  have hcw:c<w.heap.size:=HFL.out c (.inl rfl)
  obtain⟨a0,a1,af,al⟩:=zK (zB HQ1.out k2 (by omega))
  have f0:=af 0;have f1:=af 1
  have HK2:=zC (HK.out.trans (k2.mono (T:=zV LA LM b c k.s) (fun _ _ h=>.inl h)))
  clear k2 af
  go_wp2_with fail
  refine bodyPost_ret_by (v:=.tuple #[.agg #[.int .i64 0,.int .u32 0],.bool false,.int .i64 0]) (by simp [results,Tryz.results216,go_sem, *]) rfl ⟨rfl,HF.out _ _ _ HQ2.out HML.out (kfin0 _ _ _ _),kfin HK2.out (Nat.le_refl _) _ _⟩
 ·have hm4:k.mark=⟨k.s.step,k.C⟩:=by unfold Col.mark;rw [if_neg h4]
  have ht4:((k.s.step.M.K.ph:Int) == 4)=false:=by simp;omega
  have HM4:=zC hm4
  have HPH:=zC (fun W (hq:Quad w0 W a m b c LA LM ⟨k.s.step,k.C⟩)=>mphase m LM k.s.step.M W hq.tr.both.mm)
  have HML:=zC ml
  clear hok mo o2 o3 hm4 h4 ml hcy hp
  go_in
  go_upto_region 1 with (fail)
  rw [HW.out]
  go_wp2_with fail
  refine (HST.out _ HKA.out).mono ?_
  rintro e w1 ⟨rfl,hq,hk⟩
  obtain⟨a0,a1,af,al⟩:=zK (zB HQA.out hk (fun hf=>by have:=HFL.out _ hf;omega))
  have f0:=af 0;have f1:=af 1
  obtain⟨d0,d1,d2,d3,d4,d5,d6,dl⟩:=qD hq.own
  have HQ:=zC hq;have HK:=zC (HKA.out.up.trans hk)
  clear hq hk c0 af
  go_wp2_with fail
  refine zP ((HPH.out _ HQ.out)) ?_
  have HQ2:=zC (show Quad w0 w1 a m b c LA LM k.mark by rw [HM4.out];exact HQ.out)
  go_wp2_with fail
  refine bodyPost_ret_by (v:=.tuple #[.agg #[.int .i64 0,.int .u32 0],.bool false,.int .i64 0]) (by simp [results,Tryz.results216,go_sem, *]) rfl ⟨rfl,HF.out _ _ _ HQ2.out HML.out (kfin0 _ _ _ _),kfin HK.out (Nat.le_refl _) _ _⟩
theorem cylost (h:Quad w0 w a m b c LA LM k) (hok:k.Ok) (i:Nat) (hi:i<k.s.M.P.n):
 Calls Tryz.prog 245 #[.pointer (some ⟨c,0,none⟩),.pointer (some ⟨a,0,none⟩),.int .i64 i] w fun e w'=>e = .returned (.tuple #[(k.s.lostAt i).1.val,.bool (k.s.lostAt i).2])∧Kz w w':=by
 have HMK:=zC (fun W (hk:Kz w W)=>mmarked_any m LM k.s.M i W (h.same hk).tr.both.mm)
 rw [show k.s.M.markedR i=(!(k.s.M.P.c i == 0),0) by unfold Mk.markedR;rw [if_neg (by omega),Int.toNat_natCast]] at HMK
 have HH:=zC (fun W (hk:Kz w W)=>aheap_ok a LA k.s.A W (h.same hk).tr.both.ar)
 have HO:=zC (fun (u:Nat) (g:Int) (hck:qH k.s.A.H.T u g=0) W (hk:Kz w W)=>aobject_of a LA k.s.A ⟨u,g⟩ (k.s.A.H.ob u) 0 W (h.same hk).tr.both.ar (fun W' hW'=>hobject_ok LA.b LA.t k.s.A.H u g W' hW' hck))
 obtain⟨wA,hwA⟩:∃ wA,w.alloc (.cells #[.int .i64 0,.int .u32 0] 51)=wA:=⟨_,rfl⟩
 have kA:Kz w wA:=by rw [← hwA];exact (zA.refl _ _).alloc _
 have qA:wA.heap[w.heap.size]?=some (.cells #[.int .i64 0,.int .u32 0] 51):=by rw [← hwA];exact zE
 obtain⟨c0,c1,c2,c3,c4,c5,c6,cl⟩:=qD (h.same kA).own
 have HQA:=zC qA;have HKA:=zC kA;have HW:=zC hwA
 have htl:=tk_len k.s.A.H.T
 have htn:=hok.s.a.n2
 have hin:i<k.s.A.H.T.n:=by rw [hok.s.n];exact hi
 have HIN:=zC hin
 obtain⟨X,hX⟩:∃ X,k.s.lostAt i=X:=⟨_,rfl⟩
 have HX:=zC hX
 rw [hX]
 clear h hwA kA qA c1 c2 c3 c4 c5 c6 hok hX hi
 by_cases hc:k.s.M.P.c i=0
 ·rw [show (!(k.s.M.P.c i == 0))=false by simpa using hc] at HMK
  have htl':k.s.A.H.T.tk.length≤256:=by omega
  obtain⟨tk,htk⟩:∃ tk,k.s.A.H.T.tk=tk:=⟨_,rfl⟩
  have HTK:=zC htk;have HC:=zC hc
  rw [htk] at htl'
  clear htl htn htk hc hin
  go_in
  go_upto_region 1 with (fail)
  rw [HW.out]
  go_wp2_with fail
  refine zQ (HMK.out _ HKA.out) fun w1 k1=>?_
  have HK1:=zC (HKA.out.trans k1);have HQ1:=zC (zB HQA.out k1 (fun h=>h))
  clear k1
  go_wp2_with fail
  refine (HH.out _ HK1.out).mono ?_
  rintro e w2 ⟨bh,bt,rfl,k2,_,_,hh2⟩
  have HK2:=zC (HK1.out.trans k2);have HQ2:=zC (zB HQ1.out k2 (fun h=>h));have HH2:=zC hh2
  clear k2 hh2
  go_wp2_with fail
  refine (hall_ok bh bt k.s.A.H w2 HH2.out).mono ?_
  rintro e w3 ⟨v3,rfl,hr3,k3⟩
  have HK3:=zC (HK2.out.trans k3);have HQ3:=zC (zB HQ2.out k3 (fun h=>h))
  rw [HTK.out] at hr3
  have hr3':=hr3.refs
  obtain⟨p3,cp3,rfl⟩:=hr3'.slice
  have HR3:=zC hr3'
  clear k3 hr3 hr3' HH2
  go_wp2_with fail
  go_loopw [33] (fun ix wr=>∃ j:Nat,j≤tk.length∧ix = .int .i64 j∧Hid (∀ r∈tk.take j,r.s≠i)∧Hid (Kz w3 wr)) (fun ix _=>tk.length - (intOf ix).toNat)
  case atStart=>exact⟨0,Nat.zero_le _,rfl,zC (fun r hr=>by simp at hr),zC (zA.refl _ _)⟩
  case round=>
   obtain⟨j,hj,rfl,HN,HKr⟩:=hrel
   have HQr:=zC (zB HQ3.out HKr.out (fun h=>h))
   have HKw:=zC (HK3.out.trans HKr.out)
   by_cases hlt:j<tk.length
   ·obtain⟨r,hr⟩:∃ r,tk[j]?=some r:=⟨_,List.getElem?_eq_getElem hlt⟩
    obtain⟨_,hcell⟩:=(HR3.out.keeps HKr.out (fun _ _ h=>h)).cell
    obtain⟨g,rfl,hg,z0,z1⟩:=hcell j r hr
    have hlt':(j:Int)<(tk.length:Int):=by omega
    have hj0:(0:Int)≤j:=by omega
    have HRr:=zC hr
    clear hcell hr
    by_cases hri:r.s=i
    ·obtain⟨u,e1,e2,e3,e4⟩:=tk_of (T:=k.s.A.H.T) (r:=r) (by rw [HTK.out];exact List.mem_of_getElem? HRr.out)
     obtain rfl:u=i:=by omega
     have hre:r=⟨u,k.s.A.H.T.gn u⟩:=by
      obtain⟨rs,rg⟩:=r
      dsimp only at e1 e4
      rw [e1,← e4]
     subst hre
     have hXX:X=(⟨u,k.s.A.H.T.gn u⟩,(k.s.A.H.ob u).h):=HX.out.symm.trans (lostAt_some HC.out e3)
     have HXX:=zC hXX
     have HOB:=zC (HO.out u (k.s.A.H.T.gn u) (ckV_tk HIN.out e3))
     obtain⟨o,ho⟩:∃ o,k.s.A.H.ob u=o:=⟨_,rfl⟩
     obtain⟨gu,hgu⟩:∃ gu,k.s.A.H.T.gn u=gu:=⟨_,rfl⟩
     have heq:((u:Int) == (u:Int))=true:=by simp
     rw [ho,hgu] at HXX
     rw [ho,hgu] at HOB
     rw [hgu] at z1
     dsimp only at z0 z1
     clear hri e1 e2 e3 e4 hXX ho hgu HRr HN
     go_wp2_with fail
     refine zQ (HOB.out _ (HKw.out.alloc _)) fun w5 k5=>?_
     dsimp only [Ob.arr]
     have HK5:=zC ((HKw.out.alloc _).trans k5)
     have HB5:=zC (zB (zE (w:=wr)) k5 (fun h=>h))
     have HQ5:=zC (zB (zG HQr.out) k5 (fun h=>h))
     clear k5 z0 z1
     go_upto_region 9 with (fail)
     obtain⟨w6,hw6⟩:∃ w6,w5.alloc (.cells #[.int .i64 o.n,.int .i64 o.f0.s,.int .u32 o.f0.g,.int .i64 o.f1.s,.int .u32 o.f1.g,.int .i64 o.f2.s,.int .u32 o.f2.g,.int .i64 o.f3.s,.int .u32 o.f3.g,.bool o.h] 151)=w6:=⟨_,rfl⟩
     have k6:Kz w5 w6:=by rw [← hw6];exact (zA.refl _ _).alloc _
     have q6:=zE (w:=w5) (o:=.cells #[.int .i64 o.n,.int .i64 o.f0.s,.int .u32 o.f0.g,.int .i64 o.f1.s,.int .u32 o.f1.g,.int .i64 o.f2.s,.int .u32 o.f2.g,.int .i64 o.f3.s,.int .u32 o.f3.g,.bool o.h] 151)
     rw [hw6] at q6
     rw [hw6]
     obtain⟨x0,x1,x2,x3,x4,x5,x6,x7,x8,x9,xf,xl⟩:=zZ q6
     obtain⟨y0,y1,yf,yl⟩:=zK (zB HB5.out k6 (fun h=>h))
     obtain⟨a0,a1,af,al⟩:=zK (zB HQ5.out k6 (fun h=>h))
     have f0:=af 0;have f1:=af 1
     have HK6:=zC (HK5.out.trans k6)
     clear hw6 k6 q6 xf yf af x0 x1 x2 x3 x4 x5 x6 x7 x8
     go_region
     go_wp2_with fail
     refine bodyPost_ret_by (v:=.tuple #[.agg #[.int .i64 u,.int .u32 gu],.bool o.h]) (by simp [results,Tryz.results245,go_sem, *]) rfl ⟨by rw [HXX.out];rfl,((kfin (S:=fun y=>w.heap.size≤y) HK6.out.up (Nat.le_refl _) _ _).drew).fresh⟩
    ·have hne:(r.s == (i:Int))=false:=by simpa using hri
     have HNN:=zC (show ∀ q∈tk.take (j+1),q.s≠i from fun q hq=>by
      rw [List.take_add_one,HRr.out] at hq
      rcases List.mem_append.1 hq with hq | hq
      ·exact HN.out q hq
      ·simp at hq;subst hq;exact hri)
     clear hri HRr HN
     go_wp2_with fail
     exact⟨⟨j+1,by omega,by go_num,HNN,zC (HKr.out.alloc _)⟩,by simp [intOf];omega⟩
   ·have hlt':¬ (j:Int)<(tk.length:Int):=by omega
    have hst:k.s.A.H.T.st i≠1:=fun hst=>by
     have hm:=tk_mem HIN.out hst
     rw [HTK.out] at hm
     exact HN.out _ (by rw [List.take_of_length_le (by omega)];exact hm) rfl
    have HXX:=zC (HX.out.symm.trans (lostAt_none (.inr hst)))
    obtain⟨a0,a1,af,al⟩:=zK HQr.out
    have f0:=af 0;have f1:=af 1
    clear hst HN af
    go_wp2_with fail
    refine bodyPost_ret_by (v:=.tuple #[.agg #[.int .i64 0,.int .u32 0],.bool false]) (by simp [results,Tryz.results245,go_sem, *]) rfl ⟨by rw [HXX.out];rfl,(kfin HKw.out.up (Nat.le_refl _) _ _).fresh⟩
 ·rw [show (!(k.s.M.P.c i == 0))=true by simpa using hc] at HMK
  have HXX:=zC (HX.out.symm.trans (lostAt_none (.inl hc)))
  clear htl htn hc hin
  go_in
  go_upto_region 1 with (fail)
  rw [HW.out]
  go_wp2_with fail
  refine zQ (HMK.out _ HKA.out) fun w1 k1=>?_
  have HK1:=zC (HKA.out.trans k1)
  obtain⟨a0,a1,af,al⟩:=zK (zB HQA.out k1 (fun h=>h))
  have f0:=af 0;have f1:=af 1
  clear k1 af
  go_wp2_with fail
  refine bodyPost_ret_by (v:=.tuple #[.agg #[.int .i64 0,.int .u32 0],.bool false]) (by simp [results,Tryz.results245,go_sem, *]) rfl ⟨by rw [HXX.out];rfl,(kfin HK1.out.up (Nat.le_refl _) _ _).fresh⟩
variable {w0 w w':World} {a m b c:Nat} {LA:ArL} {LM:MkL} {k:Col}
theorem cydis1 (Bi Br:Nat) (is:Bool) (room:Int) (w:World) (q1:w.heap[Bi]?=some (.cells #[.bool is] 4)) (q2:w.heap[Br]?=some (.cells #[.int .i64 room] 3)):
 Calls Tryz.prog 246 #[.pointer (some ⟨Bi,0,none⟩),.pointer (some ⟨Br,0,none⟩)] w fun e w'=>e = .returned (.bool (is && (room == 0)))∧w'=w:=by
 obtain⟨c1,_,_⟩:=zX q1
 obtain⟨c2,_,_⟩:=zX q2
 clear q1 q2
 cases is
 ·go_in
  go_wp2_with fail
  go_ret
  exact⟨rfl,rfl⟩
 ·go_in
  go_wp2_with fail
  go_ret
  exact⟨rfl,rfl⟩
theorem cydiscover_wait (h:Quad w0 w a m b c LA LM k) (hok:k.Ok) (hp:k.s.M.K.ph=4) (his:(k.s.lostAt k.C.at').2=true):
 Calls Tryz.prog 217 #[.pointer (some ⟨c,0,none⟩),.pointer (some ⟨a,0,none⟩),.int .i64 0] w (StepTo w0 w a m b c LA LM k ⟨k,.no,false⟩):=by
 have HLO:=zC (fun W (hk:Kz w W)=>cylost (h.same hk) hok k.C.at' (hok.a4 hp))
 obtain⟨rr,hrr⟩:∃ rr,(k.s.lostAt k.C.at').1=rr:=⟨_,rfl⟩
 obtain⟨is,his'⟩:∃ is,is=true:=⟨true,rfl⟩
 obtain⟨room,hroom⟩:∃ room:Int,room=0:=⟨0,rfl⟩
 rw [his,hrr,← his'] at HLO
 rw [← hroom]
 have e1:=enters_of Tryz.func246 (by kernel_rfl) rfl
 have HT:=zC (show (is && (room == 0))=true by rw [his',hroom];rfl)
 have HF:=zC (fun (W W':World) (d:Col) (hW:Quad w0 W a m b c LA LM d) (hl:k.Like d) (hk:zA (fun y=>w.heap.size≤y) W W')=>h.far hW hl hk)
 obtain⟨wA,hwA⟩:∃ wA,(w.alloc (.cells #[.int .i64 room] 3)).alloc (.cells #[.int .i64 0,.int .u32 0] 51)=wA:=⟨_,rfl⟩
 have kA:Kz w wA:=by rw [← hwA];exact ((zA.refl _ _).alloc _).alloc _
 have qA:wA.heap[w.heap.size+1]?=some (.cells #[.int .i64 0,.int .u32 0] 51):=by rw [← hwA];exact zN (by simp)
 have rA:wA.heap[w.heap.size]?=some (.cells #[.int .i64 room] 3):=by rw [← hwA];exact zG zE
 obtain⟨c0,c1,c2,c3,c4,c5,c6,cl⟩:=qD (h.same kA).own
 have HQA:=zC qA;have HRA:=zC rA;have HKA:=zC kA;have HW:=zC hwA;have HQU:=zC h
 have HFL:=zC h.footlt
 clear hwA kA qA rA c0 c1 c2 c3 c5 c6
 clear hok hp his hrr his' hroom h
 go_in
 go_upto_region 1 with (fail)
 rw [HW.out]
 go_wp2_with fail
 refine zQ (HLO.out _ HKA.out) fun w1 k1=>?_
 dsimp only [Rf.val]
 obtain⟨w2,hw2⟩:∃ w2,(w1.alloc (.cells #[.int .i64 rr.s,.int .u32 rr.g] 51)).alloc (.cells #[.bool is] 4)=w2:=⟨_,rfl⟩
 have k2:Kz w1 w2:=by rw [← hw2];exact ((zA.refl _ _).alloc _).alloc _
 have HK2:=zC ((HKA.out.trans k1).trans k2)
 have HP2:=zC (show w2.heap[w1.heap.size]?=some (.cells #[.int .i64 rr.s,.int .u32 rr.g] 51) by rw [← hw2];exact zG zE)
 have HB2:=zC (show w2.heap[w1.heap.size+1]?=some (.cells #[.bool is] 4) by rw [← hw2];exact zN (by simp))
 have HQ2:=zC (zB HQA.out (k1.trans k2) (fun h=>h));have HR2:=zC (zB HRA.out (k1.trans k2) (fun h=>h))
 have HS1:=zC (show w.heap.size+2≤w1.heap.size by have:=k1.size;have:=zF HQA.out;omega)
 have HW2:=zC hw2
 clear k1 k2 hw2 c4
 go_upto_region 3 with (fail)
 rw [HW2.out]
 go_wp2_with fail
 refine zQ (cydis1 _ _ is room _ HB2.out HR2.out) fun w3 h3=>?_
 obtain rfl:=h3.symm
 rw [HT.out]
 obtain⟨a0,a1,af,al⟩:=zK HQ2.out
 have f0:=af 0;have f1:=af 1
 clear af
 go_wp2_with fail
 refine bodyPost_ret_by (v:=.tuple #[.agg #[.int .i64 0,.int .u32 0],.bool false,.int .i64 0]) (by simp [results,Tryz.results217,go_sem, *]) rfl ⟨rfl,HF.out _ _ _ (HQU.out.same HK2.out) (Col.Like.refl k) ((kfin0 _ _ _ _).mono (fun y _ h=>by omega)),kfin HK2.out.up (by omega) _ _⟩
theorem cydiscover_go (h:Quad w0 w a m b c LA LM k) (hok:k.Ok) (hp:k.s.M.K.ph=4) (hcy:k.s.M.K.cy<4611686018427387904) (room:Int) (hr:(k.s.lostAt k.C.at').2=true→room≠0):
 Calls Tryz.prog 217 #[.pointer (some ⟨c,0,none⟩),.pointer (some ⟨a,0,none⟩),.int .i64 room] w (StepTo w0 w a m b c LA LM k ⟨k.discover,if (k.s.lostAt k.C.at').2=true then (k.s.lostAt k.C.at').1 else .no,(k.s.lostAt k.C.at').2⟩):=by
 have hat:=hok.a4 hp
 have HLO:=zC (fun W (hk:Kz w W)=>cylost (h.same hk) hok k.C.at' hat)
 obtain⟨rr,hrr⟩:∃ rr,(k.s.lostAt k.C.at').1=rr:=⟨_,rfl⟩
 obtain⟨is,his⟩:∃ is,(k.s.lostAt k.C.at').2=is:=⟨_,rfl⟩
 rw [his,hrr] at HLO
 rw [his,hrr]
 rw [his] at hr
 obtain⟨X,hX⟩:∃ X,(if is=true then rr else Rf.no)=X:=⟨_,rfl⟩
 have HX:=zC hX
 rw [hX]
 clear hX
 have e1:=enters_of Tryz.func246 (by kernel_rfl) rfl
 have HT:=zC (show (is && (room == 0))=false by cases is;rfl;simpa using hr rfl)
 obtain⟨dok,dl,_⟩:=Col.discover_ok hok hp
 have HDL:=zC dl
 have HF:=zC (fun (W W':World) (d:Col) (hW:Quad w0 W a m b c LA LM d) (hl:k.Like d) (hk:zA (fun y=>w.heap.size≤y) W W')=>h.far hW hl hk)
 have hn2:=hok.s.m.n2
 have hat0:(0:Int)≤k.C.at':=by omega
 have hat1:(k.C.at':Int)<256:=by omega
 obtain⟨wA,hwA⟩:∃ wA,(w.alloc (.cells #[.int .i64 room] 3)).alloc (.cells #[.int .i64 0,.int .u32 0] 51)=wA:=⟨_,rfl⟩
 have kA:Kz w wA:=by rw [← hwA];exact ((zA.refl _ _).alloc _).alloc _
 have qA:wA.heap[w.heap.size+1]?=some (.cells #[.int .i64 0,.int .u32 0] 51):=by rw [← hwA];exact zN (by simp)
 have rA:wA.heap[w.heap.size]?=some (.cells #[.int .i64 room] 3):=by rw [← hwA];exact zG zE
 obtain⟨c0,c1,c2,c3,c4,c5,c6,cl⟩:=qD (h.same kA).own
 have HQA:=zC qA;have HRA:=zC rA;have HKA:=zC kA;have HW:=zC hwA;have HQU:=zC h
 have HFL:=zC h.footlt
 clear hwA kA qA rA c0 c1 c2 c3 c5 c6
 have hgo:k.s.M.goR.1={ k.s.M with K:=k.s.M.K.go }:=goR_4 hp
 have HGO:=zC (fun W (hq:Quad w0 W a m b c LA LM ⟨k.s,{ k.C with at':=k.C.at'+1 }⟩)=>(duo_go_any hq.tr.both hok.s.m hcy).mono (fun e w' ⟨h1,h2,h3⟩=>And.intro h1 (And.intro (hq.both (s':=⟨k.s.A,k.s.M.goR.1⟩) (h3.mono (fun _ _ h=>.inr h)) h2 (by rw [hgo]) (by rw [hgo];rfl)) h3)))
 have HBE:=zC (fun W (hq:Quad w0 W a m b c LA LM ⟨⟨k.s.A,k.s.M.goR.1⟩,{ k.C with at':=k.C.at'+1 }⟩)=>(trio_begin hq.tr).mono (fun e w' ⟨h1,h2,h3⟩=>And.intro h1 (And.intro (hq.trio (s':=⟨k.s.A,k.s.M.goR.1⟩) (S':=⟨k.C.S.size,0,0⟩) (h3.mono (fun _ _ h=>.inl h)) h2 rfl rfl) h3)))
 have HD1:=zC (fun (e:k.C.at'+1=k.s.M.P.n)=>show k.discover=⟨⟨k.s.A,k.s.M.goR.1⟩,{ k.C with at':=k.C.at'+1,S:=⟨k.C.S.size,0,0⟩ }⟩ by unfold Col.discover;rw [if_pos e])
 have HD2:=zC (fun (e:¬ k.C.at'+1=k.s.M.P.n)=>show k.discover=⟨k.s,{ k.C with at':=k.C.at'+1 }⟩ by unfold Col.discover;rw [if_neg e])
 clear hok hp hrr his hcy h dok dl hgo hat hr
 go_in
 go_upto_region 1 with (fail)
 rw [HW.out]
 go_wp2_with fail
 refine zQ (HLO.out _ HKA.out) fun w1 k1=>?_
 dsimp only [Rf.val]
 obtain⟨w2,hw2⟩:∃ w2,(w1.alloc (.cells #[.int .i64 rr.s,.int .u32 rr.g] 51)).alloc (.cells #[.bool is] 4)=w2:=⟨_,rfl⟩
 have k2:Kz w1 w2:=by rw [← hw2];exact ((zA.refl _ _).alloc _).alloc _
 have HK2:=zC ((HKA.out.trans k1).trans k2)
 have HP2:=zC (show w2.heap[w1.heap.size]?=some (.cells #[.int .i64 rr.s,.int .u32 rr.g] 51) by rw [← hw2];exact zG zE)
 have HB2:=zC (show w2.heap[w1.heap.size+1]?=some (.cells #[.bool is] 4) by rw [← hw2];exact zN (by simp))
 have HQ2:=zC (zB HQA.out (k1.trans k2) (fun h=>h));have HR2:=zC (zB HRA.out (k1.trans k2) (fun h=>h))
 have HS1:=zC (show w.heap.size+2≤w1.heap.size by have:=k1.size;have:=zF HQA.out;omega)
 have HW2:=zC hw2
 clear k1 k2 hw2 c4
 go_upto_region 3 with (fail)
 rw [HW2.out]
 go_wp2_with fail
 refine zQ (cydis1 _ _ is room _ HB2.out HR2.out) fun w3 h3=>?_
 obtain rfl:=h3.symm
 rw [HT.out]
 obtain⟨c0,c1,c2,c3,c4,c5,c6,cl⟩:=qD (HQU.out.same HK2.out).own
 have fc:=zL (HQU.out.same HK2.out).own 4
 have k3:zA (fun y=>y=c) w2 (w2.setCell ⟨c,4,none⟩ (.int .i64 ((k.C.at':Int)+1))):=zJ _ _ _ _
 have HQ3:=zC ((HQU.out.same HK2.out).coll (C':={ k.C with at':=k.C.at'+1 }) k3 rfl ((zH (HQU.out.same HK2.out).own 4 _).trans (by simp [cyArr])))
 obtain⟨w3,hw3⟩:∃ w3,w2.setCell ⟨c,4,none⟩ (.int .i64 ((k.C.at':Int)+1))=w3:=⟨_,rfl⟩
 have HK3:=zC (show zA (fun y=>zV LA LM b c k.s y) w2 w3 by rw [← hw3];exact k3.mono (fun _ _ h=>.inl h))
 rw [hw3] at HQ3
 have HW3:=zC hw3
 clear k3 hw3
 have HF5:=zC (fun (W:World) (hk:zA (fun y=>zV LA LM b c k.s y) w2 W)=>And.intro (zB HP2.out hk (fun hf=>by have:=HFL.out _ hf;have:=HS1.out;omega)) (And.intro (zB HB2.out hk (fun hf=>by have:=HFL.out _ hf;have:=HS1.out;omega)) (zB HQ2.out hk (fun hf=>by have:=HFL.out _ hf;omega))))
 go_upto_region 6 with (fail)
 rw [HW3.out]
 clear c0 c1 c2 c3 c4 c5 c6 cl fc
 obtain⟨c0,c1,c2,c3,c4,c5,c6,cl⟩:=qD HQ3.out.own
 by_cases e:k.C.at'+1=k.s.M.P.n
 ·have he:(((k.C.at':Int)+1) == (k.s.M.P.n:Int))=true:=by simpa using (by omega:(k.C.at':Int)+1=(k.s.M.P.n:Int))
  have HDD:=zC (HD1.out e)
  clear e hat0 hat1
  go_quiet (fail)
  go_wp2_with fail
  clear he
  refine (HGO.out _ (HQ3.out.same ((zA.refl _ _).drewN _))).mono ?_
  rintro e w4 ⟨rfl,hq4,hk4⟩
  obtain⟨d0,d1,d2,d3,d4,d5,d6,dl⟩:=qD hq4.own
  have HQ4:=zC hq4;have HK4:=zC hk4
  clear hq4 hk4 c0 c1 c2 c3 c4 c5 c6 cl
  go_wp2_with fail
  refine (HBE.out _ HQ4.out).mono ?_
  rintro e w5 ⟨rfl,hq5,hk5⟩
  have HQZ:=zC (show Quad w0 w5 a m b c LA LM k.discover by rw [HDD.out];exact hq5)
  have HKZ:=zC (show zA (fun y=>zV LA LM b c k.s y) w2 w5 from (HK3.out.trans (((zA.refl _ _).drewN _).trans (HK4.out.mono (T:=fun y=>zV LA LM b c k.s y) (fun _ _ h=>.inr (.inr (.inr h)))))).trans (hk5.mono (fun _ _ h=>.inr (.inl h))))
  clear hq5 hk5 d0 d1 d2 d3 d4 d5 d6 dl
  obtain⟨p1,b1,q1⟩:=HF5.out _ HKZ.out
  obtain⟨x0,x1,xf,xl⟩:=zK p1
  obtain⟨y0,yf,yl⟩:=zX b1
  obtain⟨z0,z1,zf,zl⟩:=zK q1
  have xf0:=xf 0;have xf1:=xf 1;have zf0:=zf 0;have zf1:=zf 1
  have hS1:=HS1.out
  clear xf zf p1 b1 q1
  rcases is with _ | _
  ·have HXX:=zC (show Rf.no=X from HX.out)
   go_wp2_with fail
   go_region
   go_wp2_with fail
   refine bodyPost_ret_by (v:=.tuple #[.agg #[.int .i64 0,.int .u32 0],.bool false,.int .i64 0]) (by simp [results,Tryz.results217,go_sem, *]) rfl ⟨by rw [← HXX.out];rfl,?_,?_⟩
   ·exact HF.out _ _ _ HQZ.out HDL.out ((((kfin0 _ w1.heap.size _ _).mono (T:=fun y=>w.heap.size≤y) (fun y _ h=>by omega)).trans ((kfin0 _ (w.heap.size+1) _ _).mono (T:=fun y=>w.heap.size≤y) (fun y _ h=>by omega))).drew)
   ·exact (kfin (kfin (HK2.out.up.trans HKZ.out) (by omega:w.heap.size≤w1.heap.size) _ _) (by omega:w.heap.size≤w.heap.size+1) _ _).drew
  ·have HXX:=zC (show rr=X from HX.out)
   go_wp2_with fail
   go_region
   go_wp2_with fail
   refine bodyPost_ret_by (v:=.tuple #[.agg #[.int .i64 rr.s,.int .u32 rr.g],.bool true,.int .i64 0]) (by simp [results,Tryz.results217,go_sem, *]) rfl ⟨by rw [← HXX.out];rfl,?_,?_⟩
   ·exact HF.out _ _ _ HQZ.out HDL.out (((kfin0 _ (w.heap.size+1) _ _).mono (T:=fun y=>w.heap.size≤y) (fun y _ h=>by omega)).drew)
   ·exact (kfin (HK2.out.up.trans HKZ.out) (by omega:w.heap.size≤w.heap.size+1) _ _).drew
 ·have he:(((k.C.at':Int)+1) == (k.s.M.P.n:Int))=false:=by simpa using (by omega:¬ (k.C.at':Int)+1=(k.s.M.P.n:Int))
  have HDD:=zC (HD2.out e)
  clear e hat0 hat1
  go_quiet (fail)
  have HQZ:=zC (show Quad w0 (w3.drewN nq) a m b c LA LM k.discover by rw [HDD.out];exact HQ3.out.same ((zA.refl _ _).drewN _))
  have HKZ:=zC (show zA (fun y=>zV LA LM b c k.s y) w2 (w3.drewN nq) from HK3.out.drewN _)
  obtain⟨wz,hwz⟩:∃ wz,w3.drewN nq=wz:=⟨_,rfl⟩
  rw [hwz] at HQZ HKZ ⊢
  clear he c0 c1 c2 c3 c4 c5 c6 cl hwz
  obtain⟨p1,b1,q1⟩:=HF5.out _ HKZ.out
  obtain⟨x0,x1,xf,xl⟩:=zK p1
  obtain⟨y0,yf,yl⟩:=zX b1
  obtain⟨z0,z1,zf,zl⟩:=zK q1
  have xf0:=xf 0;have xf1:=xf 1;have zf0:=zf 0;have zf1:=zf 1
  have hS1:=HS1.out
  clear xf zf p1 b1 q1
  rcases is with _ | _
  ·have HXX:=zC (show Rf.no=X from HX.out)
   go_wp2_with fail
   go_region
   go_wp2_with fail
   refine bodyPost_ret_by (v:=.tuple #[.agg #[.int .i64 0,.int .u32 0],.bool false,.int .i64 0]) (by simp [results,Tryz.results217,go_sem, *]) rfl ⟨by rw [← HXX.out];rfl,?_,?_⟩
   ·exact HF.out _ _ _ HQZ.out HDL.out ((((kfin0 _ w1.heap.size _ _).mono (T:=fun y=>w.heap.size≤y) (fun y _ h=>by omega)).trans ((kfin0 _ (w.heap.size+1) _ _).mono (T:=fun y=>w.heap.size≤y) (fun y _ h=>by omega))).drew)
   ·exact (kfin (kfin (HK2.out.up.trans HKZ.out) (by omega:w.heap.size≤w1.heap.size) _ _) (by omega:w.heap.size≤w.heap.size+1) _ _).drew
  ·have HXX:=zC (show rr=X from HX.out)
   go_wp2_with fail
   go_region
   go_wp2_with fail
   refine bodyPost_ret_by (v:=.tuple #[.agg #[.int .i64 rr.s,.int .u32 rr.g],.bool true,.int .i64 0]) (by simp [results,Tryz.results217,go_sem, *]) rfl ⟨by rw [← HXX.out];rfl,?_,?_⟩
   ·exact HF.out _ _ _ HQZ.out HDL.out (((kfin0 _ (w.heap.size+1) _ _).mono (T:=fun y=>w.heap.size≤y) (fun y _ h=>by omega)).drew)
   ·exact (kfin (HK2.out.up.trans HKZ.out) (by omega:w.heap.size≤w.heap.size+1) _ _).drew
theorem cysweep (h:Quad w0 w a m b c LA LM k) (hok:k.Ok) (hp:k.s.M.K.ph=5) (hcy:k.s.M.K.cy<4611686018427387904) (room:Value):
 Calls Tryz.prog 218 #[.pointer (some ⟨c,0,none⟩),.pointer (some ⟨a,0,none⟩),room] w (StepTo w0 w a m b c LA LM k ⟨k.sweep,.no,false⟩):=by
 obtain⟨sok,sl,_⟩:=Col.sweep_ok hok hp
 have h5:=hok.a5 hp
 have hsz:=hok.sz
 obtain⟨s1,s2,s3,s4,s5⟩:=Sw.step_all hok.s h5
 have hck:k.C.S.chk k.s.A k.s.M=0:=by
  unfold Sw.chk
  rw [if_neg (by rintro (h | h);exact h (by rw [hok.s.n,hsz]);exact h hsz.symm),if_neg (by rintro (h | h);omega;exact h hp)]
 have HFL:=zC h.footlt
 have HF:=zC (fun (W W':World) (d:Col) (hW:Quad w0 W a m b c LA LM d) (hl:k.Like d) (hk:zA (fun y=>w.heap.size≤y) W W')=>h.far hW hl hk)
 obtain⟨R,hR⟩:∃ R,k.C.S.stepR k.s=R:=⟨_,rfl⟩
 have hst:∀ W,Quad w0 W a m b c LA LM k→Calls Tryz.prog 249 #[.pointer (some ⟨b,0,none⟩),.pointer (some ⟨a,0,none⟩),.pointer (some ⟨m,0,none⟩)] W fun e w'=>e = .returned (.tuple #[R.r.val,.bool R.is,.int .i64 0])∧Quad w0 w' a m b c LA LM ⟨R.s,{ k.C with S:=R.S }⟩∧zA (zV LA LM b c k.s) W w':=by
  intro W hW
  rw [← hR]
  refine (trio_step hW.tr hok.s hck).mono ?_
  rintro e w' ⟨rfl,ht,hk⟩
  exact⟨rfl,hW.trio hk ht s3 (by rw [s2]),hk.mono (fun y _ h=>.inr h)⟩
 have HST:=zC hst
 have hgo:∀ W,Quad w0 W a m b c LA LM ⟨R.s,{ k.C with S:=R.S }⟩→Calls Tryz.prog 247 #[.pointer (some ⟨m,0,none⟩)] W fun e w'=>e = .returned (.int .i64 0)∧Quad w0 w' a m b c LA LM ⟨⟨R.s.A,R.s.M.goR.1⟩,{ k.C with S:=R.S }⟩∧zA (zV LA LM b c ⟨R.s.A,R.s.M⟩) W w':=by
  intro W hW
  have hpR:R.s.M.K.ph=5:=by rw [← hR,s2];exact hp
  have h0:R.s.M.goR.2=0:=by unfold Mk.goR;rw [if_neg (by omega),if_neg (by omega)]
  have hgg:=goR_5 hpR
  refine (duo_go_any hW.tr.both (by rw [← hR];exact s1.m) (by rw [← hR,s2];exact hcy)).mono ?_
  rintro e w' ⟨rfl,h2,h3⟩
  rw [h0]
  exact⟨rfl,hW.both (s':=⟨R.s.A,R.s.M.goR.1⟩) (h3.mono (fun _ _ h=>.inr h)) h2 (by rw [hgg];rfl) (by rw [hgg];rfl),h3.mono (fun _ _ h=>.inr (.inr (.inr h)))⟩
 have HGO:=zC hgo
 have hLR:k.Like ⟨R.s,{ k.C with S:=R.S }⟩:=by
  have:=(Sw.step_safe hok.s hok.safe (by omega) h5).2.2
  rw [hR] at this s2 s3
  exact⟨by show R.s.M.K.many=_;rw [s2],s3,this⟩
 have HLR:=zC hLR
 have hms:R.s.A.many=k.s.A.many∧R.s.M.K.many=k.s.M.K.many:=by
  have:=(Sw.step_safe hok.s hok.safe (by omega) h5).2.2
  rw [hR] at this s2
  exact⟨this,by rw [s2]⟩
 have HFT:=zC (show ∀ y,zV LA LM b c ⟨R.s.A,R.s.M⟩ y→zV LA LM b c k.s y by
  intro y hy
  unfold zV foot2 at hy ⊢
  rw [hms.1,hms.2] at hy
  exact hy)
 have HDN:=zC (fun W (hW:Quad w0 W a m b c LA LM ⟨R.s,{ k.C with S:=R.S }⟩)=>swdone_ok b R.S W hW.tr.sw)
 have HS1:=zC (fun (e:R.S.next=R.S.size)=>show k.sweep=⟨⟨R.s.A,R.s.M.goR.1⟩,{ k.C with S:=R.S }⟩ by unfold Col.sweep;rw [hR,if_pos e])
 have HS2:=zC (fun (e:¬ R.S.next=R.S.size)=>show k.sweep=⟨R.s,{ k.C with S:=R.S }⟩ by unfold Col.sweep;rw [hR,if_neg e])
 have HSL:=zC sl
 obtain⟨wA,hwA⟩:∃ wA,w.alloc (.cells #[.int .i64 0,.int .u32 0] 51)=wA:=⟨_,rfl⟩
 have kA:Kz w wA:=by rw [← hwA];exact (zA.refl _ _).alloc _
 have qA:wA.heap[w.heap.size]?=some (.cells #[.int .i64 0,.int .u32 0] 51):=by rw [← hwA];exact zE
 obtain⟨c0,c1,c2,c3,c4,c5,c6,cl⟩:=qD (h.same kA).own
 have HQA:=zC qA;have HKA:=zC kA;have HW:=zC hwA;have HQU:=zC (h.same kA)
 clear h hwA kA qA c2 c3 c4 c5 c6 hok hp hcy sok sl h5 hsz s1 s2 s3 s4 s5 hck hst hgo hms hR hLR
 have HSE:=zC (fun W (hk:Kz wA W)=>And.intro (qD (HQU.out.same hk).own).2.1 (qD (HQU.out.same hk).own).1)
 have HNF:=zC (fun y (hy:wA.heap.size≤y) (hf:zV LA LM b c k.s y)=>(show False by have:=HFL.out _ hf;have:=HKA.out.size;omega))
 go_in
 go_upto_region 1 with (fail)
 rw [HW.out]
 go_cut [11] (fun s11 wx=>s11 = .int .i64 0∧Quad w0 wx a m b c LA LM ⟨R.s,{ k.C with S:=R.S }⟩∧zA (zV LA LM b c k.s) w wx∧wx.heap[w.heap.size]?=some (.cells #[.int .i64 0,.int .u32 0] 51))
 case first=>
  have hzA:=HKA.out.size
  have hlA:=zF HQA.out
  go_region_held3 (fun W=>W.cell? ⟨c,1,none⟩=some (.pointer (some ⟨b,0,none⟩))∧W.cell? ⟨c,0,none⟩=some (.pointer (some ⟨m,0,none⟩)))
   ((first | exact⟨c1,c0⟩ | (refine HSE.out _ ?_;(with_reducible repeat first | exact zA.refl _ _ | refine zA.alloc ?_ _ | refine zA.drew ?_);done) | (refine hS _ ?_;(with_reducible repeat first | exact zA.refl _ _ | refine zA.alloc ?_ _ | refine zA.drew ?_ | refine zA.setCell ?_ (.inl ?_) _) <;> (dsimp only;omega))))
   (first | (go_at_call 249;refine (HST.out _ (by first | exact HQU.out.same (zA.refl _ _).drew | exact HQU.out.same (((zA.refl _ _).alloc _).drew))).mono ?_;rintro e w1 ⟨rfl,hq,hk⟩;dsimp only [Rf.val];have hS:=fun W (hkk:zA (fun y=>w.heap.size≤y) w1 W)=>(And.intro (qD (HF.out _ _ _ hq HLR.out hkk).own).2.1 (qD (HF.out _ _ _ hq HLR.out hkk).own).1);have hks:=hk.size;(first | (have nb:=zB (show (World.drew (wA.alloc (.cells #[.int .i64 0,.int .u32 0] 51))).heap[wA.heap.size]?=_ from zE) hk (fun hf=>HNF.out _ (Nat.le_refl _) hf);have nx:=zK nb;obtain⟨n0,n1,nf,nl⟩:=nx;have nf0:=nf 0;have nf1:=nf 1) | skip)))
  all_goals
   go_wp2_with fail
   go_meet
   have hnb:=HFL.out w.heap.size
   first
    | exact⟨rfl,hq.same ((zA.refl _ _).alloc _),(HKA.out.up.trans (((zA.refl _ _).drew).trans hk)).alloc _,zG (zB (w:=wA.drew) HQA.out hk (fun hf=>by have:=hnb hf;omega))⟩
    | exact⟨rfl,HF.out _ _ _ hq HLR.out ((kfin0 _ wA.heap.size _ _).mono (fun y _ h=>by omega)),kfin (HKA.out.up.trans ((((zA.refl _ _).alloc _).drew).trans hk)) (by omega) _ _,set_oth2 (by dsimp only;omega) (set_oth2 (by dsimp only;omega) (zB (w:=(wA.alloc _).drew) (zG HQA.out) hk (fun hf=>by have:=hnb hf;omega)))⟩
 case rest=>
 obtain⟨rfl,hq2,hk2,hb2⟩:=hcut
 have HQ2:=zC hq2;have HK2:=zC hk2;have HB2:=zC hb2
 clear hq2 hk2 hb2
 obtain⟨w2,hw2⟩:∃ w2,w2=wc:=⟨_,rfl⟩
 rw [← hw2] at HQ2 HK2 HB2 ⊢
 clear hw2
 obtain⟨c0,c1,c2,c3,c4,c5,c6,cl⟩:=qD HQ2.out.own
 go_wp2_with fail
 refine zQ (HDN.out _ HQ2.out) fun w3 k3=>?_
 have HQ3:=zC (HQ2.out.same k3);have HK3:=zC (HK2.out.trans k3.up);have HB3:=zC (zB HB2.out k3 (fun h=>h))
 clear k3 c0 c1 c2 c3 c4 c5 c6 cl
 obtain⟨c0,c1,c2,c3,c4,c5,c6,cl⟩:=qD HQ3.out.own
 by_cases e:R.S.next=R.S.size
 ·have he:(R.S.next == R.S.size)=true:=by simpa using e
  have HDD:=zC (HS1.out e)
  rw [he]
  clear e he
  go_wp2_with fail
  refine (HGO.out _ HQ3.out).mono ?_
  rintro e w4 ⟨rfl,hq,hk⟩
  have HQ4:=zC (show Quad w0 w4 a m b c LA LM k.sweep by rw [HDD.out];exact hq)
  have HK4:=zC (HK3.out.trans (hk.mono (fun y _ h=>HFT.out y h)))
  obtain⟨a0,a1,af,al⟩:=zK (zB HB3.out hk (fun hf=>by have:=HFL.out _ (HFT.out _ hf);omega))
  have f0:=af 0;have f1:=af 1
  clear hq hk c0 c1 c2 c3 c4 c5 c6 cl af
  go_wp2_with fail
  refine bodyPost_ret_by (v:=.tuple #[.agg #[.int .i64 0,.int .u32 0],.bool false,.int .i64 0]) (by simp [results,Tryz.results218,go_sem, *]) rfl ⟨rfl,HF.out _ _ _ HQ4.out HSL.out (kfin0 _ _ _ _),kfin HK4.out (Nat.le_refl _) _ _⟩
 ·have he:(R.S.next == R.S.size)=false:=by simpa using e
  have HDD:=zC (HS2.out e)
  rw [he]
  have HQ4:=zC (show Quad w0 w3 a m b c LA LM k.sweep by rw [HDD.out];exact HQ3.out)
  obtain⟨a0,a1,af,al⟩:=zK HB3.out
  have f0:=af 0;have f1:=af 1
  clear e he c0 c1 c2 c3 c4 c5 c6 cl af
  go_wp2_with fail
  refine bodyPost_ret_by (v:=.tuple #[.agg #[.int .i64 0,.int .u32 0],.bool false,.int .i64 0]) (by simp [results,Tryz.results218,go_sem, *]) rfl ⟨rfl,HF.out _ _ _ HQ4.out HSL.out (kfin0 _ _ _ _),kfin HK3.out (Nat.le_refl _) _ _⟩
theorem csteps (w:World):Calls Tryz.prog 148 #[] w fun e w'=>e = .returned (.agg #[.func (.func 215) #[] #[],.func (.func 216) #[] #[],.func (.func 216) #[] #[],.func (.func 216) #[] #[],.func (.func 217) #[] #[],.func (.func 218) #[] #[]])∧Kz w w':=by
 go_in
 go_wp2_with fail
 refine bodyPost_ret_by ?_ rfl ⟨rfl,(zA.refl _ _).alloc _⟩
 simp [results,Tryz.results148,go_sem, *]
def cstepsV:Value:=.agg #[.func (.func 215) #[] #[],.func (.func 216) #[] #[],.func (.func 216) #[] #[],.func (.func 216) #[] #[],.func (.func 217) #[] #[],.func (.func 218) #[] #[]]
theorem cystep_of (g ph:Nat) (d:Col) (r:Rf) (is:Bool) (room:Int) (h:Quad w0 w a m b c LA LM k) (hok:k.Ok) (hr0:0≤room) (hl:k.Like d) (hp:k.s.M.K.ph=ph)
 (hidx:∀ w,Sem.run Tryz.prog (Instr.index 194 cstepsV (.int .i64 ph)) w = .ok (.func (.func g) #[] #[]) w)
 (eg:∀ args w,(callFunc g args).run Tryz.prog w = .ok (.enter g args) w)
 (hg:∀ W,Kz w W→Calls Tryz.prog g #[.pointer (some ⟨c,0,none⟩),.pointer (some ⟨a,0,none⟩),.int .i64 room] W (StepTo w0 W a m b c LA LM k ⟨d,r,is⟩)):
 Calls Tryz.prog 66 #[.pointer (some ⟨c,0,none⟩),.pointer (some ⟨a,0,none⟩),.int .i64 room] w (StepTo w0 w a m b c LA LM k ⟨d,r,is⟩):=by
 have HFL:=zC h.footlt
 have HF:=zC (fun (W W':World) (d:Col) (hW:Quad w0 W a m b c LA LM d) (hl:k.Like d) (hk:zA (fun y=>w.heap.size≤y) W W')=>h.far hW hl hk)
 have HSZ:=zC (fun W (hk:Kz w W)=>asizes_ok a LA k.s.A W (h.same hk).tr.both.ar)
 have HV:=zC (fun W (hk:Kz w W)=>cyvalid (h.same hk))
 have HPH:=zC (fun W (hk:Kz w W)=>mphase m LM k.s.M W (h.same hk).tr.both.mm)
 rw [hp] at HPH
 have HS:=zC (fun W (hk:Kz w W)=>qD (h.same hk).own)
 have HG:=zC hg
 have HL:=zC hl
 have hn:=hok.s.n;have hm:=hok.s.k
 have hn0:(((k.s.A.H.T.n:Int)) == 0)=false:=by have:=hok.s.a.n1;simpa using (by omega:¬ (k.s.A.H.T.n:Int)=0)
 have hr1:¬ room<0:=by omega
 obtain⟨wA,hwA⟩:∃ wA,w.alloc (.cells #[.int .i64 0,.int .u32 0] 51)=wA:=⟨_,rfl⟩
 have kA:Kz w wA:=by rw [← hwA];exact (zA.refl _ _).alloc _
 have qA:wA.heap[w.heap.size]?=some (.cells #[.int .i64 0,.int .u32 0] 51):=by rw [← hwA];exact zE
 have HQA:=zC qA;have HKA:=zC kA;have HW:=zC hwA
 have HN:=zC hn;have HM:=zC hm
 obtain⟨n',hn'⟩:∃ n',k.s.A.H.T.n=n':=⟨_,rfl⟩
 obtain⟨m',hm'⟩:∃ m',k.s.A.many=m':=⟨_,rfl⟩
 rw [← hn,← hm,hn',hm'] at HS
 rw [hn',hm'] at HSZ
 rw [hn'] at hn0
 unfold cstepsV at hidx
 have hwl:w.heap.size<wA.heap.size:=zF qA
 clear h hok hwA kA qA hn hm hn' hm' hp hg hl hr0 HN HM
 go_in
 go_upto_region 1 with (fail)
 rw [HW.out]
 go_wp2_with fail
 refine zQ (HSZ.out _ HKA.out) fun w1 k1=>?_
 have HK1:=zC (HKA.out.trans k1);have HB1:=zC (zB HQA.out k1 (fun h=>h))
 clear k1
 go_wp2_with fail
 refine zQ (HV.out _ HK1.out) fun w2 h2=>?_
 obtain rfl:=h2.symm
 obtain⟨c0,c1,c2,c3,c4,c5,c6,cl⟩:=HS.out _ HK1.out
 have hw1:=HK1.out.size
 go_wp2_with fail
 clear hn0 hr1 c1 c2 c3 c4 c5 c6
 go_region_held3 (fun W=>W.cell? ⟨c,0,none⟩=some (.pointer (some ⟨m,0,none⟩)))
  ((first | assumption | exact (HS.out _ (HK1.out.drew.trans hk2)).1 | exact (qD hq4.own).1 | exact (qD (HF.out _ _ _ hq4 HL.out (kfin0 _ _ _ _)).own).1))
  (first
   | (go_at_call 148;refine (csteps _).mono ?_;rintro e w2 ⟨rfl,hk2⟩)
   | (go_at_call 28;refine (HPH.out _ (by first | exact HK1.out.drew | exact HK1.out.drew.trans hk2)).mono ?_;rintro e w3 ⟨rfl,rfl⟩)
   | (go_at_fn g;refine (HG.out _ (HK1.out.drew.trans hk2)).mono ?_;rintro e w4 ⟨rfl,hq4,hk4⟩;dsimp only [Rf.val];have nb:=zB (zB (w:=w1.drew) HB1.out hk2 (fun h=>h)) hk4 (fun hf=>by have:=HFL.out _ hf;omega);have nx:=zK nb;obtain⟨n0,n1,nf,nl⟩:=nx;have nf0:=nf 0;have nf1:=nf 1))
 all_goals
  clear nf
  go_wp2_with fail
  refine bodyPost_ret_by (v:=.tuple #[.agg #[.int .i64 r.s,.int .u32 r.g],.bool is,.int .i64 0]) (by simp [results,Tryz.results66,go_sem, *]) rfl ⟨rfl,HF.out _ _ _ hq4 HL.out (kfin0 _ _ _ _),kfin ((HK1.out.drew.trans hk2).up.trans hk4) (Nat.le_refl _) _ _⟩
theorem cystep (h:Quad w0 w a m b c LA LM k) (hok:k.Ok) (hcy:k.s.M.K.cy<4611686018427387904) (room:Nat) (hroom:room<4611686018427387904):
 Calls Tryz.prog 66 #[.pointer (some ⟨c,0,none⟩),.pointer (some ⟨a,0,none⟩),.int .i64 room] w (StepTo w0 w a m b c LA LM k (k.stepR (decide (0<room)))):=by
 obtain⟨h1,h2⟩:=Col.step_ok hok (decide (0<room))
 have h5:=hok.s.m.ph
 have hbg:=hok.bg
 obtain hp | hp | hp | hp | hp | hp:k.s.M.K.ph=0∨k.s.M.K.ph=1∨k.s.M.K.ph=2∨k.s.M.K.ph=3∨k.s.M.K.ph=4∨k.s.M.K.ph=5:=by omega
 ·have e:k.stepR (decide (0<room))=⟨if k.C.asked=true then k.begin else k,.no,false⟩:=by unfold Col.stepR;rw [if_pos hp]
  rw [e] at h2 ⊢
  rw [if_pos hp] at hbg
  exact cystep_of 215 0 _ _ _ _ h hok (by omega) h2 hp (by intro w;unfold cstepsV;kernel_rfl) (enters_of Tryz.func215 (by kernel_rfl) rfl) (fun W hk=>cyrest (h.same hk) hok hp (by omega) _ _)
 ·have e:k.stepR (decide (0<room))=⟨k.mark,.no,false⟩:=by unfold Col.stepR;rw [if_neg (by omega),if_neg (by omega),if_neg (by omega)]
  rw [e] at h2 ⊢
  exact cystep_of 216 1 _ _ _ _ h hok (by omega) h2 hp (by intro w;unfold cstepsV;kernel_rfl) (enters_of Tryz.func216 (by kernel_rfl) rfl) (fun W hk=>cymark (h.same hk) hok (by omega) hcy _)
 ·have e:k.stepR (decide (0<room))=⟨k.mark,.no,false⟩:=by unfold Col.stepR;rw [if_neg (by omega),if_neg (by omega),if_neg (by omega)]
  rw [e] at h2 ⊢
  exact cystep_of 216 2 _ _ _ _ h hok (by omega) h2 hp (by intro w;unfold cstepsV;kernel_rfl) (enters_of Tryz.func216 (by kernel_rfl) rfl) (fun W hk=>cymark (h.same hk) hok (by omega) hcy _)
 ·have e:k.stepR (decide (0<room))=⟨k.mark,.no,false⟩:=by unfold Col.stepR;rw [if_neg (by omega),if_neg (by omega),if_neg (by omega)]
  rw [e] at h2 ⊢
  exact cystep_of 216 3 _ _ _ _ h hok (by omega) h2 hp (by intro w;unfold cstepsV;kernel_rfl) (enters_of Tryz.func216 (by kernel_rfl) rfl) (fun W hk=>cymark (h.same hk) hok (by omega) hcy _)
 ·rcases hl:(k.s.lostAt k.C.at').2 with _ | _
  ·have e:k.stepR (decide (0<room))=⟨k.discover,.no,false⟩:=by unfold Col.stepR;rw [if_neg (by omega),if_pos hp,if_neg (by rw [hl];decide)]
   rw [e] at h2 ⊢
   refine cystep_of 217 4 _ _ _ _ h hok (by omega) h2 hp (by intro w;unfold cstepsV;kernel_rfl) (enters_of Tryz.func217 (by kernel_rfl) rfl) (fun W hk=>?_)
   have:=cydiscover_go (h.same hk) hok hp hcy (room:Int) (fun h=>by rw [hl] at h;cases h)
   rw [hl,if_neg (by decide)] at this
   exact this
  ·by_cases h0:0<room
   ·have e:k.stepR (decide (0<room))=⟨k.discover,(k.s.lostAt k.C.at').1,true⟩:=by unfold Col.stepR;rw [if_neg (by omega),if_pos hp,if_pos hl,if_pos (by simpa using h0)]
    rw [e] at h2 ⊢
    refine cystep_of 217 4 _ _ _ _ h hok (by omega) h2 hp (by intro w;unfold cstepsV;kernel_rfl) (enters_of Tryz.func217 (by kernel_rfl) rfl) (fun W hk=>?_)
    have:=cydiscover_go (h.same hk) hok hp hcy (room:Int) (fun _=>by omega)
    rw [hl,if_pos rfl] at this
    exact this
   ·obtain rfl:room=0:=by omega
    have e:k.stepR (decide (0<0))=⟨k,.no,false⟩:=by unfold Col.stepR;rw [if_neg (by omega),if_pos hp,if_pos hl,if_neg (by decide)]
    rw [e] at h2 ⊢
    exact cystep_of 217 4 _ _ _ _ h hok (by omega) h2 hp (by intro w;unfold cstepsV;kernel_rfl) (enters_of Tryz.func217 (by kernel_rfl) rfl) (fun W hk=>cydiscover_wait (h.same hk) hok hp hl)
 ·have e:k.stepR (decide (0<room))=⟨k.sweep,.no,false⟩:=by unfold Col.stepR;rw [if_neg (by omega),if_neg (by omega),if_pos hp]
  rw [e] at h2 ⊢
  exact cystep_of 218 5 _ _ _ _ h hok (by omega) h2 hp (by intro w;unfold cstepsV;kernel_rfl) (enters_of Tryz.func218 (by kernel_rfl) rfl) (fun W hk=>cysweep (h.same hk) hok hp hcy _)
end Go.Proofs.YtjfmagccmjdhoaaGreat
