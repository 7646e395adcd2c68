import Derived.Test.YtjfmagccmjdhoaaGreatMgH
import Derived.Test.YtjfmagccmjdhoaaGreatMgL
set_option maxHeartbeats 1000000
set_option maxRecDepth 100000
namespace Go.Proofs.YtjfmagccmjdhoaaGreat
open Go.RowKit
def Refs (w:World) (v:Value) (l:List Rf):Prop:=
 (v = .slice none 0 0∧l=[])∨∃ g cap cur,v = .slice (some ⟨g,0,none⟩) l.length cap∧w.heap[g]?=some (.cells cur 51)∧∀ (j:Nat) (r:Rf),l[j]?=some r→cur[j * 2]?=some (.int .i64 r.s)∧cur[j * 2+1]?=some (.int .u32 r.g)
theorem Row.refs {w:World} {base:Nat} {v:Value} {l:List Rf} (h:Row w base v l):Refs w v l:=by
 rcases h.cells with h | ⟨g,cap,cur,h1,_,h2,h3⟩
 ·exact .inl h
 ·exact .inr ⟨g,cap,cur,h1,h2,h3⟩
theorem Refs.keeps {w w':World} {v:Value} {l:List Rf} {S:Nat→Prop} (h:Refs w v l) (hk:zA S w w') (hS:∀ k,v.ownBlock=some k→¬ S k):Refs w' v l:=by
 rcases h with h | ⟨g,cap,cur,rfl,h2,h3⟩
 ·exact .inl h
 ·exact .inr ⟨g,cap,cur,rfl,zB h2 hk (hS g rfl),h3⟩
theorem mcheck_ok (m a:Nat) (L:MkL) (M:Mk) (LA:ArL) (A:Ar) (w:World) (h:MkIn w m L M) (ha:ArIn w a LA A) (hn:A.H.T.n=M.P.n) (hm:A.many=M.K.many):
 Calls Tryz.prog 145 #[.pointer (some ⟨m,0,none⟩),.pointer (some ⟨a,0,none⟩)] w fun e w'=>e = .returned (.int .i64 0)∧Kz w w':=by
 have HV:=zC (mvalid m L M w h)
 have HS:=zC (asizes_ok a LA A w ha)
 rw [hn,hm] at HS
 have h12:=h.pt.n12
 have HM:=zC (fun (w':World) (hk:Kz w w')=>zY (h.keeps0 hk).own)
 have hq0:((M.P.n:Int) == 0)=false:=by simp;omega
 clear h ha hn hm
 go_in
 go_wp2_with fail
 refine zP HV.out ?_
 go_wp2_with fail
 refine zQ HS.out fun w1 hk=>?_
 obtain⟨c0,c1,c2,c3,c4,c5,cl⟩:=HM.out _ hk
 have HK:=zC hk
 clear hk
 go_wp2_with fail
 go_ret
 exact⟨rfl,HK.out⟩
def Mk.shade (M:Mk) (l:List Int):Mk:={ M with P:=(shds (M.P,M.S) l).1,S:=(shds (M.P,M.S) l).2 }
theorem hres_s {H:Hp} {l:List Rf} {x:Int} (h:x∈(hres H l).map (·.s)):0≤x∧x<H.T.n:=by
 rw [List.mem_map] at h
 obtain⟨r,hr,rfl⟩:=h
 rw [hres,List.mem_filter] at hr
 obtain⟨i,h1,h2,_⟩:=ckV_ok (by simpa using hr.2)
 omega
theorem mshade1 (m b t Bh Bm:Nat) (L:MkL) (M:Mk) (H:Hp) (v:Value) (l:List Rf) (w:World) (h:MkIn w m L M) (hh:HpAt w b t H) (hn:H.T.n=M.P.n) (hv:Refs w v l) (hlen:l.length≤256)
 (qh:w.heap[Bh]?=some (.cells #[.pointer (some ⟨b,0,none⟩)] 52)) (qm:w.heap[Bm]?=some (.cells #[.pointer (some ⟨m,0,none⟩)] 67)):
 Calls Tryz.prog 214 #[v,.pointer (some ⟨Bh,0,none⟩),.pointer (some ⟨Bm,0,none⟩)] w
  fun e w'=>e = .returned (.tuple #[])∧zA (fun y=>y=L.p∨y=L.s) w w'∧MkIn w' m L (M.shade ((hres H l).map (·.s))):=by
 have hpt:=h.pt;have hst:=h.st
 obtain⟨cp,hcp,_⟩:=id hpt
 obtain⟨cs,hcs,_⟩:=id hst
 have no:∀ {x c' t'},w.heap[x]?=some (.cells c' t')→t'≠227→t'≠232→¬ (x=L.p∨x=L.s):=fun h1 h2 h3 h=>by
  rcases h with h | h
  ·exact zM h1 hcp h2 h
  ·exact zM h1 hcs h3 h
 have HF:=zC (fun (w':World) (hk:zA (fun y=>y=L.p∨y=L.s) w w')=>And.intro (zX (zB qh hk (no qh (by decide) (by decide)))).1 (And.intro (zX (zB qm hk (no qm (by decide) (by decide)))).1 (zY (zB h.own hk (no h.own (by decide) (by decide))))))
 have HHP:=zC (fun (w':World) (hk:zA (fun y=>y=L.p∨y=L.s) w w')=>show HpAt w' b t H from by
  obtain⟨⟨c2,hc2,_⟩,⟨c3,hc3,_⟩,_,_⟩:=id hh
  exact hh.keeps hk (no hc2 (by decide) (by decide)) (no hc3 (by decide) (by decide)))
 have hbh:=zF qh;have hbm:=zF qm;have hml:=zF h.own
 have HST:=zC (fun (w':World) (P:Pt) (S:Sq) (hn':P.n=M.P.n) (hk:zA (fun y=>y=L.p∨y=L.s) w w') (h1:PtAt w' L.p P) (h2:SqAt w' L.s S)=>h.setPS hn' hk h1 h2)
 have HPT:=zC hpt;have HSQ:=zC hst;have HN:=zC hn
 rcases hv with⟨rfl,rfl⟩ | ⟨g,cap,cur,rfl,hg,hcur⟩
 ·have HH:=zC h
  clear h hh hn qh qm hpt hst hcp hcs no
  go_in
  go_wp2_with fail
  go_loopw [8] (fun i wr=>i = .int .i64 0∧w=wr) (fun _ _=>0)
  case atStart=>exact⟨rfl,rfl⟩
  case round=>
   obtain⟨rfl,rfl⟩:=hrel
   go_wp2_with fail
   go_end0
   exact⟨rfl,zA.refl _ _,HH.out⟩
 ·have HG:=zC (fun (w':World) (hk:zA (fun y=>y=L.p∨y=L.s) w w')=>zB hg hk (no hg (by decide) (by decide)))
  have HC:=zC hcur
  clear h hh hn qh qm hpt hst hcp hcs no hg hcur
  go_in
  go_wp2_with fail
  go_loopw [8] (fun i wr=>∃ k:Nat,k≤l.length∧i = .int .i64 k∧PtAt wr L.p (shds (M.P,M.S) ((hres H (l.take k)).map (·.s))).1∧SqAt wr L.s (shds (M.P,M.S) ((hres H (l.take k)).map (·.s))).2∧zA (fun y=>y=L.p∨y=L.s) w wr) (fun i _=>l.length - (intOf i).toNat)
  case atStart=>exact⟨0,Nat.zero_le _,rfl,HPT.out,HSQ.out,zA.refl _ _⟩
  case round=>
   obtain⟨k,hk,rfl,hp,hs,hkk⟩:=hrel
   by_cases hlt:k<l.length
   ·obtain⟨r,hr⟩:∃ r,l[k]?=some r:=⟨_,List.getElem?_eq_getElem hlt⟩
    have hg:=HG.out _ hkk
    obtain⟨c0,c1⟩:=HC.out k r hr
    have x0:=zD hg c0
    have x1:=zD hg c1
    obtain⟨y0,_⟩:=HF.out _ hkk
    have hlt':(k:Int)<(l.length:Int):=by omega
    have hk0:(0:Int)≤k:=by omega
    have hgl:=zF hg
    have hszr:=hkk.size
    have hbh2:Bh<wr.heap.size:=by omega
    have HH:=zC (hhas_any b t H r.s r.g _ ((HHP.out _ hkk).keeps (S:=fun _=>False) ((zA.refl _ _).alloc (.cells #[.int .i64 r.s,.int .u32 r.g] 51)) (fun h=>h) (fun h=>h)))
    have HRR:=zC hr;have HKK:=zC hkk;have HP:=zC hp;have HS:=zC hs
    clear hg c0 c1 hr hkk hp hs
    go_wp2_with fail
    refine zQ HH.out fun w2 hk2=>?_
    have ka:Kz wr w2:=((zA.refl _ _).alloc _).trans hk2
    have kb:=HKK.out.trans ka.up
    obtain⟨z0,z1,_,_⟩:=zK (zB (zE (w:=wr)) hk2 (fun h=>h))
    have hp2:=HP.out.keeps ka (fun h=>h)
    have hs2:=HS.out.keeps ka (fun h=>h)
    have HKB:=zC kb;have HP2:=zC hp2;have HS2:=zC hs2
    obtain⟨f0,f1,d0,d1,d2,d3,d4,d5,dl⟩:=HF.out _ kb
    clear ka kb hp2 hs2 hk2
    rcases he:(qH H.T r.s r.g == 0) with _ | _
    ·have HNO:=zC (hres_no HRR.out he)
     go_wp2_with fail
     exact⟨⟨k+1,by omega,by simp,by rw [HNO.out];exact HP2.out,by rw [HNO.out];exact HS2.out,HKB.out⟩,by simp [intOf];omega⟩
    ·obtain⟨e1,_⟩:=hres_yes HRR.out he
     have HE:=zC e1
     obtain⟨j,hj,hj2,_⟩:=ckV_ok (T:=H.T) (s:=r.s) (g:=r.g) (by simpa using he)
     have HSH:=zC (fun (w':World) (hk':Kz w2 w')=>scshade_ok L.p L.s _ _ j w' (HP2.out.keeps hk' (fun h=>h)) (HS2.out.keeps hk' (fun h=>h)) (by rw [shds_n];dsimp only;have:=HN.out;omega))
     have HJ:=zC hj
     rw [hj] at z0
     clear e1 hj
     go_wp2_with fail
     go_still_tail 10,(by kernel_rfl)
     change wpList _ _ _ _ _ (World.drew _)
     go_wp2_with fail
     refine (HSH.out _ (zA.refl _ _).drew).mono ?_
     rintro e w7 ⟨rfl,hk7,hp7,hs7⟩
     have HK7:=zC (HKB.out.drew.trans hk7)
     have HP7:=zC hp7;have HS7:=zC hs7
     clear hk7 hp7 hs7
     go_wp2_with fail
     exact⟨⟨k+1,by omega,by simp,by rw [HE.out,shds_snoc,HJ.out];exact HP7.out,by rw [HE.out,shds_snoc,HJ.out];exact HS7.out,HK7.out⟩,by simp [intOf];omega⟩
   ·have HT:=zC (show l.take k=l by rw [List.take_of_length_le (by omega)])
    have hnl:¬ (k:Int)<(l.length:Int):=by omega
    rw [HT.out] at hp hs
    go_wp2_with fail
    go_end0
    exact⟨rfl,hkk,HST.out _ _ _ (by rw [shds_n]) hkk hp hs⟩
theorem mshader (m a:Nat) (LA:ArL) (A:Ar) (w:World) (ha:ArIn w a LA A):
 Calls Tryz.prog 147 #[.pointer (some ⟨m,0,none⟩),.pointer (some ⟨a,0,none⟩)] w fun e w'=>∃ Bh Bm b t,
  e = .returned (.func (.func 214) #[] #[.pointer (some ⟨Bh,0,none⟩),.pointer (some ⟨Bm,0,none⟩)])∧Kz w w'∧
  w'.heap[Bh]?=some (.cells #[.pointer (some ⟨b,0,none⟩)] 52)∧w'.heap[Bm]?=some (.cells #[.pointer (some ⟨m,0,none⟩)] 67)∧HpAt w' b t A.H:=by
 have HH:=zC (fun (w':World) (hk:Kz w w')=>aheap_ok a LA A w' (ha.keeps0 hk))
 clear ha
 go_in
 go_wp2_with fail
 refine (HH.out _ (by repeat (first | exact zA.refl _ _ | apply zA.alloc | apply zA.drewN | apply zA.drew))).mono ?_
 rintro e w1 ⟨b,t,rfl,hk1,h1,h2,hh⟩
 have HK1:=zC (((zA.refl (fun _=>False) w).alloc _).trans hk1)
 have HQ:=zC (zB (zE (w:=w)) hk1 (fun h=>h))
 have HHP:=zC hh
 clear hk1 hh
 go_wp2_with fail
 go_ret
 exact⟨_,_,b,t,rfl,HK1.out.alloc _,zE,zG HQ.out,HHP.out.keeps (S:=fun _=>False) ((zA.refl _ _).alloc _) (fun h=>h) (fun h=>h)⟩
theorem mroots_ok (m a:Nat) (L:MkL) (M:Mk) (w:World) (h:MkIn w m L M) (hp:M.K.ph=2) (hr:M.K.all=true) (hcy:M.K.cy<4611686018427387904):
 Calls Tryz.prog 272 #[.pointer (some ⟨m,0,none⟩),.pointer (some ⟨a,0,none⟩)] w fun e w'=>e = .returned (.tuple #[])∧zA (fun y=>y=L.c) w w'∧MkIn w' m L { M with K:=M.K.go }:=by
 have hrd:M.K.ready=true:=by simp [Ck.ready,hp,hr]
 have HR:=zC (phReady L.c M.K w h.clk)
 rw [hrd] at HR
 have HGo:=zC (fun (w':World) (hk:Kz w w')=>phGo_ok L.c M.K w' (h.clk.keeps hk (fun h=>h)) (by omega) (fun _=>hr) hcy)
 have HM:=zC (fun (w1 w2:World) (k1:Kz w w1) (k2:zA (fun y=>y=L.c) w1 w2) hK=>(h.keeps0 k1).setC (K:=M.K.go) rfl k2 hK)
 have HC:=zC (fun (w':World) (hk:Kz w w')=>zY (h.keeps0 hk).own)
 obtain⟨c0,c1,c2,c3,c4,c5,cl⟩:=zY h.own
 clear h hr hcy hp hrd
 go_in
 go_wp2_with fail
 refine zQ HR.out fun w1 hk1=>?_
 obtain⟨d0,d1,d2,d3,d4,d5,dl⟩:=HC.out _ hk1
 have HK1:=zC hk1
 clear hk1
 go_wp2_with fail
 refine (HGo.out _ HK1.out).mono ?_
 rintro e w2 ⟨rfl,hk2,hK2⟩
 have HM2:=zC (HM.out _ _ HK1.out hk2 hK2)
 have HK2:=zC (HK1.out.up.trans hk2)
 go_wp2_with fail
 go_end0
 exact⟨rfl,HK2.out,HM2.out⟩
theorem msteps (w:World):Calls Tryz.prog 256 #[] w fun e w'=>e = .returned (.agg #[.func (.func 270) #[] #[],.func (.func 271) #[] #[],.func (.func 272) #[] #[],.func (.func 273) #[] #[],.func (.func 270) #[] #[],.func (.func 270) #[] #[]])∧Kz w w':=by
 go_in
 go_wp2_with fail
 refine bodyPost_ret_by ?_ rfl ⟨rfl,(zA.refl _ _).alloc _⟩
 simp [results,Tryz.results256,go_sem, *]
def stepsV:Value:=.agg #[.func (.func 270) #[] #[],.func (.func 271) #[] #[],.func (.func 272) #[] #[],.func (.func 273) #[] #[],.func (.func 270) #[] #[],.func (.func 270) #[] #[]]
theorem mstep_of (m a k:Nat) (g:Nat) (L:MkL) (M:Mk) (LA:ArL) (A:Ar) (R:World→Prop) (w:World) (h:MkIn w m L M) (ha:ArIn w a LA A) (hn:A.H.T.n=M.P.n) (hm:A.many=M.K.many) (hp:M.K.ph=k)
 (hidx:∀ w,Sem.run Tryz.prog (Instr.index 294 stepsV (.int .i64 k)) w = .ok (.func (.func g) #[] #[]) w)
 (eg:∀ args w,(callFunc g args).run Tryz.prog w = .ok (.enter g args) w)
 (hg:∀ W,Kz w W→Calls Tryz.prog g #[.pointer (some ⟨m,0,none⟩),.pointer (some ⟨a,0,none⟩)] W fun e w'=>e = .returned (.tuple #[])∧R w'∧w'.cell? ⟨m,2,none⟩=some (.pointer (some ⟨L.c,0,none⟩))):
 Calls Tryz.prog 244 #[.pointer (some ⟨m,0,none⟩),.pointer (some ⟨a,0,none⟩)] w fun e w'=>e = .returned (.int .i64 0)∧R w':=by
 have HCH:=zC (mcheck_ok m a L M LA A w h ha hn hm)
 have HPH:=zC (fun (w':World) (hk:Kz w w')=>phPhase L.c M.K w' (h.clk.keeps hk (fun h=>h)))
 rw [hp] at HPH
 have HS:=zC (fun (w':World) (hk:Kz w w')=>(zY (h.keeps0 hk).own).2.2.1)
 have HG:=zC hg
 unfold stepsV at hidx
 clear h ha hn hm hp hg
 go_in
 go_wp2_with fail
 refine zQ HCH.out fun w1 hk1=>?_
 have c2:=HS.out _ hk1
 have HK1:=zC hk1
 clear hk1
 go_upto_region 4 with (fail)
 go_region_held3 (fun W=>W.cell? ⟨m,2,none⟩=some (.pointer (some ⟨L.c,0,none⟩)))
  ((first | assumption | exact HS.out _ (HK1.out.drew.trans hk2)))
  (first
   | (go_at_call 256;refine (msteps _).mono ?_;rintro e w2 ⟨rfl,hk2⟩)
   | (go_at_call 85;refine (HPH.out _ (by first | exact HK1.out.drew | exact HK1.out.drew.trans hk2)).mono ?_;rintro e w3 ⟨rfl,rfl⟩)
   | (go_at_fn g;refine (HG.out _ (HK1.out.drew.trans hk2)).mono ?_;rintro e w4 ⟨rfl,hR,hc4⟩))
 all_goals
  go_wp2_with fail
  go_ret
  exact⟨rfl,hR⟩
theorem mshake_wait (m a:Nat) (L:MkL) (M:Mk) (w:World) (h:MkIn w m L M) (hr:M.K.ready=false):
 Calls Tryz.prog 271 #[.pointer (some ⟨m,0,none⟩),.pointer (some ⟨a,0,none⟩)] w fun e w'=>e = .returned (.tuple #[])∧Kz w w':=by
 have HR:=zC (phReady L.c M.K w h.clk)
 rw [hr] at HR
 obtain⟨c0,c1,c2,c3,c4,c5,cl⟩:=zY h.own
 clear h hr
 go_in
 go_wp2_with fail
 refine zQ HR.out fun w1 hk1=>?_
 go_wp2_with fail
 go_end0
 exact⟨rfl,hk1⟩
theorem mack_plain (m a i:Nat) (L:MkL) (M:Mk) (LA:ArL) (A:Ar) (w:World) (h:MkIn w m L M) (ha:ArIn w a LA A) (hn:A.H.T.n=M.P.n) (hm:A.many=M.K.many) (hi:i<M.K.many) (hp:M.K.ph=1∨M.K.ph=2∧M.K.seen i=true):
 Calls Tryz.prog 65 #[.pointer (some ⟨m,0,none⟩),.pointer (some ⟨a,0,none⟩),.int .i64 i] w fun e w'=>e = .returned (.tuple #[.bool (!M.K.seen i),.int .i64 0])∧zA (fun y=>y=L.c) w w'∧MkIn w' m L { M with K:=M.K.ack i }:=by
 have HCH:=zC (mcheck_ok m a L M LA A w h ha hn hm)
 have HAK:=zC (fun (w':World) (hk:Kz w w')=>phAck_ok L.c M.K i w' (h.clk.keeps hk (fun h=>h)) hi (by rcases hp with h | h;exact .inl h;exact .inr h.1))
 have HM:=zC (fun (w1 w2:World) (k1:Kz w w1) (k2:zA (fun y=>y=L.c) w1 w2) hK=>(h.keeps0 k1).setC (K:=M.K.ack i) rfl k2 hK)
 have HC:=zC (fun (w':World) (hk:Kz w w')=>zY (h.keeps0 hk).own)
 have HCC:=zC (fun (w':World) (h':MkIn w' m L { M with K:=M.K.ack i })=>And.intro (zY h'.own) (phPhase L.c (M.K.ack i) w' h'.clk))
 have hq:(!M.K.seen i && ((M.K.ph:Int) == 2))=false:=by
  rcases hp with h | h
  ·have:((M.K.ph:Int) == 2)=false:=by simp;omega
   simp [this]
  ·simp [h.2]
 have hph:(M.K.ack i).ph=M.K.ph:=rfl
 rw [hph] at HCC
 clear h ha hn hm hi
 rcases hs:M.K.seen i with _ | _
 ·have hph1:M.K.ph=1:=by rcases hp with h | h;exact h;rw [hs] at h;simp at h
  rw [hs] at HAK
  rw [hph1] at HCC
  clear hp hq hs hph1 hph
  go_in
  go_wp2_with fail
  refine zQ HCH.out fun w1 hk1=>?_
  obtain⟨d0,d1,d2,d3,d4,d5,dl⟩:=HC.out _ hk1
  have HK1:=zC hk1
  clear hk1
  go_wp2_with fail
  refine (HAK.out _ HK1.out).mono ?_
  rintro e w2 ⟨rfl,hk2,hK2⟩
  have HM2:=zC (HM.out _ _ HK1.out hk2 hK2)
  have HK2:=zC (HK1.out.up.trans hk2)
  obtain⟨⟨e0,e1,e2,e3,e4,e5,el⟩,HPH⟩:=HCC.out _ HM2.out
  have HPP:=zC HPH
  clear hk2 hK2 HPH
  go_wp2_with fail
  refine zP HPP.out ?_
  go_wp2_with fail
  go_ret2
  exact⟨rfl,HK2.out,HM2.out⟩
 ·rw [hs] at HAK
  clear hp hq hs hph
  go_in
  go_wp2_with fail
  refine zQ HCH.out fun w1 hk1=>?_
  obtain⟨d0,d1,d2,d3,d4,d5,dl⟩:=HC.out _ hk1
  have HK1:=zC hk1
  clear hk1
  go_wp2_with fail
  refine (HAK.out _ HK1.out).mono ?_
  rintro e w2 ⟨rfl,hk2,hK2⟩
  have HM2:=zC (HM.out _ _ HK1.out hk2 hK2)
  have HK2:=zC (HK1.out.up.trans hk2)
  clear hk2 hK2
  go_wp2_with fail
  go_ret2
  exact⟨rfl,HK2.out,HM2.out⟩
theorem mack_roots (m a i:Nat) (L:MkL) (M:Mk) (LA:ArL) (A:Ar) (w:World) (h:MkIn w m L M) (ha:ArIn w a LA A) (hn:A.H.T.n=M.P.n) (hm:A.many=M.K.many) (hi:i<M.K.many) (hp:M.K.ph=2) (hs:M.K.seen i=false)
 (hsep:∀ {W W'},ArIn W a LA A→zA (fun y=>y=L.c) W W'→ArIn W' a LA A):
 Calls Tryz.prog 65 #[.pointer (some ⟨m,0,none⟩),.pointer (some ⟨a,0,none⟩),.int .i64 i] w fun e w'=>e = .returned (.tuple #[.bool true,.int .i64 0])∧zA (fun y=>y=L.c∨y=L.p∨y=L.s) w w'∧
  MkIn w' m L (Mk.shade { M with K:=M.K.ack i } ((hres A.H (A.rt i).l).map (·.s))):=by
 have HCH:=zC (mcheck_ok m a L M LA A w h ha hn hm)
 have HAK:=zC (fun (w':World) (hk:Kz w w')=>phAck_ok L.c M.K i w' (h.clk.keeps hk (fun h=>h)) hi (.inr hp))
 rw [hs] at HAK
 have HM:=zC (fun (w1 w2:World) (k1:Kz w w1) (k2:zA (fun y=>y=L.c) w1 w2) hK=>(h.keeps0 k1).setC (K:=M.K.ack i) rfl k2 hK)
 have HA:=zC (fun (w1 w2:World) (k1:Kz w w1) (k2:zA (fun y=>y=L.c) w1 w2)=>hsep (ha.keeps0 k1) k2)
 have HC:=zC (fun (w':World) (hk:Kz w w')=>zY (h.keeps0 hk).own)
 have HCC:=zC (fun (w':World) (h':MkIn w' m L { M with K:=M.K.ack i })=>And.intro (zY h'.own) (phPhase L.c (M.K.ack i) w' h'.clk))
 have hph:(M.K.ack i).ph=2:=hp
 rw [hph] at HCC
 have hia:i<A.many:=by omega
 have hlr:(A.rt i).l.length≤256:=by have:=(ha.st i hia).n32;simp [Sk.l];omega
 clear h ha hm hi hp hs hsep hph
 go_in
 go_wp2_with fail
 refine zQ HCH.out fun w1 hk1=>?_
 obtain⟨d0,d1,d2,d3,d4,d5,dl⟩:=HC.out _ hk1
 have HK1:=zC hk1
 clear hk1
 go_wp2_with fail
 refine (HAK.out _ HK1.out).mono ?_
 rintro e w2 ⟨rfl,hk2,hK2⟩
 have HM2:=zC (HM.out _ _ HK1.out hk2 hK2)
 have HA2:=zC (HA.out _ _ HK1.out hk2)
 have HK2:=zC (HK1.out.up.trans hk2)
 obtain⟨⟨e0,e1,e2,e3,e4,e5,el⟩,HPH⟩:=HCC.out _ HM2.out
 have HPP:=zC HPH
 clear hk2 hK2 HPH
 go_wp2_with fail
 refine zP HPP.out ?_
 go_wp2_with fail
 refine (astackall_ok a LA A i _ HA2.out hia).mono ?_
 rintro e w3 ⟨v,rfl,hr3,hk3⟩
 have HK3:=zC hk3;have HR3:=zC hr3
 clear hk3 hr3
 go_wp2_with fail
 refine (mshader m a LA A w3 (HA2.out.keeps0 HK3.out)).mono ?_
 rintro e w4 ⟨Bh,Bm,b,t,rfl,hk4,q1,q2,hh4⟩
 have HK4:=zC hk4;have HQ1:=zC q1;have HQ2:=zC q2;have HH4:=zC hh4
 clear hk4 q1 q2 hh4
 have en:=enters_of Tryz.func214 (by kernel_rfl) rfl
 go_wp2_with fail
 refine (mshade1 m b t Bh Bm L { M with K:=M.K.ack i } A.H v (A.rt i).l w4 (HM2.out.keeps0 (HK3.out.trans HK4.out)) HH4.out hn (HR3.out.refs.keeps HK4.out (fun _ _ h=>h)) hlr HQ1.out HQ2.out).mono ?_
 rintro e w5 ⟨rfl,hk5,hm5⟩
 have HK5:=zC hk5;have HM5:=zC hm5
 clear hk5 hm5
 go_wp2_with fail
 go_ret2
 exact⟨rfl,((HK2.out.mono (T:=fun y=>y=L.c∨y=L.p∨y=L.s) (fun _ _ h=>.inl h)).trans (HK3.out.trans HK4.out).up).trans' HK5.out (fun _ _ h=>h) (fun _ _ h=>.inr h),HM5.out⟩
theorem mack_range (m a:Nat) (i:Int) (L:MkL) (M:Mk) (LA:ArL) (A:Ar) (w:World) (h:MkIn w m L M) (ha:ArIn w a LA A) (hn:A.H.T.n=M.P.n) (hm:A.many=M.K.many) (hi:i<0∨(M.K.many:Int)≤i):
 Calls Tryz.prog 65 #[.pointer (some ⟨m,0,none⟩),.pointer (some ⟨a,0,none⟩),.int .i64 i] w fun e w'=>e = .returned (.tuple #[.bool false,.int .i64 3])∧Kz w w':=by
 have HCH:=zC (mcheck_ok m a L M LA A w h ha hn hm)
 have HAK:=zC (fun (w':World) (hk:Kz w w')=>phAck_range L.c M.K i w' (h.clk.keeps hk (fun h=>h)) hi)
 have HC:=zC (fun (w':World) (hk:Kz w w')=>zY (h.keeps0 hk).own)
 clear h ha hn hm hi
 go_in
 go_wp2_with fail
 refine zQ HCH.out fun w1 hk1=>?_
 obtain⟨d0,d1,d2,d3,d4,d5,dl⟩:=HC.out _ hk1
 have HK1:=zC hk1
 clear hk1
 go_wp2_with fail
 refine zP (HAK.out _ HK1.out) ?_
 go_wp2_with fail
 go_ret2
 exact⟨rfl,HK1.out⟩
end Go.Proofs.YtjfmagccmjdhoaaGreat
namespace Go.Proofs.YtjfmagccmjdhoaaGreat
open Go.RowKit
theorem tk_mem {T:Tb} {i:Nat} (hi:i<T.n) (hs:T.st i=1):(⟨i,T.gn i⟩:Rf)∈T.tk:=by
 obtain⟨suf,h⟩:=Tb.inn_split hi hs
 rw [Tb.tk,h]
 simp [rfOf]
theorem tk_of {T:Tb} {r:Rf} (h:r∈T.tk):∃ i:Nat,r.s=i∧i<T.n∧T.st i=1∧T.gn i=r.g:=by
 rw [Tb.tk,List.mem_map] at h
 obtain⟨⟨i,g⟩,h,rfl⟩:=h
 obtain⟨a,b,c⟩:=Tb.inn_mem h
 exact⟨i,rfl,c,a,b⟩
theorem ckV_tk {T:Tb} {i:Nat} (hi:i<T.n) (hs:T.st i=1):qH T i (T.gn i)=0:=by
 rw [qH,if_neg (by omega),if_pos ⟨by simpa using hs,by simp⟩]
theorem tk_len (T:Tb):T.tk.length≤T.n:=by rw [Tb.tk,List.length_map];exact Tb.inn_len _ _ _
def Mk.scan (M:Mk) (H:Hp) (i:Nat):Mk:={ M with P:=(shds (M.P,M.S) (chs H (H.ob i))).1.put i 2,S:=(shds (M.P,M.S) (chs H (H.ob i))).2 }
theorem mscan_ok (m a i:Nat) (L:MkL) (M:Mk) (LA:ArL) (A:Ar) (w:World) (h:MkIn w m L M) (ha:ArIn w a LA A) (hn:A.H.T.n=M.P.n) (hi:i<A.H.T.n) (hs:A.H.T.st i=1) (hc:M.P.c i=1):
 Calls Tryz.prog 282 #[.pointer (some ⟨m,0,none⟩),.pointer (some ⟨a,0,none⟩),.int .i64 i] w fun e w'=>e = .returned (.tuple #[])∧zA (fun y=>y=L.p∨y=L.s) w w'∧MkIn w' m L (M.scan A.H i):=by
 have HAH:=zC (aheap_ok a LA A w ha)
 have HM:=zC (fun (w':World) (hk:Kz w w')=>h.keeps0 hk)
 have HSET:=zC (fun (w' w2:World) (P:Pt) (S:Sq) (k1:Kz w w') (hn':P.n=M.P.n) (hk:zA (fun y=>y=L.p∨y=L.s) w' w2) (h1:PtAt w2 L.p P) (h2:SqAt w2 L.s S)=>(h.keeps0 k1).setPS hn' hk h1 h2)
 clear h ha
 go_in
 go_wp2_with fail
 refine HAH.out.mono ?_
 rintro e w1 ⟨b,t,rfl,hk1,_,_,hh1⟩
 have HK1:=zC hk1;have HH1:=zC hh1
 clear hk1 hh1
 go_wp2_with fail
 refine (hall_ok b t A.H w1 HH1.out).mono ?_
 rintro e w2 ⟨v,rfl,hr2,hk2⟩
 have HK2:=zC (HK1.out.trans hk2)
 have HH2:=zC (HH1.out.keeps hk2 (fun h=>h) (fun h=>h))
 have hmem:=tk_mem hi hs
 have hlen:=tk_len A.H.T
 have n256:=HH1.out.tab.n12.2
 obtain⟨tk,htk⟩:∃ tk,A.H.T.tk=tk:=⟨_,rfl⟩
 rw [htk] at hr2 hmem hlen
 have HTK:=zC htk
 clear htk
 rcases hr2.refs with⟨rfl,h0⟩ | ⟨g,cap,cur,rfl,hg,hcur⟩
 ·rw [h0] at hmem;simp at hmem
 ·have HG:=zC hg;have HC:=zC hcur;have HMEM:=zC hmem
  clear hr2 hk2 hg hcur hmem
  go_wp2_with fail
  go_loopw [14] (fun ix wr=>∃ k:Nat,k≤tk.length∧ix = .int .i64 k∧(∀ (j:Nat) (r:Rf),j<k→tk[j]?=some r→r.s≠i)∧Kz w2 wr) (fun ix _=>tk.length - (intOf ix).toNat)
  case atStart=>exact⟨0,Nat.zero_le _,rfl,fun _ _ h=>by omega,zA.refl _ _⟩
  case round=>
   obtain⟨k,hk,rfl,hno,hkk⟩:=hrel
   have HNO:=zC hno;have HKK:=zC hkk
   by_cases hlt:k<tk.length
   ·obtain⟨r,hr⟩:∃ r,tk[k]?=some r:=⟨_,List.getElem?_eq_getElem hlt⟩
    obtain⟨c0,c1⟩:=HC.out k r hr
    have hg:=zB HG.out hkk (fun h=>h)
    have x0:=zD hg c0
    have x1:=zD hg c1
    have hlt':(k:Int)<(tk.length:Int):=by omega
    have hk0:(0:Int)≤k:=by omega
    have hk256:(k:Int)<256:=by omega
    obtain⟨j,hj,hj1,hj2,hj3⟩:=tk_of (T:=A.H.T) (r:=r) (by rw [HTK.out];exact List.mem_of_getElem? hr)
    have HRR:=zC hr
    clear hno hkk hr c0 c1 hg
    rcases he:(r.s == (i:Int)) with _ | _
    ·have hne:r.s≠i:=by simpa using he
     have HNE:=zC hne
     clear hne hj
     go_wp2_with fail
     refine⟨⟨k+1,by omega,by go_num,?_,HKK.out.alloc _⟩,by simp [intOf];omega⟩
     intro j' r' hj' hr'
     by_cases e:j'=k
     ·subst e
      rw [HRR.out] at hr'
      obtain rfl:r=r':=by simpa using hr'
      exact HNE.out
     ·exact HNO.out j' r' (by omega) hr'
    ·have hij:j=i:=by have:r.s=i:=by simpa using he
                      omega
     subst hij
     have hgr:r=⟨j,A.H.T.gn j⟩:=by
      obtain⟨rs,rg⟩:=r
      simp only at hj hj3
      rw [hj,hj3]
     subst hgr
     have hck:=ckV_tk hj1 hj2
     clear he hj
     dsimp only at x0 x1
     have K2w:=HK2.out.trans HKK.out
     have HS:=zC (fun (w':World) (hk':Kz wr w')=>sscan_ok b t L.p L.s A.H M.P M.S j (A.H.T.gn j) w' ((HH2.out.keeps (HKK.out.trans hk') (fun h=>h) (fun h=>h))) (HM.out _ (K2w.trans hk')).pt (HM.out _ (K2w.trans hk')).st hck hn hc)
     go_upto_region 5 with (fail)
     obtain⟨w3,hw3⟩:∃ w3,wr.alloc (.cells #[.int .i64 j,.int .u32 (A.H.T.gn j)] 51)=w3:=⟨_,rfl⟩
     have k3:Kz wr w3:=by rw [← hw3];exact (zA.refl _ _).alloc _
     have q3:w3.heap[wr.heap.size]?=some (.cells #[.int .i64 j,.int .u32 (A.H.T.gn j)] 51):=by rw [← hw3];exact zE
     obtain⟨z0,z1,_,_⟩:=zK q3
     obtain⟨d0,d1,d2,d3,d4,d5,dl⟩:=zY (HM.out _ (K2w.trans k3)).own
     rw [hw3]
     have HK3:=zC k3
     have HKW:=zC (K2w.trans k3)
     clear hw3 k3 q3 x0 x1 K2w
     go_still_tail 10,(by kernel_rfl)
     change wpList _ _ _ _ _ (World.drew _)
     go_wp2_with fail
     refine (HS.out _ HK3.out.drew).mono ?_
     rintro e w7 ⟨⟨vv,rfl⟩,hk7,hp7,hs7⟩
     have HK7:=zC hk7;have HP7:=zC hp7;have HS7:=zC hs7
     clear hk7 hp7 hs7
     go_wp2_with fail
     refine bodyPost_ret (results_none rfl _ _ _) rfl ?_
     refine⟨rfl,HKW.out.drew.up.trans HK7.out,?_⟩
     exact HSET.out _ _ _ _ HKW.out.drew (by show (shds (M.P,M.S) _).1.n=_;rw [shds_n]) HK7.out HP7.out HS7.out
   ·exfalso
    obtain⟨k',hk'⟩:=List.mem_iff_getElem?.1 HMEM.out
    have hlt':k'<tk.length:=(List.getElem?_eq_some_iff.1 hk').1
    exact hno k' _ (by omega) hk' rfl
def MkL.foot (L:MkL) (many y:Nat):Prop:=y=L.c∨y=L.p∨y=L.s∨∃ j,j<many∧y=L.bb j
theorem setCells_keeps (b:Nat) (vs:List Value) (o:Nat) (w:World):zA (fun y=>y=b) w (w.setCells b o vs):=by
 induction vs generalizing o w with
 | nil=>exact zA.refl _ _
 | cons v vs ih=>exact (zJ w b o v).trans (ih (o+1) _)
theorem setCells_block (b:Nat) (vs:List Value) (o:Nat) (w:World) (c:Array Value) (t:TypeId) (h:w.heap[b]?=some (.cells c t)) (hs:o+vs.length≤c.size):
 ∃ c',(w.setCells b o vs).heap[b]?=some (.cells c' t)∧c'.size=c.size∧∀ j,c'[j]?=if o≤j∧j<o+vs.length then vs[j - o]? else c[j]?:=by
 induction vs generalizing o w c with
 | nil=>exact⟨c,h,rfl,fun j=>by rw [if_neg (by simp)]⟩
 | cons v vs ih=>
  simp only [List.length_cons] at hs
  obtain⟨c',h1,h2,h3⟩:=ih (o+1) _ _ (zH h o v) (by simp;omega)
  refine⟨c',h1,by simpa using h2,fun j=>?_⟩
  rw [h3 j]
  by_cases e:j=o
  ·subst e
   rw [if_neg (by omega),if_pos ⟨Nat.le_refl _,by simp⟩,Array.getElem?_setIfInBounds_self_of_lt (by omega)]
   simp
  ·by_cases hr:o+1≤j∧j<o+1+vs.length
   ·rw [if_pos hr,if_pos (by simp;omega),show j - o=(j - (o+1))+1 by omega,List.getElem?_cons_succ]
   ·rw [if_neg hr,if_neg (by simp;omega),Array.getElem?_setIfInBounds_ne (by omega)]
def Pt.clear (P:Pt):Pt:={ P with c:=fun _=>0 }
theorem cclear_ok (b:Nat) (P:Pt) (w:World) (h:PtAt w b P):
 Calls Tryz.prog 260 #[.pointer (some ⟨b,0,none⟩)] w fun e w'=>e = .returned (.tuple #[])∧zA (fun y=>y=b) w w'∧PtAt w' b P.clear:=by
 have HV:=zC (cmade b P w h)
 obtain⟨c,hc,hC⟩:=h
 have hs:=hC.size
 obtain⟨W2,hW2,hk2,c',h1,h2,h3⟩:∃ W2,(∀ ty,Sem.run Tryz.prog (Builtin.clear_ #[300] ty #[.slice (some ⟨b,1,none⟩) 256 256]) w = .ok (.tuple #[]) W2)∧zA (fun y=>y=b) w W2∧∃ c',W2.heap[b]?=some (.cells c' 227)∧c'.size=c.size∧∀ j,c'[j]?=if 1≤j∧j<1+256 then (List.replicate 256 (Value.int .u8 0))[j - 1]? else c[j]?:=by
  refine⟨w.setCells b 1 (List.replicate 256 (.int .u8 0)),fun ty=>?_,setCells_keeps _ _ _ _,?_⟩
  ·exact Lib.run_clear_slice w 300 5 ty (.int .u8 0) Tryz.underlying300 (fun w=>by kernel_rfl) rfl rfl b 1 256 256 (by decide) (fun j hj=>by rw [zD hc (hC.col j hj)];rfl) (fun j _=>zL hc _)
  ·have:=setCells_block b (List.replicate 256 (.int .u8 0)) 1 w c _ hc (by rw [List.length_replicate];omega)
   rwa [List.length_replicate] at this
 have HC:=zC hC
 have hl:=zF hc
 clear hc hC
 go_in
 go_wp2_with fail
 refine zP HV.out ?_
 go_wp2_with fail
 go_end0
 refine⟨rfl,hk2,c',h1,⟨by rw [h2];exact HC.out.size,?_,?_,HC.out.n1,HC.out.n2,fun i=>by simp [Pt.clear],fun i=>by simp [Pt.clear]⟩⟩
 ·rw [h3,if_neg (by omega)];exact HC.out.len
 ·intro i hi
  rw [h3,if_pos ⟨by omega,by omega⟩,show 1+i - 1=i by omega,List.getElem?_replicate,if_pos hi];rfl
theorem mgo_idle (m:Nat) (L:MkL) (M:Mk) (w:World) (h:MkIn w m L M) (hp:M.K.ph<4):
 Calls Tryz.prog 247 #[.pointer (some ⟨m,0,none⟩)] w fun e w'=>e = .returned (.int .i64 8)∧w'=w:=by
 have HV:=zC (mvalid m L M w h)
 have HE:=zC (mended m L M w h)
 rw [show decide (4≤M.K.ph)=false by simp;omega] at HE
 clear h hp
 go_in
 go_wp2_with (first | (go_at_call 79;refine HV.out.mono ?_;rintro e w' ⟨rfl,h'⟩;obtain rfl:=h'.symm) | (go_at_call 258;refine HE.out.mono ?_;rintro e w' ⟨rfl,h'⟩;obtain rfl:=h'.symm))
 go_ret
 exact⟨rfl,rfl⟩
theorem mgo_mid (m:Nat) (L:MkL) (M:Mk) (w:World) (h:MkIn w m L M) (hp:M.K.ph=4) (hcy:M.K.cy<4611686018427387904):
 Calls Tryz.prog 247 #[.pointer (some ⟨m,0,none⟩)] w fun e w'=>e = .returned (.int .i64 0)∧zA (fun y=>y=L.c) w w'∧MkIn w' m L { M with K:=M.K.go }:=by
 have HV:=zC (mvalid m L M w h)
 have HE:=zC (mended m L M w h)
 rw [show decide (4≤M.K.ph)=true by simp;omega] at HE
 have HG:=zC (phGo_ok L.c M.K w h.clk (by omega) (fun h=>by omega) hcy)
 have HM:=zC (fun (w':World) (hk:zA (fun y=>y=L.c) w w') hK=>h.setC (K:=M.K.go) rfl hk hK)
 have HPH:=zC (fun (w':World) (h':CkAt w' L.c M.K.go)=>phPhase L.c M.K.go w' h')
 rw [show M.K.go.ph=5 by simp [Ck.go,hp]] at HPH
 obtain⟨c0,c1,c2,c3,c4,c5,cl⟩:=zY h.own
 clear h hp hcy
 go_in
 go_wp2_with (first | (go_at_call 79;refine HV.out.mono ?_;rintro e w' ⟨rfl,h'⟩;obtain rfl:=h'.symm) | (go_at_call 258;refine HE.out.mono ?_;rintro e w' ⟨rfl,h'⟩;obtain rfl:=h'.symm) | fail)
 refine HG.out.mono ?_
 rintro e w1 ⟨rfl,hk1,hK1⟩
 have HM1:=zC (HM.out _ hk1 hK1)
 have HP1:=zC (HPH.out _ hK1)
 have HK1:=zC hk1
 obtain⟨d0,d1,d2,d3,d4,d5,dl⟩:=zY HM1.out.own
 clear hk1 hK1 c0 c1 c2 c3 c4 c5
 go_wp2_with fail
 refine zP HP1.out ?_
 go_wp2_with fail
 go_ret
 exact⟨rfl,HK1.out,HM1.out⟩
end Go.Proofs.YtjfmagccmjdhoaaGreat
namespace Go.Proofs.YtjfmagccmjdhoaaGreat
open Go.RowKit
structure Duo (w0 w:World) (a m:Nat) (LA:ArL) (LM:MkL) (A:Ar) (M:Mk):Prop where
 ar:ArIn w a LA A
 mm:MkIn w m LM M
 kp:Kz w0 w
 sep:∃ l1 h1 l2 h2,w0.heap.size≤l1∧w0.heap.size≤l2∧(h1≤l2∨h2≤l1)∧LA.Btw a A.many l1 h1∧LM.Btw m M.K.many l2 h2
theorem Duo.same {w0 w w':World} {a m:Nat} {LA:ArL} {LM:MkL} {A:Ar} {M:Mk} (h:Duo w0 w a m LA LM A M) (hk:Kz w w'):Duo w0 w' a m LA LM A M:=
 ⟨h.ar.keeps0 hk,h.mm.keeps0 hk,h.kp.trans hk,h.sep⟩
theorem Duo.hsep {w0 w:World} {a m:Nat} {LA:ArL} {LM:MkL} {A:Ar} {M:Mk} {S:Nat→Prop} (h:Duo w0 w a m LA LM A M) (hS:∀ y,S y→LM.foot M.K.many y) {W W':World} (hA:ArIn W a LA A) (hk:zA S W W'):ArIn W' a LA A:=by
 obtain⟨h1,h2,h3,l1,u1,l2,u2,e1,e2,e3,ba,bm⟩:=h
 have hr:∀ y,S y→l2≤y∧y<u2:=by
  intro y hy
  rcases hS y hy with rfl | rfl | rfl | ⟨k,hk,rfl⟩
  ·exact bm.c
  ·exact bm.p
  ·exact bm.s
  ·exact bm.bb k hk
 refine hA.keeps hk ?_ ?_ ?_ ?_ ?_ ?_
 ·intro h;have:=hr _ h;have:=ba.a;omega
 ·intro h;have:=hr _ h;have:=ba.o;omega
 ·intro h;have:=hr _ h;have:=ba.b;omega
 ·intro h;have:=hr _ h;have:=ba.t;omega
 ·intro h;have:=hr _ h;have:=ba.g;omega
 ·intro j hj h;have:=hr _ h;have:=ba.ss j hj;omega
theorem Duo.marker {w0 w w':World} {a m:Nat} {LA:ArL} {LM:MkL} {A:Ar} {M M':Mk} {S:Nat→Prop} (h:Duo w0 w a m LA LM A M) (hk:zA S w w') (hS:∀ y,S y→LM.foot M.K.many y) (hm:MkIn w' m LM M') (hK:M'.K.many=M.K.many):Duo w0 w' a m LA LM A M':=by
 have ha:=h.hsep hS h.ar hk
 obtain⟨h1,h2,h3,l1,u1,l2,u2,e1,e2,e3,ba,bm⟩:=h
 refine⟨ha,hm,h3.trans' hk (fun _ _ h=>h) (fun y hy h=>?_),l1,u1,l2,u2,e1,e2,e3,ba,by rw [hK];exact bm⟩
 rcases hS y h with rfl | rfl | rfl | ⟨k,hk,rfl⟩
 ·have:=bm.c.1;omega
 ·have:=bm.p.1;omega
 ·have:=bm.s.1;omega
 ·have:=(bm.bb k hk).1;omega
theorem Duo.new {w0 w1 w2:World} {a m:Nat} {LM:MkL} {A:Ar} {M:Mk} (k1:Kz w0 w1) (ha:ArAt w1 a w0.heap.size w1.heap.size A) (k2:Kz w1 w2) (hm:MkIn w2 m LM M) (bm:LM.Btw m M.K.many w1.heap.size w2.heap.size):
 ∃ LA,Duo w0 w2 a m LA LM A M:=by
 obtain⟨LA,ha,ba⟩:=ha
 exact⟨LA,ha.keeps0 k2,hm,k1.trans k2,_,_,_,_,Nat.le_refl _,k1.size,.inl (Nat.le_refl _),ba,bm⟩
section
variable {w0 w:World} {a m:Nat} {LA:ArL} {LM:MkL} {A:Ar} {M:Mk}
end
theorem wf1:(Ar.new 4 1 1).H.T.inn 0 (Ar.new 4 1 1).H.T.n=(0,1) :: [(1,1),(2,1),(3,1)]:=rfl
end Go.Proofs.YtjfmagccmjdhoaaGreat
