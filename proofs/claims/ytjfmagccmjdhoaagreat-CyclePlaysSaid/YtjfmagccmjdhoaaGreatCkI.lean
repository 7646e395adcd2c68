import Derived.Test.YtjfmagccmjdhoaaGreatCkC
import Derived.Test.YtjfmagccmjdhoaaGreatCkH
set_option maxHeartbeats 4000000
set_option maxRecDepth 100000
namespace Go.Proofs.YtjfmagccmjdhoaaGreat
open Go.RowKit
section
variable {F F':Nat→Prop} {w0 w w':World} {a m x y qq b z t:Nat} {LA:ArL} {LM:MkL} {A:Ar} {M:Mk} {k k':Col} {f:List Rf}
theorem Dc.app {v v':Value} {l:List Rf} (h:Dc F w0 w a m LA LM x y A M qq b z k) (hr:Row w w0.heap.size v l) (hF:∀ g,v.ownBlock=some g→F g) (hk:zA (fun g=>v.ownBlock=some g) w w') (ho:v'.ownBlock=v.ownBlock∨∀ g,v'.ownBlock=some g→w.heap.size≤g) (hlt:∀ g,v'.ownBlock=some g→g<w'.heap.size):
 Dc (fun g=>F g∨v'.ownBlock=some g) w0 w' a m LA LM x y A M qq b z k:=by
 have hfo:=Fo.addF (F':=fun g=>F g∨v'.ownBlock=some g) h.fd (fun g hg=>hg.elim .inl (fun e=>ho.elim (fun e2=>.inl (hF g (e2 ▸ e))) (fun e2=>.inr (e2 g e))))
 have hl:∀ g,(F g∨v'.ownBlock=some g)→g<w'.heap.size:=fun g hg=>hg.elim (fun e=>Nat.lt_of_lt_of_le (h.lt g e) hk.size) (hlt g)
 rcases hr.2 with⟨rfl,_⟩ | ⟨g,cap,cur,rfl,hb,hg,_⟩
 ·have k0:Kz w w':=hk.mono (fun _ _ e=>by cases e)
  exact⟨Fo.quiet hfo k0,zB h.sw k0 (fun h=>h),h.hb,zB h.cy k0 (fun h=>h),h.hz,hl⟩
 ·have k1:zA (fun u=>u=g) w w':=hk.mono (fun u _ e=>(Option.some.inj e).symm)
  exact⟨Fo.box hfo k1 hg hb (.inl (hF g rfl)),zB h.sw k1 (zM h.sw hg (by decide)),h.hb,zB h.cy k1 (zM h.cy hg (by decide)),h.hz,hl⟩
theorem Dc.twin {cs:Array Value} (h:Dc F w0 w a m LA LM x y A M qq b z k) (hx:w.heap[t]?=some (.cells cs 66)) (hN:w0.heap.size≤t) (hk:zA (fun u=>u=t) w w'):Dc F w0 w' a m LA LM x y A M qq b z k:=by
 obtain⟨LR,h1,h2,h4⟩:=h.fd.doc
 have ty:∀ u c T,w.heap[u]?=some (.cells c T)→u=t→T=66:=fun u c T hu e=>by
  subst e;rw [hx] at hu;simp at hu;exact hu.2.symm
 exact⟨⟨h.fd.du.other hk (fun u e=>by have e':u=t:=e;omega) (fun u c T hu e=>by rw [ty u c T hu e];decide),h.fd.lx,⟨LR,h1,h2.keeps hk (fun u c T hu ht e=>by rw [ty u c T hu e] at ht;revert ht;decide),h4⟩,h.fd.d.other hk (fun u c T hu e=>by rw [ty u c T hu e];decide)⟩,zB h.sw hk (zM h.sw hx (by decide)),h.hb,zB h.cy hk (zM h.cy hx (by decide)),h.hz,fun v hv=>Nat.lt_of_lt_of_le (h.lt v hv) hk.size⟩
theorem Row.not_twin {base u:Nat} {v:Value} {l:List Rf} {cs:Array Value} (h:Row w base v l) (hx:w.heap[u]?=some (.cells cs 66)):¬ v.ownBlock=some u:=by
 intro e
 rcases h.2 with⟨rfl,_⟩ | ⟨g,cap,cur,rfl,hb,hg,_⟩
 ·cases e
 ·exact zM hx hg (by decide) (Option.some.inj e).symm
theorem tw_put (u:Mv) (h:Tn F w0 w a m LA LM x y A M qq b z t k f) (hok:k.Ok) (hu:u.Byte) (hk:u.kind % 16=7∨u.kind % 16=8):TwTo F w0 w a m LA LM x y A M qq b z t u ⟨(u.mo26 k.s).doR k.s,k.C⟩:=by
 have hmany:=hok.s.m.k1;have hm4:=hok.s.m.k4
 obtain⟨hb0,hb1,hb2,hb3,hb4⟩:=hu
 have hz:¬ (k.s.M.K.many:Int)=0:=by omega
 obtain⟨mk,hmk⟩:∃ mk,u.m % k.s.M.K.many=mk:=⟨_,rfl⟩
 have hmkl:mk<k.s.M.K.many:=by rw [← hmk];exact Nat.mod_lt _ (by omega)
 have HMOD:=zC (show (u.m:Int) % (k.s.M.K.many:Int)=(mk:Int) by rw [← hmk];simp)
 obtain⟨n,hn⟩:∃ n,(k.s.A.rt mk).l.length=n:=⟨_,rfl⟩
 have hn2:(k.s.A.rt mk).n=n:=by rw [← hn];simp [Sk.l]
 obtain⟨wA,hwA⟩:∃ wA,w.alloc (.cells #[.int .u8 u.kind,.int .u8 u.m,.int .u8 u.a,.int .u8 u.b,.int .u8 u.c] 42)=wA:=⟨_,rfl⟩
 have kA:Kz w wA:=by rw [← hwA];exact (zA.refl _ _).alloc _
 have qA:wA.heap[w.heap.size]?=some (.cells #[.int .u8 u.kind,.int .u8 u.m,.int .u8 u.a,.int .u8 u.b,.int .u8 u.c] 42):=by rw [← hwA];exact zE
 obtain⟨v,hown,_,_⟩:=h.ex
 have HCF:=zC (fun W (hk:zA (Dt wA w0.heap.size) wA W)=>And.intro (cells5 (Dt.block hk qA (by decide))) (qB (Dt.block hk (zB hown kA (fun h=>h)) (by decide))))
 have HSZ:=zC (fun W (hk:Kz w W)=>(h.dc.quiet hk).wk.sizes)
 have HSA:=zC (fun W (hk:Kz w W)=>(h.dc.quiet hk).wk.stack mk (by rw [hok.s.k];exact hmkl))
 rw [hok.s.n,hok.s.k] at HSZ
 have HQU:=zC (fun W (hk:Kz w W)=>h.dc.quiet hk)
 have HI:=zC (fun (q:Nat) (hq:q<256) W=>index26 q n W hq)
 have hw0:=zF qA
 have HKA:=zC kA;have HWA:=zC hwA;have HN:=zC hn;have HOK:=zC hok;have HMK:=zC hmk;have HN2:=zC hn2;have HMKL:=zC hmkl
 obtain⟨⟨y0,y1,y2,y3,y4,yl⟩,⟨x0,x1,x2,xl⟩⟩:=HCF.out wA (zA.refl _ _)
 clear hn hn2 hmk kA hwA qA hown h hok hmkl hmany
 obtain⟨j,hmo,hj⟩:∃ j:Int,(u.mo26 k.s).doR k.s=Sys.told (k.s.A.putR mk j (u.b % 8:Nat)) k.s mk∧(((u.kind:Int) % 16=7∧j=(idx u.a n:Nat))∨((u.kind:Int) % 16=8∧j=-1)):=by
  rcases hk with hk | hk
  ·exact⟨_,by (have:u.mo26 k.s = .put mk (idx u.a n:Nat) (u.b % 8:Nat):=by unfold Mv.mo26;dsimp only;rw [hk,HMK.out,HN2.out];rfl);rw [this];rfl,.inl ⟨by omega,rfl⟩⟩
  ·exact⟨_,by (have:u.mo26 k.s = .put mk (-1) (u.b % 8:Nat):=by unfold Mv.mo26;dsimp only;rw [hk,HMK.out];rfl);rw [this];rfl,.inr ⟨by omega,rfl⟩⟩
 rw [hmo]
 have HA:=zC (fun W (hk:Kz w W)=>dcput (HQU.out W hk) mk j (u.b % 8:Nat))
 unfold Sys.told
 obtain⟨R,hR⟩:∃ R,k.s.A.putR mk j (u.b % 8:Nat)=R:=⟨_,rfl⟩
 rw [hR] at HA ⊢
 have HWR:=zC (fun W (hq:Dc F w0 W a m LA LM x y A M qq b z ⟨⟨R.A,k.s.M⟩,k.C⟩)=>dcwrote hq mk R.was R.now)
 obtain⟨T,hT⟩:∃ T,(if R.e=0 then (k.s.M.wroteR mk R.was R.now).1 else k.s.M)=T:=⟨_,rfl⟩
 have HT:=zC hT
 rw [hT]
 clear hk hmo hR hT
 unfold TwTo
 rcases hj with⟨hki,rfl⟩ | ⟨hki,rfl⟩
 all_goals
  have hkt:(u.kind:Int).tmod 16=(u.kind:Int) % 16:=Int.tmod_eq_emod_of_nonneg (by omega)
  rw [hki] at hkt
  unfold Mv.val
  go_in
  go_upto_region 1 with (fail)
  rw [HWA.out]
  go_wp2_with fail
  refine zQ (HSZ.out _ HKA.out) fun w1 k1=>?_
  have HK1:=zC (HKA.out.trans k1)
  obtain⟨⟨z0,z1,z2,z3,z4,zl⟩,⟨u0,u1,u2,ul⟩⟩:=HCF.out w1 k1.up
  have HK1A:=zC k1
  clear k1 y0 y1 y2 y3 y4 yl x0 x1 x2 xl
  go_wp2_with fail
  rw [HMOD.out]
  refine (HSA.out _ HK1.out).mono ?_
  rintro e w2 ⟨v5,rfl,hr5,k2⟩
  have hsh:=zW hr5
  obtain⟨p5,c5,hv5⟩:=hsh
  obtain rfl:=hv5
  have HK2:=zC (HK1.out.trans k2)
  obtain⟨⟨y0,y1,y2,y3,y4,yl⟩,⟨x0,x1,x2,xl⟩⟩:=HCF.out w2 (HK1A.out.trans k2).up
  have HK2A:=zC (HK1A.out.trans k2)
  clear k2 hr5 z0 z1 z2 z3 z4 zl u0 u1 u2 ul
  rw [HN.out]
  go_wp2_with fail
  go_quiet (first | (go_at_call 32;refine (HI.out _ (by assumption) _).mono ?_;rintro e w' ⟨rfl,rfl⟩;exact⟨rfl,_,rfl⟩))
  obtain⟨wq,hwq⟩:∃ wq,w2.drewN nq=wq:=⟨_,rfl⟩
  rw [hwq]
  have kq:Kz w2 wq:=by rw [← hwq];exact (zA.refl _ _).drewN _
  obtain⟨⟨z0,z1,z2,z3,z4,zl⟩,⟨u0,u1,u2,ul⟩⟩:=HCF.out wq (HK2A.out.trans kq).up
  have HKQ:=zC (HK2.out.trans kq)
  have HKQA:=zC (HK2A.out.trans kq)
  clear hwq kq y0 y1 y2 y3 y4 yl x0 x1 x2 xl HK2 HK2A
  go_wp2_with fail
  go_quiet (fail)
  obtain⟨wz,hwz⟩:∃ wz,wq.drewN nq=wz:=⟨_,rfl⟩
  rw [hwz]
  have kq:Kz wq wz:=by rw [← hwz];exact (zA.refl _ _).drewN _
  obtain⟨⟨y0,y1,y2,y3,y4,yl⟩,⟨x0,x1,x2,xl⟩⟩:=HCF.out wz (HKQA.out.trans kq).up
  have HK2:=zC (HKQ.out.trans kq)
  have HK2A:=zC (HKQA.out.trans kq)
  clear hwz kq z0 z1 z2 z3 z4 zl u0 u1 u2 ul HKQ HKQA
  go_wp2_with fail
  refine (HA.out _ (zA.q HK2.out)).mono ?_
  rintro e w3 ⟨rfl,hq3,hk3⟩
  dsimp only [Rf.val]
  have HK3:=zC (show zA (Dt w w0.heap.size) w w3 from Dt.trans (zA.up (zA.q HK2.out)) hk3)
  have HKA3:=zC (show zA (Dt wA w0.heap.size) wA w3 from Dt.trans (zA.up (zA.q HK2A.out)) hk3)
  obtain⟨w4,hw4⟩:∃ w4,(w3.alloc (.cells #[.int .i64 R.was.s,.int .u32 R.was.g] 51)).alloc (.cells #[.int .i64 R.now.s,.int .u32 R.now.g] 51)=w4:=⟨_,rfl⟩
  have k4:Kz w3 w4:=by rw [← hw4];exact ((zA.refl _ _).alloc _).alloc _
  have b4:w4.heap[w3.heap.size]?=some (.cells #[.int .i64 R.was.s,.int .u32 R.was.g] 51):=by rw [← hw4];exact zG zE
  have d4:w4.heap[w3.heap.size+1]?=some (.cells #[.int .i64 R.now.s,.int .u32 R.now.g] 51):=by rw [← hw4];exact zN (by simp)
  have HQ4:=zC (hq3.quiet k4);have HK4:=zC (Dt.trans HK3.out k4.up);have HW4:=zC hw4
  have hz3:=HK3.out.size
  have HHS:=zC (fun W (hk:zA (Dt w4 w0.heap.size) w4 W)=>And.intro (HCF.out W (Dt.trans HKA3.out (Dt.trans k4.up hk))).2.2.1 (And.intro (zK (Dt.block hk b4 (by decide))).1 (And.intro (zK (Dt.block hk b4 (by decide))).2.1 (And.intro (zK (Dt.block hk d4 (by decide))).1 (zK (Dt.block hk d4 (by decide))).2.1))))
  have HMR:=zC (fun W (hk:Kz w4 W)=>ccmarker (HQ4.out.quiet hk))
  clear hq3 hk3 k4 b4 d4 hw4 y0 y1 y2 y3 y4 yl x0 x1 x2 xl
  by_cases he:R.e=0
  ·have he1:(R.e == 0)=true:=by simpa using he
   have hT0:(k.s.M.wroteR mk R.was R.now).1=T:=by have:=HT.out;rwa [if_pos he] at this
   rw [hT0] at HWR
   clear he hT0
   go_upto_region 42 with (fail)
   rw [HW4.out]
   go_region_held3 (fun W=>W.cell? ⟨t,1,none⟩=some (.pointer (some ⟨z,0,none⟩))∧W.cell? ⟨w3.heap.size,0,none⟩=some (.int .i64 R.was.s)∧W.cell? ⟨w3.heap.size,1,none⟩=some (.int .u32 R.was.g)∧W.cell? ⟨w3.heap.size+1,0,none⟩=some (.int .i64 R.now.s)∧W.cell? ⟨w3.heap.size+1,1,none⟩=some (.int .u32 R.now.g))
    ((refine HHS.out _ ?_;(with_reducible repeat first | exact zA.refl _ _ | refine zA.drewN ?_ _ | refine zA.drew ?_ | refine Dt.trans ?_ (by with_reducible assumption))))
    (first
     | (go_at_call 45;refine (HMR.out _ zA.r).mono ?_;rintro e w5 ⟨rfl,rfl⟩)
     | (go_at_call 49;refine (HWR.out _ (HQ4.out.quiet zA.r)).mono ?_;rintro e w6 ⟨rfl,hq6,hk6⟩))
   all_goals
    go_wp2_with fail
    go_end0
    exact⟨rfl,hq6,Dt.trans HK4.out (Dt.trans (zA.up zA.r) hk6)⟩
  ·have he1:(R.e == 0)=false:=by simpa using he
   have hT0:k.s.M=T:=by have:=HT.out;rwa [if_neg he] at this
   have HQT:=zC (show Dc F w0 w4 a m LA LM x y A M qq b z ⟨⟨R.A,T⟩,k.C⟩ by rw [← hT0];exact HQ4.out)
   clear he hT0
   go_wp2_with fail
   rw [HW4.out]
   go_end0
   exact⟨rfl,HQT.out,HK4.out⟩
theorem tw_store (u:Mv) (h:Tn F w0 w a m LA LM x y A M qq b z t k f) (hok:k.Ok) (hu:u.Byte) (hk:u.kind % 16=3∨u.kind % 16=4∨u.kind % 16=5):TwTo F w0 w a m LA LM x y A M qq b z t u ⟨(u.mo26 k.s).doR k.s,k.C⟩:=by
 have hmany:=hok.s.m.k1;have hm4:=hok.s.m.k4
 obtain⟨hb0,hb1,hb2,hb3,hb4⟩:=hu
 have hz:¬ (k.s.M.K.many:Int)=0:=by omega
 obtain⟨mk,hmk⟩:∃ mk,u.m % k.s.M.K.many=mk:=⟨_,rfl⟩
 have hmkl:mk<k.s.M.K.many:=by rw [← hmk];exact Nat.mod_lt _ (by omega)
 have HMOD:=zC (show (u.m:Int) % (k.s.M.K.many:Int)=(mk:Int) by rw [← hmk];simp)
 obtain⟨n,hn⟩:∃ n,(k.s.A.rt mk).l.length=n:=⟨_,rfl⟩
 have hn2:(k.s.A.rt mk).n=n:=by rw [← hn];simp [Sk.l]
 obtain⟨wA,hwA⟩:∃ wA,w.alloc (.cells #[.int .u8 u.kind,.int .u8 u.m,.int .u8 u.a,.int .u8 u.b,.int .u8 u.c] 42)=wA:=⟨_,rfl⟩
 have kA:Kz w wA:=by rw [← hwA];exact (zA.refl _ _).alloc _
 have qA:wA.heap[w.heap.size]?=some (.cells #[.int .u8 u.kind,.int .u8 u.m,.int .u8 u.a,.int .u8 u.b,.int .u8 u.c] 42):=by rw [← hwA];exact zE
 obtain⟨v,hown,_,_⟩:=h.ex
 have HCF:=zC (fun W (hk:zA (Dt wA w0.heap.size) wA W)=>And.intro (cells5 (Dt.block hk qA (by decide))) (qB (Dt.block hk (zB hown kA (fun h=>h)) (by decide))))
 have HSZ:=zC (fun W (hk:Kz w W)=>(h.dc.quiet hk).wk.sizes)
 have HSA:=zC (fun W (hk:Kz w W)=>(h.dc.quiet hk).wk.stack mk (by rw [hok.s.k];exact hmkl))
 rw [hok.s.n,hok.s.k] at HSZ
 have HQU:=zC (fun W (hk:Kz w W)=>h.dc.quiet hk)
 have HI:=zC (fun (q:Nat) (hq:q<256) W=>index26 q n W hq)
 have hw0:=zF qA
 have HKA:=zC kA;have HWA:=zC hwA;have HN:=zC hn;have HOK:=zC hok;have HMK:=zC hmk;have HN2:=zC hn2;have HMKL:=zC hmkl
 obtain⟨⟨y0,y1,y2,y3,y4,yl⟩,⟨x0,x1,x2,xl⟩⟩:=HCF.out wA (zA.refl _ _)
 clear hn hn2 hmk kA hwA qA hown h hok hmkl hmany
 obtain⟨j,hmo,hj⟩:∃ j:Int,(u.mo26 k.s).doR k.s=Sys.told (k.s.A.storeR mk (idx u.a n:Nat) (u.b % 4:Nat) j) k.s mk∧(((u.kind:Int) % 16=3∧j=(idx u.c n:Nat))∨((u.kind:Int) % 16=4∧j=(idx u.c n:Nat))∨((u.kind:Int) % 16=5∧j=-1)):=by
  rcases hk with hk | hk | hk
  ·exact⟨_,by (have:u.mo26 k.s = .store mk (idx u.a n:Nat) (u.b % 4:Nat) (idx u.c n:Nat):=by unfold Mv.mo26;dsimp only;rw [hk,HMK.out,HN2.out];rfl);rw [this];rfl,.inl ⟨by omega,rfl⟩⟩
  ·exact⟨_,by (have:u.mo26 k.s = .store mk (idx u.a n:Nat) (u.b % 4:Nat) (idx u.c n:Nat):=by unfold Mv.mo26;dsimp only;rw [hk,HMK.out,HN2.out];rfl);rw [this];rfl,.inr (.inl ⟨by omega,rfl⟩)⟩
  ·exact⟨_,by (have:u.mo26 k.s = .store mk (idx u.a n:Nat) (u.b % 4:Nat) (-1):=by unfold Mv.mo26;dsimp only;rw [hk,HMK.out,HN2.out];rfl);rw [this];rfl,.inr (.inr ⟨by omega,rfl⟩)⟩
 rw [hmo]
 have HA:=zC (fun W (hk:Kz w W)=>dcstore (HQU.out W hk) mk (idx u.a n:Nat) (u.b % 4:Nat) j)
 unfold Sys.told
 obtain⟨R,hR⟩:∃ R,k.s.A.storeR mk (idx u.a n:Nat) (u.b % 4:Nat) j=R:=⟨_,rfl⟩
 rw [hR] at HA ⊢
 have HWR:=zC (fun W (hq:Dc F w0 W a m LA LM x y A M qq b z ⟨⟨R.A,k.s.M⟩,k.C⟩)=>dcwrote hq mk R.was R.now)
 obtain⟨T,hT⟩:∃ T,(if R.e=0 then (k.s.M.wroteR mk R.was R.now).1 else k.s.M)=T:=⟨_,rfl⟩
 have HT:=zC hT
 rw [hT]
 clear hk hmo hR hT
 unfold TwTo
 rcases hj with⟨hki,rfl⟩ | ⟨hki,rfl⟩ | ⟨hki,rfl⟩
 all_goals
  have hkt:(u.kind:Int).tmod 16=(u.kind:Int) % 16:=Int.tmod_eq_emod_of_nonneg (by omega)
  rw [hki] at hkt
  unfold Mv.val
  go_in
  go_upto_region 1 with (fail)
  rw [HWA.out]
  go_wp2_with fail
  refine zQ (HSZ.out _ HKA.out) fun w1 k1=>?_
  have HK1:=zC (HKA.out.trans k1)
  obtain⟨⟨z0,z1,z2,z3,z4,zl⟩,⟨u0,u1,u2,ul⟩⟩:=HCF.out w1 k1.up
  have HK1A:=zC k1
  clear k1 y0 y1 y2 y3 y4 yl x0 x1 x2 xl
  go_wp2_with fail
  rw [HMOD.out]
  refine (HSA.out _ HK1.out).mono ?_
  rintro e w2 ⟨v5,rfl,hr5,k2⟩
  have hsh:=zW hr5
  obtain⟨p5,c5,hv5⟩:=hsh
  obtain rfl:=hv5
  have HK2:=zC (HK1.out.trans k2)
  obtain⟨⟨y0,y1,y2,y3,y4,yl⟩,⟨x0,x1,x2,xl⟩⟩:=HCF.out w2 (HK1A.out.trans k2).up
  have HK2A:=zC (HK1A.out.trans k2)
  clear k2 hr5 z0 z1 z2 z3 z4 zl u0 u1 u2 ul
  rw [HN.out]
  go_wp2_with fail
  go_quiet (first | (go_at_call 32;refine (HI.out _ (by assumption) _).mono ?_;rintro e w' ⟨rfl,rfl⟩;exact⟨rfl,_,rfl⟩))
  obtain⟨wq,hwq⟩:∃ wq,w2.drewN nq=wq:=⟨_,rfl⟩
  rw [hwq]
  have kq:Kz w2 wq:=by rw [← hwq];exact (zA.refl _ _).drewN _
  obtain⟨⟨z0,z1,z2,z3,z4,zl⟩,⟨u0,u1,u2,ul⟩⟩:=HCF.out wq (HK2A.out.trans kq).up
  have HKQ:=zC (HK2.out.trans kq)
  have HKQA:=zC (HK2A.out.trans kq)
  clear hwq kq y0 y1 y2 y3 y4 yl x0 x1 x2 xl HK2 HK2A
  go_wp2_with fail
  go_quiet (fail)
  obtain⟨wz,hwz⟩:∃ wz,wq.drewN nq=wz:=⟨_,rfl⟩
  rw [hwz]
  have kq:Kz wq wz:=by rw [← hwz];exact (zA.refl _ _).drewN _
  obtain⟨⟨y0,y1,y2,y3,y4,yl⟩,⟨x0,x1,x2,xl⟩⟩:=HCF.out wz (HKQA.out.trans kq).up
  have HK2:=zC (HKQ.out.trans kq)
  have HK2A:=zC (HKQA.out.trans kq)
  clear hwz kq z0 z1 z2 z3 z4 zl u0 u1 u2 ul HKQ HKQA
  go_wp2_with fail
  refine (HA.out _ (zA.q HK2.out)).mono ?_
  rintro e w3 ⟨rfl,hq3,hk3⟩
  dsimp only [Rf.val]
  have HK3:=zC (show zA (Dt w w0.heap.size) w w3 from Dt.trans (zA.up (zA.q HK2.out)) hk3)
  have HKA3:=zC (show zA (Dt wA w0.heap.size) wA w3 from Dt.trans (zA.up (zA.q HK2A.out)) hk3)
  obtain⟨w4,hw4⟩:∃ w4,(w3.alloc (.cells #[.int .i64 R.was.s,.int .u32 R.was.g] 51)).alloc (.cells #[.int .i64 R.now.s,.int .u32 R.now.g] 51)=w4:=⟨_,rfl⟩
  have k4:Kz w3 w4:=by rw [← hw4];exact ((zA.refl _ _).alloc _).alloc _
  have b4:w4.heap[w3.heap.size]?=some (.cells #[.int .i64 R.was.s,.int .u32 R.was.g] 51):=by rw [← hw4];exact zG zE
  have d4:w4.heap[w3.heap.size+1]?=some (.cells #[.int .i64 R.now.s,.int .u32 R.now.g] 51):=by rw [← hw4];exact zN (by simp)
  have HQ4:=zC (hq3.quiet k4);have HK4:=zC (Dt.trans HK3.out k4.up);have HW4:=zC hw4
  have hz3:=HK3.out.size
  have HHS:=zC (fun W (hk:zA (Dt w4 w0.heap.size) w4 W)=>And.intro (HCF.out W (Dt.trans HKA3.out (Dt.trans k4.up hk))).2.2.1 (And.intro (zK (Dt.block hk b4 (by decide))).1 (And.intro (zK (Dt.block hk b4 (by decide))).2.1 (And.intro (zK (Dt.block hk d4 (by decide))).1 (zK (Dt.block hk d4 (by decide))).2.1))))
  have HMR:=zC (fun W (hk:Kz w4 W)=>ccmarker (HQ4.out.quiet hk))
  clear hq3 hk3 k4 b4 d4 hw4 y0 y1 y2 y3 y4 yl x0 x1 x2 xl
  by_cases he:R.e=0
  ·have he1:(R.e == 0)=true:=by simpa using he
   have hT0:(k.s.M.wroteR mk R.was R.now).1=T:=by have:=HT.out;rwa [if_pos he] at this
   rw [hT0] at HWR
   clear he hT0
   go_upto_region 33 with (fail)
   rw [HW4.out]
   go_region_held3 (fun W=>W.cell? ⟨t,1,none⟩=some (.pointer (some ⟨z,0,none⟩))∧W.cell? ⟨w3.heap.size,0,none⟩=some (.int .i64 R.was.s)∧W.cell? ⟨w3.heap.size,1,none⟩=some (.int .u32 R.was.g)∧W.cell? ⟨w3.heap.size+1,0,none⟩=some (.int .i64 R.now.s)∧W.cell? ⟨w3.heap.size+1,1,none⟩=some (.int .u32 R.now.g))
    ((refine HHS.out _ ?_;(with_reducible repeat first | exact zA.refl _ _ | refine zA.drewN ?_ _ | refine zA.drew ?_ | refine Dt.trans ?_ (by with_reducible assumption))))
    (first
     | (go_at_call 45;refine (HMR.out _ zA.r).mono ?_;rintro e w5 ⟨rfl,rfl⟩)
     | (go_at_call 49;refine (HWR.out _ (HQ4.out.quiet zA.r)).mono ?_;rintro e w6 ⟨rfl,hq6,hk6⟩))
   all_goals
    go_wp2_with fail
    go_end0
    exact⟨rfl,hq6,Dt.trans HK4.out (Dt.trans (zA.up zA.r) hk6)⟩
  ·have he1:(R.e == 0)=false:=by simpa using he
   have hT0:k.s.M=T:=by have:=HT.out;rwa [if_neg he] at this
   have HQT:=zC (show Dc F w0 w4 a m LA LM x y A M qq b z ⟨⟨R.A,T⟩,k.C⟩ by rw [← hT0];exact HQ4.out)
   clear he hT0
   go_wp2_with fail
   rw [HW4.out]
   go_end0
   exact⟨rfl,HQT.out,HK4.out⟩
theorem tw_make (u:Mv) (h:Tn F w0 w a m LA LM x y A M qq b z t k f) (hok:k.Ok) (hu:u.Byte) (hk:u.kind % 16=0∨u.kind % 16=1):TwTo F w0 w a m LA LM x y A M qq b z t u ⟨(u.mo26 k.s).doR k.s,k.C⟩:=by
 have HDC:=zC h.dc
 have hmany:=hok.s.m.k1;have hm4:=hok.s.m.k4
 obtain⟨hb0,hb1,hb2,hb3,hb4⟩:=hu
 have hz:¬ (k.s.M.K.many:Int)=0:=by omega
 obtain⟨mk,hmk⟩:∃ mk,u.m % k.s.M.K.many=mk:=⟨_,rfl⟩
 have hmkl:mk<k.s.M.K.many:=by rw [← hmk];exact Nat.mod_lt _ (by omega)
 have HMOD:=zC (show (u.m:Int) % (k.s.M.K.many:Int)=(mk:Int) by rw [← hmk];simp)
 obtain⟨n,hn⟩:∃ n,(k.s.A.rt mk).l.length=n:=⟨_,rfl⟩
 have hn2:(k.s.A.rt mk).n=n:=by rw [← hn];simp [Sk.l]
 obtain⟨wA,hwA⟩:∃ wA,w.alloc (.cells #[.int .u8 u.kind,.int .u8 u.m,.int .u8 u.a,.int .u8 u.b,.int .u8 u.c] 42)=wA:=⟨_,rfl⟩
 have kA:Kz w wA:=by rw [← hwA];exact (zA.refl _ _).alloc _
 have qA:wA.heap[w.heap.size]?=some (.cells #[.int .u8 u.kind,.int .u8 u.m,.int .u8 u.a,.int .u8 u.b,.int .u8 u.c] 42):=by rw [← hwA];exact zE
 obtain⟨v,hown,_,_⟩:=h.ex
 have HCF:=zC (fun W (hk:zA (Dt wA w0.heap.size) wA W)=>And.intro (cells5 (Dt.block hk qA (by decide))) (qB (Dt.block hk (zB hown kA (fun h=>h)) (by decide))))
 have HSZ:=zC (fun W (hk:Kz w W)=>(h.dc.quiet hk).wk.sizes)
 have HSA:=zC (fun W (hk:Kz w W)=>(h.dc.quiet hk).wk.stack mk (by rw [hok.s.k];exact hmkl))
 rw [hok.s.n,hok.s.k] at HSZ
 have HQU:=zC (fun W (hk:Kz w W)=>h.dc.quiet hk)
 have HI:=zC (fun (q:Nat) (hq:q<256) W=>index26 q n W hq)
 have hw0:=zF qA
 have HKA:=zC kA;have HWA:=zC hwA;have HN:=zC hn;have HOK:=zC hok;have HMK:=zC hmk;have HN2:=zC hn2;have HMKL:=zC hmkl
 obtain⟨⟨y0,y1,y2,y3,y4,yl⟩,⟨x0,x1,x2,xl⟩⟩:=HCF.out wA (zA.refl _ _)
 clear hn hn2 hmk kA hwA qA hown h hok hmkl hmany
 have hw0':=(Fo.du HDC.out.fd).kp.size
 obtain⟨j,hd,hmo,hj⟩:∃ (j:Int) (hd:Bool),(u.mo26 k.s).doR k.s=⟨(k.s.A.makeR mk j hd).A,if (k.s.A.makeR mk j hd).e=0 then (k.s.M.madeR (k.s.A.makeR mk j hd).now).1 else k.s.M⟩∧(((u.kind:Int) % 16=0∧j=(u.a % 5:Nat)∧hd=false)∨((u.kind:Int) % 16=1∧j=0∧hd=true)):=by
  rcases hk with hk | hk
  ·exact⟨_,_,by (have:u.mo26 k.s = .make mk (u.a % 5:Nat) false:=by unfold Mv.mo26;dsimp only;rw [hk,HMK.out];rfl);rw [this];rfl,.inl ⟨by omega,rfl,rfl⟩⟩
  ·exact⟨_,_,by (have:u.mo26 k.s = .make mk 0 true:=by unfold Mv.mo26;dsimp only;rw [hk,HMK.out];rfl);rw [this];rfl,.inr ⟨by omega,rfl,rfl⟩⟩
 rw [hmo]
 have HA:=zC (fun W (hk:Kz w W)=>dcmake (HQU.out W hk) mk j hd)
 have HA2:=zC (fun F2 W (hq:Dc F2 w0 W a m LA LM x y A M qq b z k)=>dcmake hq mk j hd)
 obtain⟨R,hR⟩:∃ R,k.s.A.makeR mk j hd=R:=⟨_,rfl⟩
 rw [hR] at HA HA2 ⊢
 have HWR:=zC (fun W (hq:Dc F w0 W a m LA LM x y A M qq b z ⟨⟨R.A,k.s.M⟩,k.C⟩)=>dcmade hq R.now)
 obtain⟨T,hT⟩:∃ T,(if R.e=0 then (k.s.M.madeR R.now).1 else k.s.M)=T:=⟨_,rfl⟩
 have HT:=zC hT
 rw [hT]
 clear hk hmo hR hT HDC
 unfold TwTo
 rcases hj with⟨hki,rfl,rfl⟩ | ⟨hki,rfl,rfl⟩
 all_goals
  have hkt:(u.kind:Int).tmod 16=(u.kind:Int) % 16:=Int.tmod_eq_emod_of_nonneg (by omega)
  rw [hki] at hkt
  unfold Mv.val
  go_in
  go_upto_region 1 with (fail)
  rw [HWA.out]
  go_wp2_with fail
  refine zQ (HSZ.out _ HKA.out) fun w1 k1=>?_
  have HK1:=zC (HKA.out.trans k1)
  obtain⟨⟨z0,z1,z2,z3,z4,zl⟩,⟨u0,u1,u2,ul⟩⟩:=HCF.out w1 k1.up
  have HK1A:=zC k1
  clear k1 y0 y1 y2 y3 y4 yl x0 x1 x2 xl
  go_wp2_with fail
  rw [HMOD.out]
  refine (HSA.out _ HK1.out).mono ?_
  rintro e w2 ⟨v5,rfl,hr5,k2⟩
  have hsh:=zW hr5
  obtain⟨p5,c5,hv5⟩:=hsh
  obtain rfl:=hv5
  have HK2:=zC (HK1.out.trans k2)
  obtain⟨⟨y0,y1,y2,y3,y4,yl⟩,⟨x0,x1,x2,xl⟩⟩:=HCF.out w2 (HK1A.out.trans k2).up
  have HK2A:=zC (HK1A.out.trans k2)
  clear k2 hr5 z0 z1 z2 z3 z4 zl u0 u1 u2 ul
  rw [HN.out]
  go_wp2_with fail
  go_quiet (first | (go_at_call 32;refine (HI.out _ (by assumption) _).mono ?_;rintro e w' ⟨rfl,rfl⟩;exact⟨rfl,_,rfl⟩))
  obtain⟨wq,hwq⟩:∃ wq,w2.drewN nq=wq:=⟨_,rfl⟩
  rw [hwq]
  have kq:Kz w2 wq:=by rw [← hwq];exact (zA.refl _ _).drewN _
  obtain⟨⟨z0,z1,z2,z3,z4,zl⟩,⟨u0,u1,u2,ul⟩⟩:=HCF.out wq (HK2A.out.trans kq).up
  have HKQ:=zC (HK2.out.trans kq)
  have HKQA:=zC (HK2A.out.trans kq)
  clear hwq kq y0 y1 y2 y3 y4 yl x0 x1 x2 xl HK2 HK2A
  go_wp2_with fail
  go_quiet (fail)
  obtain⟨wz,hwz⟩:∃ wz,wq.drewN nq=wz:=⟨_,rfl⟩
  rw [hwz]
  have kq:Kz wq wz:=by rw [← hwz];exact (zA.refl _ _).drewN _
  obtain⟨⟨y0,y1,y2,y3,y4,yl⟩,⟨x0,x1,x2,xl⟩⟩:=HCF.out wz (HKQA.out.trans kq).up
  have HK2:=zC (HKQ.out.trans kq)
  have HK2A:=zC (HKQA.out.trans kq)
  clear hwz kq z0 z1 z2 z3 z4 zl u0 u1 u2 ul HKQ HKQA
  go_wp2_with fail
  have hzw:=HK2.out.size
  have hzA:=HK2A.out.size
  have HPS:=zC (fun W (hk:zA (Dt wA w0.heap.size) wA W)=>And.intro (HCF.out W hk).2.1 (HCF.out W hk).1.1)
  clear y0 y1 y2 y3 y4 yl x0 x1 x2 xl
  have HD2:=zC (Dc.new (F':=fun v=>F v∨v=wz.heap.size) (HQU.out _ HK2.out) ((zA.refl (fun _=>False) wz).alloc (.cells #[.int .i64 0,.int .u32 0] 51)) (fun v hv=>hv.imp id (fun e=>⟨Nat.le_of_eq e.symm,by rw [e];exact zF zE⟩)))
  go_upto_region 21 with (fail)
  go_region_held3 (fun W=>W.cell? ⟨t,0,none⟩=some (.pointer (some ⟨x,0,none⟩))∧W.cell? ⟨w.heap.size,0,none⟩=some (.int .u8 u.kind))
   ((refine HPS.out _ ?_;(with_reducible repeat first | exact HK2A.out.up | refine zA.alloc ?_ _ | refine zA.drew ?_ | refine zA.setCell ?_ (.inr ?_) _ | refine Dt.trans ?_ hk3) <;> (dsimp only;omega)))
   (first | (go_at_call 44;(first | refine (HA2.out _ _ (HD2.out.quiet (zA.refl _ _).drew)).mono ?_ | refine (HA.out _ HK2.out.drew).mono ?_);rintro e w3 ⟨rfl,hq3,hk3⟩;dsimp only [Rf.val];(first | (have nb:=Dt.block hk3 (show (World.drew (wz.alloc (.cells #[.int .i64 0,.int .u32 0] 51))).heap[wz.heap.size]?=_ from zE) (by decide);have nx:=zK nb;obtain⟨n0,n1,nf,nl⟩:=nx;have nf0:=nf 0;have nf1:=nf 1) | skip)))
  ·obtain⟨w4,hw4⟩:∃ w4,w3.alloc (.cells #[.int .i64 R.now.s,.int .u32 R.now.g] 51)=w4:=⟨_,rfl⟩
   have hB:w4.heap[w3.heap.size]?=some (.cells #[.int .i64 R.now.s,.int .u32 R.now.g] 51):=by rw [← hw4];exact zE
   have hq4:Dc F w0 w4 a m LA LM x y A M qq b z ⟨⟨R.A,k.s.M⟩,k.C⟩:=by rw [← hw4];exact hq3.quiet ((zA.refl _ _).alloc _)
   have hk4:zA (Dt w w0.heap.size) w w4:=by rw [← hw4];exact (Dt.trans HK2.out.drew.up hk3).alloc _
   have hkA4:zA (Dt wA w0.heap.size) wA w4:=by rw [← hw4];exact (Dt.trans HK2A.out.drew.up hk3).alloc _
   have HW4:=zC hw4
   clear hw4 hq3 hk3
   have HQ4:=zC hq4;have HK4:=zC hk4
   have HHS:=zC (fun W (hk:zA (Dt w4 w0.heap.size) w4 W)=>And.intro (HCF.out W (Dt.trans hkA4 hk)).2.2.1 (And.intro (zK (Dt.block hk hB (by decide))).1 (zK (Dt.block hk hB (by decide))).2.1))
   have HMR:=zC (fun W (hk:Kz w4 W)=>ccmarker (HQ4.out.quiet hk))
   clear hq4 hk4 hkA4 hB
   by_cases he:R.e=0
   ·have he1:(R.e == 0)=true:=by simpa using he
    have hT0:(k.s.M.madeR R.now).1=T:=by have:=HT.out;rwa [if_pos he] at this
    rw [hT0] at HWR
    clear he hT0
    go_upto_region 23 with (fail)
    rw [HW4.out]
    go_region_held3 (fun W=>W.cell? ⟨t,1,none⟩=some (.pointer (some ⟨z,0,none⟩))∧W.cell? ⟨w3.heap.size,0,none⟩=some (.int .i64 R.now.s)∧W.cell? ⟨w3.heap.size,1,none⟩=some (.int .u32 R.now.g))
     ((refine HHS.out _ ?_;(with_reducible repeat first | exact zA.refl _ _ | refine zA.drewN ?_ _ | refine zA.drew ?_ | refine Dt.trans ?_ (by with_reducible assumption))))
     (first
      | (go_at_call 45;refine (HMR.out _ zA.r).mono ?_;rintro e w5 ⟨rfl,rfl⟩)
      | (go_at_call 46;refine (HWR.out _ (HQ4.out.quiet zA.r)).mono ?_;rintro e w6 ⟨rfl,hq6,hk6⟩))
    all_goals
     go_wp2_with fail
     go_end0
     exact⟨rfl,hq6,Dt.trans HK4.out (Dt.trans (zA.up zA.r) hk6)⟩
   ·have he1:(R.e == 0)=false:=by simpa using he
    have hT0:k.s.M=T:=by have:=HT.out;rwa [if_neg he] at this
    have HQT:=zC (show Dc F w0 w4 a m LA LM x y A M qq b z ⟨⟨R.A,T⟩,k.C⟩ by rw [← hT0];exact HQ4.out)
    clear he hT0
    go_wp2_with fail
    rw [HW4.out]
    go_end0
    exact⟨rfl,HQT.out,HK4.out⟩
  ·obtain⟨w4,hw4⟩:∃ w4,(w3.setCell ⟨wz.heap.size,0,none⟩ (.int .i64 R.now.s)).setCell ⟨wz.heap.size,1,none⟩ (.int .u32 R.now.g)=w4:=⟨_,rfl⟩
   have hB:w4.heap[wz.heap.size]?=some (.cells #[.int .i64 R.now.s,.int .u32 R.now.g] 51):=by rw [← hw4];exact fin2 nb
   have hkx:zA (fun v=>v=wz.heap.size) w3 w4:=by rw [← hw4];exact (zJ _ _ _ _).trans (zJ _ _ _ _)
   have hq4:Dc F w0 w4 a m LA LM x y A M qq b z ⟨⟨R.A,k.s.M⟩,k.C⟩:=(hq3.box hkx nb (by omega) (.inr rfl)).sub (fun _ h=>.inl h)
   have hk4:zA (Dt w w0.heap.size) w w4:=by rw [← hw4];exact kfin (Dt.trans ((HK2.out.alloc _).drew).up hk3) hzw _ _
   have hkA4:zA (Dt wA w0.heap.size) wA w4:=by rw [← hw4];exact kfin (Dt.trans ((HK2A.out.alloc _).drew).up hk3) hzA _ _
   have HW4:=zC hw4
   clear hw4 hq3 hk3 hkx nb n0 n1 nf nf0 nf1 nl
   have HQ4:=zC hq4;have HK4:=zC hk4
   have HHS:=zC (fun W (hk:zA (Dt w4 w0.heap.size) w4 W)=>And.intro (HCF.out W (Dt.trans hkA4 hk)).2.2.1 (And.intro (zK (Dt.block hk hB (by decide))).1 (zK (Dt.block hk hB (by decide))).2.1))
   have HMR:=zC (fun W (hk:Kz w4 W)=>ccmarker (HQ4.out.quiet hk))
   clear hq4 hk4 hkA4 hB
   by_cases he:R.e=0
   ·have he1:(R.e == 0)=true:=by simpa using he
    have hT0:(k.s.M.madeR R.now).1=T:=by have:=HT.out;rwa [if_pos he] at this
    rw [hT0] at HWR
    clear he hT0
    go_upto_region 23 with (fail)
    rw [HW4.out]
    go_region_held3 (fun W=>W.cell? ⟨t,1,none⟩=some (.pointer (some ⟨z,0,none⟩))∧W.cell? ⟨wz.heap.size,0,none⟩=some (.int .i64 R.now.s)∧W.cell? ⟨wz.heap.size,1,none⟩=some (.int .u32 R.now.g))
     ((refine HHS.out _ ?_;(with_reducible repeat first | exact zA.refl _ _ | refine zA.drewN ?_ _ | refine zA.drew ?_ | refine Dt.trans ?_ (by with_reducible assumption))))
     (first
      | (go_at_call 45;refine (HMR.out _ zA.r).mono ?_;rintro e w5 ⟨rfl,rfl⟩)
      | (go_at_call 46;refine (HWR.out _ (HQ4.out.quiet zA.r)).mono ?_;rintro e w6 ⟨rfl,hq6,hk6⟩))
    all_goals
     go_wp2_with fail
     go_end0
     exact⟨rfl,hq6,Dt.trans HK4.out (Dt.trans (zA.up zA.r) hk6)⟩
   ·have he1:(R.e == 0)=false:=by simpa using he
    have hT0:k.s.M=T:=by have:=HT.out;rwa [if_neg he] at this
    have HQT:=zC (show Dc F w0 w4 a m LA LM x y A M qq b z ⟨⟨R.A,T⟩,k.C⟩ by rw [← hT0];exact HQ4.out)
    clear he hT0
    go_wp2_with fail
    rw [HW4.out]
    go_end0
    exact⟨rfl,HQT.out,HK4.out⟩
end
end Go.Proofs.YtjfmagccmjdhoaaGreat
