import Derived.Test.YtjfmagccmjdhoaaGreatCyJ
import Derived.Test.YtjfmagccmjdhoaaGreatMgW
set_option maxHeartbeats 4000000
set_option maxRecDepth 100000
namespace Go.Proofs.YtjfmagccmjdhoaaGreat
open Go.RowKit
variable {w0 w w':World} {p a m b c:Nat} {LA:ArL} {LM:MkL} {k:Col} {f:List Rf}
theorem Quad.wrote (h:Quad w0 w a m b c LA LM k) (i:Int) (r q:Rf):Calls Tryz.prog 38 #[.pointer (some ⟨m,0,none⟩),.int .i64 i,.agg #[.int .i64 r.s,.int .u32 r.g],.agg #[.int .i64 q.s,.int .u32 q.g]] w
 fun e w'=>e = .returned (.int .i64 (k.s.M.wroteR i r q).2)∧Quad w0 w' a m b c LA LM ⟨⟨k.s.A,(k.s.M.wroteR i r q).1⟩,k.C⟩∧zA (zV LA LM b c k.s) w w':=
 (duo_wrote_any h.tr.both i r q).mono fun e w' ⟨h1,h2⟩=>⟨h1,h.mkF h2 (by rw [(Mk.wroteR_K k.s.M i r q).2]) (by rw [(Mk.wroteR_K k.s.M i r q).1])⟩
theorem turn_put (x:Mv) (h:Pair w0 w p a m b c LA LM k f) (hok:k.Ok) (hx:x.Byte) (hk:x.kind % 16=7∨x.kind % 16=8):
 Calls Tryz.prog 12 #[.pointer (some ⟨p,0,none⟩),x.val] w fun e w'=>e = .returned (.tuple #[])∧Pair w0 w' p a m b c LA LM ⟨(x.mo26 k.s).doR k.s,k.C⟩ f∧PKeep w w' p (zV LA LM b c k.s):=by
 have hmany:=hok.s.m.k1;have hm4:=hok.s.m.k4
 obtain⟨hb0,hb1,hb2,hb3,hb4⟩:=hx
 have hz:¬ (k.s.M.K.many:Int)=0:=by omega
 obtain⟨mk,hmk⟩:∃ mk,x.m % k.s.M.K.many=mk:=⟨_,rfl⟩
 have hmkl:mk<k.s.M.K.many:=by rw [← hmk];exact Nat.mod_lt _ (by omega)
 have HMOD:=zC (show (x.m:Int) % (k.s.M.K.many:Int)=(mk:Int) by rw [← hmk];simp)
 obtain⟨n,hn⟩:∃ n,(k.s.A.rt mk).l.length=n:=⟨_,rfl⟩
 have hn2:(k.s.A.rt mk).n=n:=by rw [← hn];simp [Sk.l]
 obtain⟨wA,hwA⟩:∃ wA,w.alloc (.cells #[.int .u8 x.kind,.int .u8 x.m,.int .u8 x.a,.int .u8 x.b,.int .u8 x.c] 42)=wA:=⟨_,rfl⟩
 have kA:Kz w wA:=by rw [← hwA];exact (zA.refl _ _).alloc _
 have qA:wA.heap[w.heap.size]?=some (.cells #[.int .u8 x.kind,.int .u8 x.m,.int .u8 x.a,.int .u8 x.b,.int .u8 x.c] 42):=by rw [← hwA];exact zE
 obtain⟨v,hown,hrow⟩:=h.ex
 have hfl:=h.q.footlt
 have HCF:=zC (fun W (hk:zA (zV LA LM b c k.s) wA W)=>And.intro (cells5 (zB qA hk (fun hf=>by have:=hfl _ hf;omega))) (cells4 (zB (zB hown kA (fun h=>h)) hk (h.q.pairfoot hown))))
 have HSZ:=zC (fun W (hk:Kz w W)=>asizes_ok a LA k.s.A W (h.q.same hk).tr.both.ar)
 have HSA:=zC (fun W (hk:Kz w W)=>astackall_ok a LA k.s.A mk W (h.q.same hk).tr.both.ar (by rw [hok.s.k];exact hmkl))
 rw [hok.s.k] at HSZ
 have HQU:=zC (fun W (hk:Kz w W)=>h.q.same hk)
 have HFIN:=zC (fun W d (hk:zA (zV LA LM b c k.s) w W) (hd:Quad w0 W a m b c LA LM d)=>h.fin hk hd)
 have HFT:=zC hfl
 have HPC:=zC (fun W (hk:zA (zV LA LM b c k.s) w W)=>let q:=cells4 (zB hown hk (h.q.pairfoot hown));And.intro q.2.1 q.1)
 have HI:=zC (fun (y:Nat) (hy:y<256) W=>index26 y n W hy)
 have hw0:=zF qA
 have HKA:=zC kA;have HWA:=zC hwA;have HN:=zC hn;have HOK:=zC hok;have HMK:=zC hmk;have HN2:=zC hn2;have HMKL:=zC hmkl
 obtain⟨⟨y0,y1,y2,y3,y4,yl⟩,⟨x0,x1,x2,x3,xl⟩⟩:=HCF.out wA (zA.refl _ _)
 clear hn hn2 hmk kA hwA qA hown hrow hfl h hok hmkl hmany
 obtain⟨j,hmo,hj⟩:∃ j:Int,(x.mo26 k.s).doR k.s=Sys.told (k.s.A.putR mk j (x.b % 8:Nat)) k.s mk∧(((x.kind:Int) % 16=7∧j=(idx x.a n:Nat))∨((x.kind:Int) % 16=8∧j=-1)):=by
  rcases hk with hk | hk
  ·exact⟨_,by (have:x.mo26 k.s = .put mk (idx x.a n:Nat) (x.b % 8:Nat):=by unfold Mv.mo26;dsimp only;rw [hk,HMK.out,HN2.out];rfl);rw [this];rfl,.inl ⟨by omega,rfl⟩⟩
  ·exact⟨_,by (have:x.mo26 k.s = .put mk (-1) (x.b % 8:Nat):=by unfold Mv.mo26;dsimp only;rw [hk,HMK.out];rfl);rw [this];rfl,.inr ⟨by omega,rfl⟩⟩
 rw [hmo]
 have HA:=zC (fun W (hk:Kz w W)=>(aput_any a LA k.s.A mk j (x.b % 8:Nat) W (HQU.out W hk).tr.both.ar HOK.out.s.a).mono (fun e w' ⟨h1,h2,h3⟩=>And.intro h1 ((HQU.out W hk).arF h2 h3 (Ar.putR_n _ _ _ _).2)))
 have HDI:=zC (did_putR HOK.out.s HOK.out.safe (k:=mk) (by rw [HOK.out.s.k];exact HMKL.out) j (x.b % 8:Nat)).2
 have hmy:(k.s.A.putR mk j (x.b % 8:Nat)).A.many=k.s.A.many:=(Ar.putR_n _ _ _ _).2
 unfold Sys.told
 obtain⟨R,hR⟩:∃ R,k.s.A.putR mk j (x.b % 8:Nat)=R:=⟨_,rfl⟩
 rw [hR] at HA HDI hmy ⊢
 have HWR:=zC (fun W (hq:Quad w0 W a m b c LA LM ⟨⟨R.A,k.s.M⟩,k.C⟩)=>hq.wrote mk R.was R.now)
 rw [foot3_of (s:=k.s) (t:=⟨R.A,k.s.M⟩) hmy rfl] at HWR
 obtain⟨T,hT⟩:∃ T,(if R.e=0 then (k.s.M.wroteR mk R.was R.now).1 else k.s.M)=T:=⟨_,rfl⟩
 have HT:=zC hT
 rw [hT]
 clear hk hmo hR hmy hT
 rcases hj with⟨hki,rfl⟩ | ⟨hki,rfl⟩
 all_goals
  unfold Mv.val
  go_in
  go_upto_region 1 with (fail)
  rw [HWA.out]
  go_wp2_with fail
  refine zQ (HSZ.out _ HKA.out) fun w1 k1=>?_
  have HK1:=zC (HKA.out.trans k1)
  obtain⟨⟨z0,z1,z2,z3,z4,zl⟩,⟨u0,u1,u2,u3,ul⟩⟩:=HCF.out w1 k1.up
  have HK1A:=zC k1
  clear k1 y0 y1 y2 y3 y4 yl x0 x1 x2 x3 xl
  go_wp2_with fail
  rw [HMOD.out]
  refine (HSA.out _ HK1.out).mono ?_
  rintro e w2 ⟨v5,rfl,hr5,k2⟩
  have hsh:=zW hr5
  obtain⟨p5,c5,hv5⟩:=hsh
  obtain rfl:=hv5
  have HK2:=zC (HK1.out.trans k2)
  obtain⟨⟨y0,y1,y2,y3,y4,yl⟩,⟨x0,x1,x2,x3,xl⟩⟩:=HCF.out w2 (HK1A.out.trans k2).up
  have HK2A:=zC (HK1A.out.trans k2)
  clear k2 hr5 z0 z1 z2 z3 z4 zl u0 u1 u2 u3 ul
  rw [HN.out]
  go_wp2_with fail
  go_quiet (first | (go_at_call 32;refine (HI.out _ (by assumption) _).mono ?_;rintro e w' ⟨rfl,rfl⟩;exact⟨rfl,_,rfl⟩))
  obtain⟨wq,hwq⟩:∃ wq,w2.drewN nq=wq:=⟨_,rfl⟩
  rw [hwq]
  have kq:Kz w2 wq:=by rw [← hwq];exact (zA.refl _ _).drewN _
  obtain⟨⟨z0,z1,z2,z3,z4,zl⟩,⟨u0,u1,u2,u3,ul⟩⟩:=HCF.out wq (HK2A.out.trans kq).up
  have HKQ:=zC (HK2.out.trans kq)
  have HKQA:=zC (HK2A.out.trans kq)
  clear hwq kq y0 y1 y2 y3 y4 yl x0 x1 x2 x3 xl HK2 HK2A
  go_wp2_with fail
  go_quiet (fail)
  obtain⟨wz,hwz⟩:∃ wz,wq.drewN nq=wz:=⟨_,rfl⟩
  rw [hwz]
  have kq:Kz wq wz:=by rw [← hwz];exact (zA.refl _ _).drewN _
  obtain⟨⟨y0,y1,y2,y3,y4,yl⟩,⟨x0,x1,x2,x3,xl⟩⟩:=HCF.out wz (HKQA.out.trans kq).up
  have HK2:=zC (HKQ.out.trans kq)
  have HK2A:=zC (HKQA.out.trans kq)
  clear hwz kq z0 z1 z2 z3 z4 zl u0 u1 u2 u3 ul HKQ HKQA
  go_wp2_with fail
  refine (HA.out _ (zA.q HK2.out)).mono ?_
  rintro e w3 ⟨rfl,hq3,hk3⟩
  dsimp only [Rf.val]
  have HK3:=zC (show zA (zV LA LM b c k.s) w w3 from zA.trans (zA.up (zA.q HK2.out)) hk3)
  have HKA3:=zC (show zA (zV LA LM b c k.s) wA w3 from zA.trans (zA.up (zA.q HK2A.out)) hk3)
  obtain⟨w4,hw4⟩:∃ w4,(w3.alloc (.cells #[.int .i64 R.was.s,.int .u32 R.was.g] 51)).alloc (.cells #[.int .i64 R.now.s,.int .u32 R.now.g] 51)=w4:=⟨_,rfl⟩
  have k4:Kz w3 w4:=by rw [← hw4];exact ((zA.refl _ _).alloc _).alloc _
  have b4:w4.heap[w3.heap.size]?=some (.cells #[.int .i64 R.was.s,.int .u32 R.was.g] 51):=by rw [← hw4];exact zG zE
  have d4:w4.heap[w3.heap.size+1]?=some (.cells #[.int .i64 R.now.s,.int .u32 R.now.g] 51):=by rw [← hw4];exact zN (by simp)
  have HQ4:=zC (hq3.same k4);have HK4:=zC (HK3.out.trans k4.up);have HW4:=zC hw4
  have hz3:=HK3.out.size
  have HHO:=zC (fun W (hk:zA (zV LA LM b c k.s) w4 W)=>And.intro (HPC.out W (HK3.out.trans (k4.up.trans hk))).1 (And.intro (zK (zB b4 hk (fun hf=>by have:=HFT.out _ hf;omega))) (zK (zB d4 hk (fun hf=>by have:=HFT.out _ hf;omega)))))
  have HHS:=zC (fun W (hk:zA (zV LA LM b c k.s) w4 W)=>And.intro (HHO.out W hk).1 (And.intro (HHO.out W hk).2.1.1 (And.intro (HHO.out W hk).2.1.2.1 (And.intro (HHO.out W hk).2.2.1 (HHO.out W hk).2.2.2.1))))
  have HMR:=zC (fun W (hk:Kz w4 W)=>cymarker (HQ4.out.same hk))
  clear hq3 hk3 k4 b4 d4 hw4 y0 y1 y2 y3 y4 yl x0 x1 x2 x3 xl
  go_upto_region 39 with (fail)
  rw [HW4.out]
  by_cases he:R.e=0
  ·have he1:(R.e == 0)=true:=by simpa using he
   have h0:=HDI.out he
   have hT0:(k.s.M.wroteR mk R.was R.now).1=T:=by have:=HT.out;rwa [if_pos he] at this
   rw [h0,hT0] at HWR
   clear he h0 hT0
   go_region_held3 (fun W=>W.cell? ⟨p,1,none⟩=some (.pointer (some ⟨c,0,none⟩))∧W.cell? ⟨w3.heap.size,0,none⟩=some (.int .i64 R.was.s)∧W.cell? ⟨w3.heap.size,1,none⟩=some (.int .u32 R.was.g)∧W.cell? ⟨w3.heap.size+1,0,none⟩=some (.int .i64 R.now.s)∧W.cell? ⟨w3.heap.size+1,1,none⟩=some (.int .u32 R.now.g))
    ((refine HHS.out _ ?_;(with_reducible repeat first | exact zA.refl _ _ | refine zA.drewN ?_ _ | refine zA.drew ?_ | refine zA.trans ?_ (by with_reducible assumption))))
    (first
     | (go_at_call 35;refine (HMR.out _ zA.r).mono ?_;rintro e w5 ⟨rfl,rfl⟩)
     | (go_at_call 38;refine (HWR.out _ (HQ4.out.same zA.r)).mono ?_;rintro e w6 ⟨rfl,hq6,hk6⟩))
   all_goals
    go_wp2_with fail
    go_end0
    exact⟨rfl,HFIN.out _ _ (HK4.out.trans (zA.trans (zA.up zA.r) hk6)) hq6⟩
  ·have he1:(R.e == 0)=false:=by simpa using he
   have hT0:k.s.M=T:=by have:=HT.out;rwa [if_neg he] at this
   have HQT:=zC (show Quad w0 w4 a m b c LA LM ⟨⟨R.A,T⟩,k.C⟩ by rw [← hT0];exact HQ4.out)
   clear he hT0
   go_quiet (fail)
   go_wp2_with fail
   go_end0
   exact⟨rfl,HFIN.out _ _ (HK4.out.drewN _) (HQT.out.same ((zA.refl _ _).drewN _))⟩
theorem turn_store (x:Mv) (h:Pair w0 w p a m b c LA LM k f) (hok:k.Ok) (hx:x.Byte) (hk:x.kind % 16=3∨x.kind % 16=4∨x.kind % 16=5):
 Calls Tryz.prog 12 #[.pointer (some ⟨p,0,none⟩),x.val] w fun e w'=>e = .returned (.tuple #[])∧Pair w0 w' p a m b c LA LM ⟨(x.mo26 k.s).doR k.s,k.C⟩ f∧PKeep w w' p (zV LA LM b c k.s):=by
 have hmany:=hok.s.m.k1;have hm4:=hok.s.m.k4
 obtain⟨hb0,hb1,hb2,hb3,hb4⟩:=hx
 have hz:¬ (k.s.M.K.many:Int)=0:=by omega
 obtain⟨mk,hmk⟩:∃ mk,x.m % k.s.M.K.many=mk:=⟨_,rfl⟩
 have hmkl:mk<k.s.M.K.many:=by rw [← hmk];exact Nat.mod_lt _ (by omega)
 have HMOD:=zC (show (x.m:Int) % (k.s.M.K.many:Int)=(mk:Int) by rw [← hmk];simp)
 obtain⟨n,hn⟩:∃ n,(k.s.A.rt mk).l.length=n:=⟨_,rfl⟩
 have hn2:(k.s.A.rt mk).n=n:=by rw [← hn];simp [Sk.l]
 obtain⟨wA,hwA⟩:∃ wA,w.alloc (.cells #[.int .u8 x.kind,.int .u8 x.m,.int .u8 x.a,.int .u8 x.b,.int .u8 x.c] 42)=wA:=⟨_,rfl⟩
 have kA:Kz w wA:=by rw [← hwA];exact (zA.refl _ _).alloc _
 have qA:wA.heap[w.heap.size]?=some (.cells #[.int .u8 x.kind,.int .u8 x.m,.int .u8 x.a,.int .u8 x.b,.int .u8 x.c] 42):=by rw [← hwA];exact zE
 obtain⟨v,hown,hrow⟩:=h.ex
 have hfl:=h.q.footlt
 have HCF:=zC (fun W (hk:zA (zV LA LM b c k.s) wA W)=>And.intro (cells5 (zB qA hk (fun hf=>by have:=hfl _ hf;omega))) (cells4 (zB (zB hown kA (fun h=>h)) hk (h.q.pairfoot hown))))
 have HSZ:=zC (fun W (hk:Kz w W)=>asizes_ok a LA k.s.A W (h.q.same hk).tr.both.ar)
 have HSA:=zC (fun W (hk:Kz w W)=>astackall_ok a LA k.s.A mk W (h.q.same hk).tr.both.ar (by rw [hok.s.k];exact hmkl))
 rw [hok.s.k] at HSZ
 have HQU:=zC (fun W (hk:Kz w W)=>h.q.same hk)
 have HFIN:=zC (fun W d (hk:zA (zV LA LM b c k.s) w W) (hd:Quad w0 W a m b c LA LM d)=>h.fin hk hd)
 have HFT:=zC hfl
 have HPC:=zC (fun W (hk:zA (zV LA LM b c k.s) w W)=>let q:=cells4 (zB hown hk (h.q.pairfoot hown));And.intro q.2.1 q.1)
 have HI:=zC (fun (y:Nat) (hy:y<256) W=>index26 y n W hy)
 have hw0:=zF qA
 have HKA:=zC kA;have HWA:=zC hwA;have HN:=zC hn;have HOK:=zC hok;have HMK:=zC hmk;have HN2:=zC hn2;have HMKL:=zC hmkl
 obtain⟨⟨y0,y1,y2,y3,y4,yl⟩,⟨x0,x1,x2,x3,xl⟩⟩:=HCF.out wA (zA.refl _ _)
 clear hn hn2 hmk kA hwA qA hown hrow hfl h hok hmkl hmany
 obtain⟨j,hmo,hj⟩:∃ j:Int,(x.mo26 k.s).doR k.s=Sys.told (k.s.A.storeR mk (idx x.a n:Nat) (x.b % 4:Nat) j) k.s mk∧(((x.kind:Int) % 16=3∧j=(idx x.c n:Nat))∨((x.kind:Int) % 16=4∧j=(idx x.c n:Nat))∨((x.kind:Int) % 16=5∧j=-1)):=by
  rcases hk with hk | hk | hk
  ·exact⟨_,by (have:x.mo26 k.s = .store mk (idx x.a n:Nat) (x.b % 4:Nat) (idx x.c n:Nat):=by unfold Mv.mo26;dsimp only;rw [hk,HMK.out,HN2.out];rfl);rw [this];rfl,.inl ⟨by omega,rfl⟩⟩
  ·exact⟨_,by (have:x.mo26 k.s = .store mk (idx x.a n:Nat) (x.b % 4:Nat) (idx x.c n:Nat):=by unfold Mv.mo26;dsimp only;rw [hk,HMK.out,HN2.out];rfl);rw [this];rfl,.inr (.inl ⟨by omega,rfl⟩)⟩
  ·exact⟨_,by (have:x.mo26 k.s = .store mk (idx x.a n:Nat) (x.b % 4:Nat) (-1):=by unfold Mv.mo26;dsimp only;rw [hk,HMK.out,HN2.out];rfl);rw [this];rfl,.inr (.inr ⟨by omega,rfl⟩)⟩
 rw [hmo]
 have HA:=zC (fun W (hk:Kz w W)=>(astore_any a LA k.s.A mk (idx x.a n:Nat) (x.b % 4:Nat) j W (HQU.out W hk).tr.both.ar HOK.out.s.a).mono (fun e w' ⟨h1,h2,h3⟩=>And.intro h1 ((HQU.out W hk).arF h2 h3 (Ar.storeR_n _ _ _ _ _).2)))
 have HDI:=zC (did_storeR HOK.out.s HOK.out.safe (k:=mk) (by rw [HOK.out.s.k];exact HMKL.out) (idx x.a n:Nat) (x.b % 4:Nat) j).2
 have hmy:(k.s.A.storeR mk (idx x.a n:Nat) (x.b % 4:Nat) j).A.many=k.s.A.many:=(Ar.storeR_n _ _ _ _ _).2
 unfold Sys.told
 obtain⟨R,hR⟩:∃ R,k.s.A.storeR mk (idx x.a n:Nat) (x.b % 4:Nat) j=R:=⟨_,rfl⟩
 rw [hR] at HA HDI hmy ⊢
 have HWR:=zC (fun W (hq:Quad w0 W a m b c LA LM ⟨⟨R.A,k.s.M⟩,k.C⟩)=>hq.wrote mk R.was R.now)
 rw [foot3_of (s:=k.s) (t:=⟨R.A,k.s.M⟩) hmy rfl] at HWR
 obtain⟨T,hT⟩:∃ T,(if R.e=0 then (k.s.M.wroteR mk R.was R.now).1 else k.s.M)=T:=⟨_,rfl⟩
 have HT:=zC hT
 rw [hT]
 clear hk hmo hR hmy hT
 rcases hj with⟨hki,rfl⟩ | ⟨hki,rfl⟩ | ⟨hki,rfl⟩
 all_goals
  unfold Mv.val
  go_in
  go_upto_region 1 with (fail)
  rw [HWA.out]
  go_wp2_with fail
  refine zQ (HSZ.out _ HKA.out) fun w1 k1=>?_
  have HK1:=zC (HKA.out.trans k1)
  obtain⟨⟨z0,z1,z2,z3,z4,zl⟩,⟨u0,u1,u2,u3,ul⟩⟩:=HCF.out w1 k1.up
  have HK1A:=zC k1
  clear k1 y0 y1 y2 y3 y4 yl x0 x1 x2 x3 xl
  go_wp2_with fail
  rw [HMOD.out]
  refine (HSA.out _ HK1.out).mono ?_
  rintro e w2 ⟨v5,rfl,hr5,k2⟩
  have hsh:=zW hr5
  obtain⟨p5,c5,hv5⟩:=hsh
  obtain rfl:=hv5
  have HK2:=zC (HK1.out.trans k2)
  obtain⟨⟨y0,y1,y2,y3,y4,yl⟩,⟨x0,x1,x2,x3,xl⟩⟩:=HCF.out w2 (HK1A.out.trans k2).up
  have HK2A:=zC (HK1A.out.trans k2)
  clear k2 hr5 z0 z1 z2 z3 z4 zl u0 u1 u2 u3 ul
  rw [HN.out]
  go_wp2_with fail
  go_quiet (first | (go_at_call 32;refine (HI.out _ (by assumption) _).mono ?_;rintro e w' ⟨rfl,rfl⟩;exact⟨rfl,_,rfl⟩))
  obtain⟨wq,hwq⟩:∃ wq,w2.drewN nq=wq:=⟨_,rfl⟩
  rw [hwq]
  have kq:Kz w2 wq:=by rw [← hwq];exact (zA.refl _ _).drewN _
  obtain⟨⟨z0,z1,z2,z3,z4,zl⟩,⟨u0,u1,u2,u3,ul⟩⟩:=HCF.out wq (HK2A.out.trans kq).up
  have HKQ:=zC (HK2.out.trans kq)
  have HKQA:=zC (HK2A.out.trans kq)
  clear hwq kq y0 y1 y2 y3 y4 yl x0 x1 x2 x3 xl HK2 HK2A
  go_wp2_with fail
  go_quiet (fail)
  obtain⟨wz,hwz⟩:∃ wz,wq.drewN nq=wz:=⟨_,rfl⟩
  rw [hwz]
  have kq:Kz wq wz:=by rw [← hwz];exact (zA.refl _ _).drewN _
  obtain⟨⟨y0,y1,y2,y3,y4,yl⟩,⟨x0,x1,x2,x3,xl⟩⟩:=HCF.out wz (HKQA.out.trans kq).up
  have HK2:=zC (HKQ.out.trans kq)
  have HK2A:=zC (HKQA.out.trans kq)
  clear hwz kq z0 z1 z2 z3 z4 zl u0 u1 u2 u3 ul HKQ HKQA
  go_wp2_with fail
  refine (HA.out _ (zA.q HK2.out)).mono ?_
  rintro e w3 ⟨rfl,hq3,hk3⟩
  dsimp only [Rf.val]
  have HK3:=zC (show zA (zV LA LM b c k.s) w w3 from zA.trans (zA.up (zA.q HK2.out)) hk3)
  have HKA3:=zC (show zA (zV LA LM b c k.s) wA w3 from zA.trans (zA.up (zA.q HK2A.out)) hk3)
  obtain⟨w4,hw4⟩:∃ w4,(w3.alloc (.cells #[.int .i64 R.was.s,.int .u32 R.was.g] 51)).alloc (.cells #[.int .i64 R.now.s,.int .u32 R.now.g] 51)=w4:=⟨_,rfl⟩
  have k4:Kz w3 w4:=by rw [← hw4];exact ((zA.refl _ _).alloc _).alloc _
  have b4:w4.heap[w3.heap.size]?=some (.cells #[.int .i64 R.was.s,.int .u32 R.was.g] 51):=by rw [← hw4];exact zG zE
  have d4:w4.heap[w3.heap.size+1]?=some (.cells #[.int .i64 R.now.s,.int .u32 R.now.g] 51):=by rw [← hw4];exact zN (by simp)
  have HQ4:=zC (hq3.same k4);have HK4:=zC (HK3.out.trans k4.up);have HW4:=zC hw4
  have hz3:=HK3.out.size
  have HHO:=zC (fun W (hk:zA (zV LA LM b c k.s) w4 W)=>And.intro (HPC.out W (HK3.out.trans (k4.up.trans hk))).1 (And.intro (zK (zB b4 hk (fun hf=>by have:=HFT.out _ hf;omega))) (zK (zB d4 hk (fun hf=>by have:=HFT.out _ hf;omega)))))
  have HHS:=zC (fun W (hk:zA (zV LA LM b c k.s) w4 W)=>And.intro (HHO.out W hk).1 (And.intro (HHO.out W hk).2.1.1 (And.intro (HHO.out W hk).2.1.2.1 (And.intro (HHO.out W hk).2.2.1 (HHO.out W hk).2.2.2.1))))
  have HMR:=zC (fun W (hk:Kz w4 W)=>cymarker (HQ4.out.same hk))
  clear hq3 hk3 k4 b4 d4 hw4 y0 y1 y2 y3 y4 yl x0 x1 x2 x3 xl
  go_upto_region 30 with (fail)
  rw [HW4.out]
  by_cases he:R.e=0
  ·have he1:(R.e == 0)=true:=by simpa using he
   have h0:=HDI.out he
   have hT0:(k.s.M.wroteR mk R.was R.now).1=T:=by have:=HT.out;rwa [if_pos he] at this
   rw [h0,hT0] at HWR
   clear he h0 hT0
   go_region_held3 (fun W=>W.cell? ⟨p,1,none⟩=some (.pointer (some ⟨c,0,none⟩))∧W.cell? ⟨w3.heap.size,0,none⟩=some (.int .i64 R.was.s)∧W.cell? ⟨w3.heap.size,1,none⟩=some (.int .u32 R.was.g)∧W.cell? ⟨w3.heap.size+1,0,none⟩=some (.int .i64 R.now.s)∧W.cell? ⟨w3.heap.size+1,1,none⟩=some (.int .u32 R.now.g))
    ((refine HHS.out _ ?_;(with_reducible repeat first | exact zA.refl _ _ | refine zA.drewN ?_ _ | refine zA.drew ?_ | refine zA.trans ?_ (by with_reducible assumption))))
    (first
     | (go_at_call 35;refine (HMR.out _ zA.r).mono ?_;rintro e w5 ⟨rfl,rfl⟩)
     | (go_at_call 38;refine (HWR.out _ (HQ4.out.same zA.r)).mono ?_;rintro e w6 ⟨rfl,hq6,hk6⟩))
   all_goals
    go_wp2_with fail
    go_end0
    exact⟨rfl,HFIN.out _ _ (HK4.out.trans (zA.trans (zA.up zA.r) hk6)) hq6⟩
  ·have he1:(R.e == 0)=false:=by simpa using he
   have hT0:k.s.M=T:=by have:=HT.out;rwa [if_neg he] at this
   have HQT:=zC (show Quad w0 w4 a m b c LA LM ⟨⟨R.A,T⟩,k.C⟩ by rw [← hT0];exact HQ4.out)
   clear he hT0
   go_quiet (fail)
   go_wp2_with fail
   go_end0
   exact⟨rfl,HFIN.out _ _ (HK4.out.drewN _) (HQT.out.same ((zA.refl _ _).drewN _))⟩
end Go.Proofs.YtjfmagccmjdhoaaGreat
