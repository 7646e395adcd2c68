import Derived.Test.YtjfmagccmjdhoaaGreatCkE
import Derived.Test.YtjfmagccmjdhoaaGreatCyJ
set_option maxHeartbeats 2000000
set_option maxRecDepth 100000
namespace Go.Proofs.YtjfmagccmjdhoaaGreat
open Go.RowKit
section
variable {F:Nat→Prop} {w0 w w':World} {a m x y qq b z t:Nat} {LA:ArL} {LM:MkL} {A:Ar} {M:Mk} {k k':Col} {f:List Rf}
theorem dcmake (h:Dc F w0 w a m LA LM x y A M qq b z k) (i n:Int) (hd:Bool):Calls Tryz.prog 44 #[.pointer (some ⟨x,0,none⟩),.int .i64 i,.int .i64 n,.bool hd] w
 fun e w'=>e = .returned (.tuple #[(k.s.A.makeR i n hd).now.val,.int .i64 (k.s.A.makeR i n hd).e])∧Dc F w0 w' a m LA LM x y A M qq b z ⟨⟨(k.s.A.makeR i n hd).A,k.s.M⟩,k.C⟩∧zA (Dt w w0.heap.size) w w':=
 (Fo.gmake h.fd h.lt i n hd).mono fun _ _ ⟨h1,h2⟩=>⟨h1,h.arF h2⟩
theorem dcload (h:Dc F w0 w a m LA LM x y A M qq b z k) (i j f:Int):Calls Tryz.prog 47 #[.pointer (some ⟨x,0,none⟩),.int .i64 i,.int .i64 j,.int .i64 f] w
 fun e w'=>e = .returned (.tuple #[(k.s.A.loadR i j f).now.val,.int .i64 (k.s.A.loadR i j f).e])∧Dc F w0 w' a m LA LM x y A M qq b z ⟨⟨(k.s.A.loadR i j f).A,k.s.M⟩,k.C⟩∧zA (Dt w w0.heap.size) w w':=
 (Fo.gload h.fd h.lt i j f).mono fun _ _ ⟨h1,h2⟩=>⟨h1,h.arF h2⟩
theorem dcstore (h:Dc F w0 w a m LA LM x y A M qq b z k) (i j f q:Int):Calls Tryz.prog 48 #[.pointer (some ⟨x,0,none⟩),.int .i64 i,.int .i64 j,.int .i64 f,.int .i64 q] w
 fun e w'=>e = .returned (.tuple #[(k.s.A.storeR i j f q).was.val,(k.s.A.storeR i j f q).now.val,.int .i64 (k.s.A.storeR i j f q).e])∧Dc F w0 w' a m LA LM x y A M qq b z ⟨⟨(k.s.A.storeR i j f q).A,k.s.M⟩,k.C⟩∧zA (Dt w w0.heap.size) w w':=
 (Fo.gstore h.fd h.lt i j f q).mono fun _ _ ⟨h1,h2⟩=>⟨h1,h.arF h2⟩
theorem dcdrop (h:Dc F w0 w a m LA LM x y A M qq b z k) (i j:Int):Calls Tryz.prog 50 #[.pointer (some ⟨x,0,none⟩),.int .i64 i,.int .i64 j] w
 fun e w'=>e = .returned (.tuple #[(k.s.A.dropR i j).now.val,.int .i64 (k.s.A.dropR i j).e])∧Dc F w0 w' a m LA LM x y A M qq b z ⟨⟨(k.s.A.dropR i j).A,k.s.M⟩,k.C⟩∧zA (Dt w w0.heap.size) w w':=
 (Fo.gdrop h.fd h.lt i j).mono fun _ _ ⟨h1,h2⟩=>⟨h1,h.arF h2⟩
theorem dcput (h:Dc F w0 w a m LA LM x y A M qq b z k) (i j q:Int):Calls Tryz.prog 51 #[.pointer (some ⟨x,0,none⟩),.int .i64 i,.int .i64 j,.int .i64 q] w
 fun e w'=>e = .returned (.tuple #[(k.s.A.putR i j q).was.val,(k.s.A.putR i j q).now.val,.int .i64 (k.s.A.putR i j q).e])∧Dc F w0 w' a m LA LM x y A M qq b z ⟨⟨(k.s.A.putR i j q).A,k.s.M⟩,k.C⟩∧zA (Dt w w0.heap.size) w w':=
 (Fo.gput h.fd h.lt i j q).mono fun _ _ ⟨h1,h2⟩=>⟨h1,h.arF h2⟩
theorem dcget (h:Dc F w0 w a m LA LM x y A M qq b z k) (i q:Int):Calls Tryz.prog 52 #[.pointer (some ⟨x,0,none⟩),.int .i64 i,.int .i64 q] w
 fun e w'=>e = .returned (.tuple #[(k.s.A.getR i q).now.val,.int .i64 (k.s.A.getR i q).e])∧Dc F w0 w' a m LA LM x y A M qq b z ⟨⟨(k.s.A.getR i q).A,k.s.M⟩,k.C⟩∧zA (Dt w w0.heap.size) w w':=
 (Fo.gget h.fd h.lt i q).mono fun _ _ ⟨h1,h2⟩=>⟨h1,h.arF h2⟩
def TwTo (F:Nat→Prop) (w0 w:World) (a m:Nat) (LA:ArL) (LM:MkL) (x y:Nat) (A:Ar) (M:Mk) (qq b z t:Nat) (u:Mv) (k':Col):Prop:=
 Calls Tryz.prog 13 #[.pointer (some ⟨t,0,none⟩),u.val] w fun e w'=>e = .returned (.tuple #[])∧Dc F w0 w' a m LA LM x y A M qq b z k'∧zA (Dt w w0.heap.size) w w'
theorem tw_drop (u:Mv) (h:Tn F w0 w a m LA LM x y A M qq b z t k f) (hok:k.Ok) (hu:u.Byte) (hk:u.kind % 16=6):TwTo F w0 w a m LA LM x y A M qq b z t u ⟨(u.mo26 k.s).doR k.s,k.C⟩:=by
 have hki:(u.kind:Int) % 16=6:=by omega
 have hmany:=hok.s.m.k1;have hm4:=hok.s.m.k4
 obtain⟨hb0,hb1,hb2,hb3,hb4⟩:=hu
 have hz:¬ (k.s.M.K.many:Int)=0:=by omega
 obtain⟨mk,hmk⟩:∃ mk,u.m % k.s.M.K.many=mk:=⟨_,rfl⟩
 have hmkl:mk<k.s.M.K.many:=by rw [← hmk];exact Nat.mod_lt _ (by omega)
 have HMOD:=zC (show (u.m:Int) % (k.s.M.K.many:Int)=(mk:Int) by rw [← hmk];simp)
 obtain⟨n,hn⟩:∃ n,(k.s.A.rt mk).l.length=n:=⟨_,rfl⟩
 have hn2:(k.s.A.rt mk).n=n:=by rw [← hn];simp [Sk.l]
 obtain⟨wA,hwA⟩:∃ wA,w.alloc (.cells #[.int .u8 u.kind,.int .u8 u.m,.int .u8 u.a,.int .u8 u.b,.int .u8 u.c] 42)=wA:=⟨_,rfl⟩
 have kA:Kz w wA:=by rw [← hwA];exact (zA.refl _ _).alloc _
 have qA:wA.heap[w.heap.size]?=some (.cells #[.int .u8 u.kind,.int .u8 u.m,.int .u8 u.a,.int .u8 u.b,.int .u8 u.c] 42):=by rw [← hwA];exact zE
 obtain⟨v,hown,_,_⟩:=h.ex
 have HCF:=zC (fun W (hk:zA (Dt wA w0.heap.size) wA W)=>And.intro (cells5 (Dt.block hk qA (by decide))) (qB (Dt.block hk (zB hown kA (fun h=>h)) (by decide))))
 have HSZ:=zC (fun W (hk:Kz w W)=>(h.dc.quiet hk).wk.sizes)
 have HSA:=zC (fun W (hk:Kz w W)=>(h.dc.quiet hk).wk.stack mk (by rw [hok.s.k];exact hmkl))
 rw [hok.s.n,hok.s.k] at HSZ
 have HQU:=zC (fun W (hk:Kz w W)=>h.dc.quiet hk)
 have HI:=zC (fun (q:Nat) (hq:q<256) W=>index26 q n W hq)
 have hw0:=zF qA
 have HKA:=zC kA;have HWA:=zC hwA;have HN:=zC hn;have HOK:=zC hok;have HMK:=zC hmk;have HN2:=zC hn2;have HMKL:=zC hmkl
 obtain⟨⟨y0,y1,y2,y3,y4,yl⟩,⟨x0,x1,x2,xl⟩⟩:=HCF.out wA (zA.refl _ _)
 clear hn hn2 hmk kA hwA qA hown h hok hmkl hmany
 have hmo:(u.mo26 k.s).doR k.s=⟨(k.s.A.dropR mk (idx u.a n:Nat)).A,k.s.M⟩:=by
  have:u.mo26 k.s = .drop mk (idx u.a n:Nat):=by unfold Mv.mo26;dsimp only;rw [hk,HMK.out,HN2.out];rfl
  rw [this];rfl
 rw [hmo]
 have HA:=zC (fun W (hk:Kz w W)=>dcdrop (HQU.out W hk) mk (idx u.a n:Nat))
 clear hk hmo
 unfold TwTo
 unfold Mv.val
 go_in
 go_upto_region 1 with (fail)
 rw [HWA.out]
 go_wp2_with fail
 refine zQ (HSZ.out _ HKA.out) fun w1 k1=>?_
 have HK1:=zC (HKA.out.trans k1)
 obtain⟨⟨z0,z1,z2,z3,z4,zl⟩,⟨u0,u1,u2,ul⟩⟩:=HCF.out w1 k1.up
 have HK1A:=zC k1
 clear k1 y0 y1 y2 y3 y4 yl x0 x1 x2 xl
 go_wp2_with fail
 rw [HMOD.out]
 refine (HSA.out _ HK1.out).mono ?_
 rintro e w2 ⟨v5,rfl,hr5,k2⟩
 have hsh:=zW hr5
 obtain⟨p5,c5,hv5⟩:=hsh
 obtain rfl:=hv5
 have HK2:=zC (HK1.out.trans k2)
 obtain⟨⟨y0,y1,y2,y3,y4,yl⟩,⟨x0,x1,x2,xl⟩⟩:=HCF.out w2 (HK1A.out.trans k2).up
 have HK2A:=zC (HK1A.out.trans k2)
 clear k2 hr5 z0 z1 z2 z3 z4 zl u0 u1 u2 ul
 rw [HN.out]
 go_wp2_with fail
 go_quiet (first | (go_at_call 32;refine (HI.out _ (by assumption) _).mono ?_;rintro e w' ⟨rfl,rfl⟩;exact⟨rfl,_,rfl⟩))
 obtain⟨wq,hwq⟩:∃ wq,w2.drewN nq=wq:=⟨_,rfl⟩
 rw [hwq]
 have kq:Kz w2 wq:=by rw [← hwq];exact (zA.refl _ _).drewN _
 obtain⟨⟨z0,z1,z2,z3,z4,zl⟩,⟨u0,u1,u2,ul⟩⟩:=HCF.out wq (HK2A.out.trans kq).up
 have HKQ:=zC (HK2.out.trans kq)
 have HKQA:=zC (HK2A.out.trans kq)
 clear hwq kq y0 y1 y2 y3 y4 yl x0 x1 x2 xl HK2 HK2A
 go_wp2_with fail
 go_quiet (fail)
 obtain⟨wz,hwz⟩:∃ wz,wq.drewN nq=wz:=⟨_,rfl⟩
 rw [hwz]
 have kq:Kz wq wz:=by rw [← hwz];exact (zA.refl _ _).drewN _
 obtain⟨⟨y0,y1,y2,y3,y4,yl⟩,⟨x0,x1,x2,xl⟩⟩:=HCF.out wz (HKQA.out.trans kq).up
 have HK2:=zC (HKQ.out.trans kq)
 have HK2A:=zC (HKQA.out.trans kq)
 clear hwz kq z0 z1 z2 z3 z4 zl u0 u1 u2 ul HKQ HKQA
 go_wp2_with fail
 refine (HA.out _ (zA.q HK2.out)).mono ?_
 rintro e w3 ⟨rfl,hq3,hk3⟩
 have HQ3:=zC hq3
 have HK3:=zC (show zA (Dt w w0.heap.size) w w3 from Dt.trans (zA.up (zA.q HK2.out)) hk3)
 clear hq3 hk3
 go_wp2_with fail
 go_end0
 exact⟨rfl,HQ3.out,HK3.out⟩
theorem tw_load (u:Mv) (h:Tn F w0 w a m LA LM x y A M qq b z t k f) (hok:k.Ok) (hu:u.Byte) (hk:u.kind % 16=2):TwTo F w0 w a m LA LM x y A M qq b z t u ⟨(u.mo26 k.s).doR k.s,k.C⟩:=by
 have hki:(u.kind:Int) % 16=2:=by omega
 have hmany:=hok.s.m.k1;have hm4:=hok.s.m.k4
 obtain⟨hb0,hb1,hb2,hb3,hb4⟩:=hu
 have hz:¬ (k.s.M.K.many:Int)=0:=by omega
 obtain⟨mk,hmk⟩:∃ mk,u.m % k.s.M.K.many=mk:=⟨_,rfl⟩
 have hmkl:mk<k.s.M.K.many:=by rw [← hmk];exact Nat.mod_lt _ (by omega)
 have HMOD:=zC (show (u.m:Int) % (k.s.M.K.many:Int)=(mk:Int) by rw [← hmk];simp)
 obtain⟨n,hn⟩:∃ n,(k.s.A.rt mk).l.length=n:=⟨_,rfl⟩
 have hn2:(k.s.A.rt mk).n=n:=by rw [← hn];simp [Sk.l]
 obtain⟨wA,hwA⟩:∃ wA,w.alloc (.cells #[.int .u8 u.kind,.int .u8 u.m,.int .u8 u.a,.int .u8 u.b,.int .u8 u.c] 42)=wA:=⟨_,rfl⟩
 have kA:Kz w wA:=by rw [← hwA];exact (zA.refl _ _).alloc _
 have qA:wA.heap[w.heap.size]?=some (.cells #[.int .u8 u.kind,.int .u8 u.m,.int .u8 u.a,.int .u8 u.b,.int .u8 u.c] 42):=by rw [← hwA];exact zE
 obtain⟨v,hown,_,_⟩:=h.ex
 have HCF:=zC (fun W (hk:zA (Dt wA w0.heap.size) wA W)=>And.intro (cells5 (Dt.block hk qA (by decide))) (qB (Dt.block hk (zB hown kA (fun h=>h)) (by decide))))
 have HSZ:=zC (fun W (hk:Kz w W)=>(h.dc.quiet hk).wk.sizes)
 have HSA:=zC (fun W (hk:Kz w W)=>(h.dc.quiet hk).wk.stack mk (by rw [hok.s.k];exact hmkl))
 rw [hok.s.n,hok.s.k] at HSZ
 have HQU:=zC (fun W (hk:Kz w W)=>h.dc.quiet hk)
 have HI:=zC (fun (q:Nat) (hq:q<256) W=>index26 q n W hq)
 have hw0:=zF qA
 have HKA:=zC kA;have HWA:=zC hwA;have HN:=zC hn;have HOK:=zC hok;have HMK:=zC hmk;have HN2:=zC hn2;have HMKL:=zC hmkl
 obtain⟨⟨y0,y1,y2,y3,y4,yl⟩,⟨x0,x1,x2,xl⟩⟩:=HCF.out wA (zA.refl _ _)
 clear hn hn2 hmk kA hwA qA hown h hok hmkl hmany
 have hmo:(u.mo26 k.s).doR k.s=⟨(k.s.A.loadR mk (idx u.a n:Nat) (u.b % 4:Nat)).A,k.s.M⟩:=by
  have:u.mo26 k.s = .load mk (idx u.a n:Nat) (u.b % 4:Nat):=by unfold Mv.mo26;dsimp only;rw [hk,HMK.out,HN2.out];rfl
  rw [this];rfl
 rw [hmo]
 have HA:=zC (fun W (hk:Kz w W)=>dcload (HQU.out W hk) mk (idx u.a n:Nat) (u.b % 4:Nat))
 clear hk hmo
 unfold TwTo
 unfold Mv.val
 go_in
 go_upto_region 1 with (fail)
 rw [HWA.out]
 go_wp2_with fail
 refine zQ (HSZ.out _ HKA.out) fun w1 k1=>?_
 have HK1:=zC (HKA.out.trans k1)
 obtain⟨⟨z0,z1,z2,z3,z4,zl⟩,⟨u0,u1,u2,ul⟩⟩:=HCF.out w1 k1.up
 have HK1A:=zC k1
 clear k1 y0 y1 y2 y3 y4 yl x0 x1 x2 xl
 go_wp2_with fail
 rw [HMOD.out]
 refine (HSA.out _ HK1.out).mono ?_
 rintro e w2 ⟨v5,rfl,hr5,k2⟩
 have hsh:=zW hr5
 obtain⟨p5,c5,hv5⟩:=hsh
 obtain rfl:=hv5
 have HK2:=zC (HK1.out.trans k2)
 obtain⟨⟨y0,y1,y2,y3,y4,yl⟩,⟨x0,x1,x2,xl⟩⟩:=HCF.out w2 (HK1A.out.trans k2).up
 have HK2A:=zC (HK1A.out.trans k2)
 clear k2 hr5 z0 z1 z2 z3 z4 zl u0 u1 u2 ul
 rw [HN.out]
 go_wp2_with fail
 go_quiet (first | (go_at_call 32;refine (HI.out _ (by assumption) _).mono ?_;rintro e w' ⟨rfl,rfl⟩;exact⟨rfl,_,rfl⟩))
 obtain⟨wq,hwq⟩:∃ wq,w2.drewN nq=wq:=⟨_,rfl⟩
 rw [hwq]
 have kq:Kz w2 wq:=by rw [← hwq];exact (zA.refl _ _).drewN _
 obtain⟨⟨z0,z1,z2,z3,z4,zl⟩,⟨u0,u1,u2,ul⟩⟩:=HCF.out wq (HK2A.out.trans kq).up
 have HKQ:=zC (HK2.out.trans kq)
 have HKQA:=zC (HK2A.out.trans kq)
 clear hwq kq y0 y1 y2 y3 y4 yl x0 x1 x2 xl HK2 HK2A
 go_wp2_with fail
 go_quiet (fail)
 obtain⟨wz,hwz⟩:∃ wz,wq.drewN nq=wz:=⟨_,rfl⟩
 rw [hwz]
 have kq:Kz wq wz:=by rw [← hwz];exact (zA.refl _ _).drewN _
 obtain⟨⟨y0,y1,y2,y3,y4,yl⟩,⟨x0,x1,x2,xl⟩⟩:=HCF.out wz (HKQA.out.trans kq).up
 have HK2:=zC (HKQ.out.trans kq)
 have HK2A:=zC (HKQA.out.trans kq)
 clear hwz kq z0 z1 z2 z3 z4 zl u0 u1 u2 ul HKQ HKQA
 go_wp2_with fail
 refine (HA.out _ (zA.q HK2.out)).mono ?_
 rintro e w3 ⟨rfl,hq3,hk3⟩
 have HQ3:=zC hq3
 have HK3:=zC (show zA (Dt w w0.heap.size) w w3 from Dt.trans (zA.up (zA.q HK2.out)) hk3)
 clear hq3 hk3
 go_wp2_with fail
 go_end0
 exact⟨rfl,HQ3.out,HK3.out⟩
theorem tw_get (u:Mv) (h:Tn F w0 w a m LA LM x y A M qq b z t k f) (hok:k.Ok) (hu:u.Byte) (hk:u.kind % 16=9):TwTo F w0 w a m LA LM x y A M qq b z t u ⟨(u.mo26 k.s).doR k.s,k.C⟩:=by
 have hki:(u.kind:Int) % 16=9:=by omega
 have hmany:=hok.s.m.k1;have hm4:=hok.s.m.k4
 obtain⟨hb0,hb1,hb2,hb3,hb4⟩:=hu
 have hz:¬ (k.s.M.K.many:Int)=0:=by omega
 obtain⟨mk,hmk⟩:∃ mk,u.m % k.s.M.K.many=mk:=⟨_,rfl⟩
 have hmkl:mk<k.s.M.K.many:=by rw [← hmk];exact Nat.mod_lt _ (by omega)
 have HMOD:=zC (show (u.m:Int) % (k.s.M.K.many:Int)=(mk:Int) by rw [← hmk];simp)
 obtain⟨n,hn⟩:∃ n,(k.s.A.rt mk).l.length=n:=⟨_,rfl⟩
 have hn2:(k.s.A.rt mk).n=n:=by rw [← hn];simp [Sk.l]
 obtain⟨wA,hwA⟩:∃ wA,w.alloc (.cells #[.int .u8 u.kind,.int .u8 u.m,.int .u8 u.a,.int .u8 u.b,.int .u8 u.c] 42)=wA:=⟨_,rfl⟩
 have kA:Kz w wA:=by rw [← hwA];exact (zA.refl _ _).alloc _
 have qA:wA.heap[w.heap.size]?=some (.cells #[.int .u8 u.kind,.int .u8 u.m,.int .u8 u.a,.int .u8 u.b,.int .u8 u.c] 42):=by rw [← hwA];exact zE
 obtain⟨v,hown,_,_⟩:=h.ex
 have HCF:=zC (fun W (hk:zA (Dt wA w0.heap.size) wA W)=>And.intro (cells5 (Dt.block hk qA (by decide))) (qB (Dt.block hk (zB hown kA (fun h=>h)) (by decide))))
 have HSZ:=zC (fun W (hk:Kz w W)=>(h.dc.quiet hk).wk.sizes)
 have HSA:=zC (fun W (hk:Kz w W)=>(h.dc.quiet hk).wk.stack mk (by rw [hok.s.k];exact hmkl))
 rw [hok.s.n,hok.s.k] at HSZ
 have HQU:=zC (fun W (hk:Kz w W)=>h.dc.quiet hk)
 have HI:=zC (fun (q:Nat) (hq:q<256) W=>index26 q n W hq)
 have hw0:=zF qA
 have HKA:=zC kA;have HWA:=zC hwA;have HN:=zC hn;have HOK:=zC hok;have HMK:=zC hmk;have HN2:=zC hn2;have HMKL:=zC hmkl
 obtain⟨⟨y0,y1,y2,y3,y4,yl⟩,⟨x0,x1,x2,xl⟩⟩:=HCF.out wA (zA.refl _ _)
 clear hn hn2 hmk kA hwA qA hown h hok hmkl hmany
 have hmo:(u.mo26 k.s).doR k.s=⟨(k.s.A.getR mk (u.b % 8:Nat)).A,k.s.M⟩:=by
  have:u.mo26 k.s = .get mk (u.b % 8:Nat):=by unfold Mv.mo26;dsimp only;rw [hk,HMK.out,HN2.out];rfl
  rw [this];rfl
 rw [hmo]
 have HA:=zC (fun W (hk:Kz w W)=>dcget (HQU.out W hk) mk (u.b % 8:Nat))
 clear hk hmo
 unfold TwTo
 unfold Mv.val
 go_in
 go_upto_region 1 with (fail)
 rw [HWA.out]
 go_wp2_with fail
 refine zQ (HSZ.out _ HKA.out) fun w1 k1=>?_
 have HK1:=zC (HKA.out.trans k1)
 obtain⟨⟨z0,z1,z2,z3,z4,zl⟩,⟨u0,u1,u2,ul⟩⟩:=HCF.out w1 k1.up
 have HK1A:=zC k1
 clear k1 y0 y1 y2 y3 y4 yl x0 x1 x2 xl
 go_wp2_with fail
 rw [HMOD.out]
 refine (HSA.out _ HK1.out).mono ?_
 rintro e w2 ⟨v5,rfl,hr5,k2⟩
 have hsh:=zW hr5
 obtain⟨p5,c5,hv5⟩:=hsh
 obtain rfl:=hv5
 have HK2:=zC (HK1.out.trans k2)
 obtain⟨⟨y0,y1,y2,y3,y4,yl⟩,⟨x0,x1,x2,xl⟩⟩:=HCF.out w2 (HK1A.out.trans k2).up
 have HK2A:=zC (HK1A.out.trans k2)
 clear k2 hr5 z0 z1 z2 z3 z4 zl u0 u1 u2 ul
 rw [HN.out]
 go_wp2_with fail
 go_quiet (first | (go_at_call 32;refine (HI.out _ (by assumption) _).mono ?_;rintro e w' ⟨rfl,rfl⟩;exact⟨rfl,_,rfl⟩))
 obtain⟨wq,hwq⟩:∃ wq,w2.drewN nq=wq:=⟨_,rfl⟩
 rw [hwq]
 have kq:Kz w2 wq:=by rw [← hwq];exact (zA.refl _ _).drewN _
 obtain⟨⟨z0,z1,z2,z3,z4,zl⟩,⟨u0,u1,u2,ul⟩⟩:=HCF.out wq (HK2A.out.trans kq).up
 have HKQ:=zC (HK2.out.trans kq)
 have HKQA:=zC (HK2A.out.trans kq)
 clear hwq kq y0 y1 y2 y3 y4 yl x0 x1 x2 xl HK2 HK2A
 go_wp2_with fail
 go_quiet (fail)
 obtain⟨wz,hwz⟩:∃ wz,wq.drewN nq=wz:=⟨_,rfl⟩
 rw [hwz]
 have kq:Kz wq wz:=by rw [← hwz];exact (zA.refl _ _).drewN _
 obtain⟨⟨y0,y1,y2,y3,y4,yl⟩,⟨x0,x1,x2,xl⟩⟩:=HCF.out wz (HKQA.out.trans kq).up
 have HK2:=zC (HKQ.out.trans kq)
 have HK2A:=zC (HKQA.out.trans kq)
 clear hwz kq z0 z1 z2 z3 z4 zl u0 u1 u2 ul HKQ HKQA
 go_wp2_with fail
 refine (HA.out _ (zA.q HK2.out)).mono ?_
 rintro e w3 ⟨rfl,hq3,hk3⟩
 have HQ3:=zC hq3
 have HK3:=zC (show zA (Dt w w0.heap.size) w w3 from Dt.trans (zA.up (zA.q HK2.out)) hk3)
 clear hq3 hk3
 go_wp2_with fail
 go_end0
 exact⟨rfl,HQ3.out,HK3.out⟩
theorem tw_ack (u:Mv) (h:Tn F w0 w a m LA LM x y A M qq b z t k f) (hok:k.Ok) (hu:u.Byte) (hk:(u.kind:Int) % 16=10∨(u.kind:Int) % 16=11):TwTo F w0 w a m LA LM x y A M qq b z t u ⟨⟨k.s.A,(k.s.M.ackR k.s.A (u.m % k.s.M.K.many:Nat)).M⟩,k.C⟩:=by
 have hmany:=hok.s.m.k1;have hm4:=hok.s.m.k4
 obtain⟨hb0,hb1,hb2,hb3,hb4⟩:=hu
 have hz:¬ (k.s.M.K.many:Int)=0:=by omega
 obtain⟨mk,hmk⟩:∃ mk,u.m % k.s.M.K.many=mk:=⟨_,rfl⟩
 have hmkl:mk<k.s.M.K.many:=by rw [← hmk];exact Nat.mod_lt _ (by omega)
 have HMOD:=zC (show (u.m:Int) % (k.s.M.K.many:Int)=(mk:Int) by rw [← hmk];simp)
 obtain⟨n,hn⟩:∃ n,(k.s.A.rt mk).l.length=n:=⟨_,rfl⟩
 have hn2:(k.s.A.rt mk).n=n:=by rw [← hn];simp [Sk.l]
 obtain⟨wA,hwA⟩:∃ wA,w.alloc (.cells #[.int .u8 u.kind,.int .u8 u.m,.int .u8 u.a,.int .u8 u.b,.int .u8 u.c] 42)=wA:=⟨_,rfl⟩
 have kA:Kz w wA:=by rw [← hwA];exact (zA.refl _ _).alloc _
 have qA:wA.heap[w.heap.size]?=some (.cells #[.int .u8 u.kind,.int .u8 u.m,.int .u8 u.a,.int .u8 u.b,.int .u8 u.c] 42):=by rw [← hwA];exact zE
 obtain⟨v,hown,_,_⟩:=h.ex
 have HCF:=zC (fun W (hk:zA (Dt wA w0.heap.size) wA W)=>And.intro (cells5 (Dt.block hk qA (by decide))) (qB (Dt.block hk (zB hown kA (fun h=>h)) (by decide))))
 have HSZ:=zC (fun W (hk:Kz w W)=>(h.dc.quiet hk).wk.sizes)
 have HSA:=zC (fun W (hk:Kz w W)=>(h.dc.quiet hk).wk.stack mk (by rw [hok.s.k];exact hmkl))
 rw [hok.s.n,hok.s.k] at HSZ
 have HQU:=zC (fun W (hk:Kz w W)=>h.dc.quiet hk)
 have HI:=zC (fun (q:Nat) (hq:q<256) W=>index26 q n W hq)
 have hw0:=zF qA
 have HKA:=zC kA;have HWA:=zC hwA;have HN:=zC hn;have HOK:=zC hok;have HMK:=zC hmk;have HN2:=zC hn2;have HMKL:=zC hmkl
 obtain⟨⟨y0,y1,y2,y3,y4,yl⟩,⟨x0,x1,x2,xl⟩⟩:=HCF.out wA (zA.refl _ _)
 clear hn hn2 hmk kA hwA qA hown h hok hmkl hmany
 rw [HMK.out]
 have HA:=zC (fun W (hk:Kz w W)=>ccack (HQU.out W hk) HOK.out mk)
 obtain⟨R,hR⟩:∃ R,k.s.M.ackR k.s.A mk=R:=⟨_,rfl⟩
 rw [hR] at HA ⊢
 clear hR
 unfold TwTo
 rcases hk with hki | hki
 all_goals
  unfold Mv.val
  go_in
  go_upto_region 1 with (fail)
  rw [HWA.out]
  go_wp2_with fail
  refine zQ (HSZ.out _ HKA.out) fun w1 k1=>?_
  have HK1:=zC (HKA.out.trans k1)
  obtain⟨⟨z0,z1,z2,z3,z4,zl⟩,⟨u0,u1,u2,ul⟩⟩:=HCF.out w1 k1.up
  have HK1A:=zC k1
  clear k1 y0 y1 y2 y3 y4 yl x0 x1 x2 xl
  go_wp2_with fail
  rw [HMOD.out]
  refine (HSA.out _ HK1.out).mono ?_
  rintro e w2 ⟨v5,rfl,hr5,k2⟩
  have hsh:=zW hr5
  obtain⟨p5,c5,hv5⟩:=hsh
  obtain rfl:=hv5
  have HK2:=zC (HK1.out.trans k2)
  obtain⟨⟨y0,y1,y2,y3,y4,yl⟩,⟨x0,x1,x2,xl⟩⟩:=HCF.out w2 (HK1A.out.trans k2).up
  have HK2A:=zC (HK1A.out.trans k2)
  clear k2 hr5 z0 z1 z2 z3 z4 zl u0 u1 u2 ul
  rw [HN.out]
  go_wp2_with fail
  go_quiet (first | (go_at_call 32;refine (HI.out _ (by assumption) _).mono ?_;rintro e w' ⟨rfl,rfl⟩;exact⟨rfl,_,rfl⟩))
  obtain⟨wq,hwq⟩:∃ wq,w2.drewN nq=wq:=⟨_,rfl⟩
  rw [hwq]
  have kq:Kz w2 wq:=by rw [← hwq];exact (zA.refl _ _).drewN _
  obtain⟨⟨z0,z1,z2,z3,z4,zl⟩,⟨u0,u1,u2,ul⟩⟩:=HCF.out wq (HK2A.out.trans kq).up
  have HKQ:=zC (HK2.out.trans kq)
  have HKQA:=zC (HK2A.out.trans kq)
  clear hwq kq y0 y1 y2 y3 y4 yl x0 x1 x2 xl HK2 HK2A
  go_wp2_with fail
  go_quiet (fail)
  obtain⟨wz,hwz⟩:∃ wz,wq.drewN nq=wz:=⟨_,rfl⟩
  rw [hwz]
  have kq:Kz wq wz:=by rw [← hwz];exact (zA.refl _ _).drewN _
  obtain⟨⟨y0,y1,y2,y3,y4,yl⟩,⟨x0,x1,x2,xl⟩⟩:=HCF.out wz (HKQA.out.trans kq).up
  have HK2:=zC (HKQ.out.trans kq)
  have HK2A:=zC (HKQA.out.trans kq)
  clear hwz kq z0 z1 z2 z3 z4 zl u0 u1 u2 ul HKQ HKQA
  go_wp2_with fail
  have HPS:=zC (fun W (hk:zA (Dt wA w0.heap.size) wA W)=>And.intro (HCF.out W hk).2.2.1 (HCF.out W hk).2.1)
  go_region_held3 (fun W=>W.cell? ⟨t,1,none⟩=some (.pointer (some ⟨z,0,none⟩))∧W.cell? ⟨t,0,none⟩=some (.pointer (some ⟨x,0,none⟩)))
   ((refine HPS.out _ ?_;(with_reducible repeat first | exact HK2A.out.up | refine zA.drewN ?_ _ | refine zA.drew ?_ | refine Dt.trans ?_ (by with_reducible assumption))))
   (first | (go_at_call 53;refine (HA.out _ (zA.q HK2.out)).mono ?_;rintro e w3 ⟨rfl,hq3,hk3⟩))
  have HQ3:=zC hq3
  have HK3:=zC (show zA (Dt w w0.heap.size) w w3 from Dt.trans (zA.up (zA.q HK2.out)) hk3)
  clear hq3 hk3
  go_wp2_with fail
  go_end0
  exact⟨rfl,HQ3.out,HK3.out⟩
theorem tw_ask (u:Mv) (h:Tn F w0 w a m LA LM x y A M qq b z t k f) (hok:k.Ok) (hu:u.Byte) (hki:(u.kind:Int) % 16=12) (hb:k.C.begun<4611686018427387904):TwTo F w0 w a m LA LM x y A M qq b z t u k.askR.1:=by
 have hmany:=hok.s.m.k1;have hm4:=hok.s.m.k4
 obtain⟨hb0,hb1,hb2,hb3,hb4⟩:=hu
 have hz:¬ (k.s.M.K.many:Int)=0:=by omega
 obtain⟨mk,hmk⟩:∃ mk,u.m % k.s.M.K.many=mk:=⟨_,rfl⟩
 have hmkl:mk<k.s.M.K.many:=by rw [← hmk];exact Nat.mod_lt _ (by omega)
 have HMOD:=zC (show (u.m:Int) % (k.s.M.K.many:Int)=(mk:Int) by rw [← hmk];simp)
 obtain⟨n,hn⟩:∃ n,(k.s.A.rt mk).l.length=n:=⟨_,rfl⟩
 have hn2:(k.s.A.rt mk).n=n:=by rw [← hn];simp [Sk.l]
 obtain⟨wA,hwA⟩:∃ wA,w.alloc (.cells #[.int .u8 u.kind,.int .u8 u.m,.int .u8 u.a,.int .u8 u.b,.int .u8 u.c] 42)=wA:=⟨_,rfl⟩
 have kA:Kz w wA:=by rw [← hwA];exact (zA.refl _ _).alloc _
 have qA:wA.heap[w.heap.size]?=some (.cells #[.int .u8 u.kind,.int .u8 u.m,.int .u8 u.a,.int .u8 u.b,.int .u8 u.c] 42):=by rw [← hwA];exact zE
 obtain⟨v,hown,_,_⟩:=h.ex
 have HCF:=zC (fun W (hk:zA (Dt wA w0.heap.size) wA W)=>And.intro (cells5 (Dt.block hk qA (by decide))) (qB (Dt.block hk (zB hown kA (fun h=>h)) (by decide))))
 have HSZ:=zC (fun W (hk:Kz w W)=>(h.dc.quiet hk).wk.sizes)
 have HSA:=zC (fun W (hk:Kz w W)=>(h.dc.quiet hk).wk.stack mk (by rw [hok.s.k];exact hmkl))
 rw [hok.s.n,hok.s.k] at HSZ
 have HQU:=zC (fun W (hk:Kz w W)=>h.dc.quiet hk)
 have HI:=zC (fun (q:Nat) (hq:q<256) W=>index26 q n W hq)
 have hw0:=zF qA
 have HKA:=zC kA;have HWA:=zC hwA;have HN:=zC hn;have HOK:=zC hok;have HMK:=zC hmk;have HN2:=zC hn2;have HMKL:=zC hmkl
 obtain⟨⟨y0,y1,y2,y3,y4,yl⟩,⟨x0,x1,x2,xl⟩⟩:=HCF.out wA (zA.refl _ _)
 clear hn hn2 hmk kA hwA qA hown h hok hmkl hmany
 have HA:=zC (fun W (hk:Kz w W)=>ccask (HQU.out W hk) hb)
 obtain⟨R,hR⟩:∃ R,k.askR=R:=⟨_,rfl⟩
 rw [hR] at HA ⊢
 clear hR hb
 unfold TwTo
 unfold Mv.val
 go_in
 go_upto_region 1 with (fail)
 rw [HWA.out]
 go_wp2_with fail
 refine zQ (HSZ.out _ HKA.out) fun w1 k1=>?_
 have HK1:=zC (HKA.out.trans k1)
 obtain⟨⟨z0,z1,z2,z3,z4,zl⟩,⟨u0,u1,u2,ul⟩⟩:=HCF.out w1 k1.up
 have HK1A:=zC k1
 clear k1 y0 y1 y2 y3 y4 yl x0 x1 x2 xl
 go_wp2_with fail
 rw [HMOD.out]
 refine (HSA.out _ HK1.out).mono ?_
 rintro e w2 ⟨v5,rfl,hr5,k2⟩
 have hsh:=zW hr5
 obtain⟨p5,c5,hv5⟩:=hsh
 obtain rfl:=hv5
 have HK2:=zC (HK1.out.trans k2)
 obtain⟨⟨y0,y1,y2,y3,y4,yl⟩,⟨x0,x1,x2,xl⟩⟩:=HCF.out w2 (HK1A.out.trans k2).up
 have HK2A:=zC (HK1A.out.trans k2)
 clear k2 hr5 z0 z1 z2 z3 z4 zl u0 u1 u2 ul
 rw [HN.out]
 go_wp2_with fail
 go_quiet (first | (go_at_call 32;refine (HI.out _ (by assumption) _).mono ?_;rintro e w' ⟨rfl,rfl⟩;exact⟨rfl,_,rfl⟩))
 obtain⟨wq,hwq⟩:∃ wq,w2.drewN nq=wq:=⟨_,rfl⟩
 rw [hwq]
 have kq:Kz w2 wq:=by rw [← hwq];exact (zA.refl _ _).drewN _
 obtain⟨⟨z0,z1,z2,z3,z4,zl⟩,⟨u0,u1,u2,ul⟩⟩:=HCF.out wq (HK2A.out.trans kq).up
 have HKQ:=zC (HK2.out.trans kq)
 have HKQA:=zC (HK2A.out.trans kq)
 clear hwq kq y0 y1 y2 y3 y4 yl x0 x1 x2 xl HK2 HK2A
 go_wp2_with fail
 go_quiet (fail)
 obtain⟨wz,hwz⟩:∃ wz,wq.drewN nq=wz:=⟨_,rfl⟩
 rw [hwz]
 have kq:Kz wq wz:=by rw [← hwz];exact (zA.refl _ _).drewN _
 obtain⟨⟨y0,y1,y2,y3,y4,yl⟩,⟨x0,x1,x2,xl⟩⟩:=HCF.out wz (HKQA.out.trans kq).up
 have HK2:=zC (HKQ.out.trans kq)
 have HK2A:=zC (HKQA.out.trans kq)
 clear hwz kq z0 z1 z2 z3 z4 zl u0 u1 u2 ul HKQ HKQA
 go_wp2_with fail
 refine (HA.out _ (zA.q HK2.out)).mono ?_
 rintro e w3 ⟨rfl,hq3,hk3⟩
 have HQ3:=zC hq3
 have HK3:=zC (show zA (Dt w w0.heap.size) w w3 from Dt.trans (zA.up (zA.q HK2.out)) hk3)
 clear hq3 hk3
 go_wp2_with fail
 go_end0
 exact⟨rfl,HQ3.out,HK3.out⟩
end
end Go.Proofs.YtjfmagccmjdhoaaGreat
