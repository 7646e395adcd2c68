import Derived.Test.YtjfmagccmjdhoaaGreatCyE
set_option linter.unusedVariables false
set_option maxHeartbeats 2000000
set_option maxRecDepth 100000
namespace Go.Proofs.YtjfmagccmjdhoaaGreat
open Go.RowKit
def idx (x n:Nat):Nat:=if n=0 then 0 else x % n
def Mv.mo26 (x:Mv) (s:Sys):Mo:=
 let k:=x.m % s.M.K.many
 let n:=(s.A.rt k).n
 match x.kind % 16 with
 | 0=>.make k (x.a % 5:Nat) false
 | 1=>.make k 0 true
 | 2=>.load k (idx x.a n:Nat) (x.b % 4:Nat)
 | 3=>.store k (idx x.a n:Nat) (x.b % 4:Nat) (idx x.c n:Nat)
 | 4=>.store k (idx x.a n:Nat) (x.b % 4:Nat) (idx x.c n:Nat)
 | 5=>.store k (idx x.a n:Nat) (x.b % 4:Nat) (-1)
 | 6=>.drop k (idx x.a n:Nat)
 | 7=>.put k (idx x.a n:Nat) (x.b % 8:Nat)
 | 8=>.put k (-1) (x.b % 8:Nat)
 | _=>.get k (x.b % 8:Nat)
theorem Mv.mo26_who (x:Mv) (s:Sys):(x.mo26 s).who=x.m % s.M.K.many:=by
 unfold Mv.mo26
 dsimp only
 split <;> rfl
def Col.steps (room:Bool) (k:Col) (f:List Rf):Nat→Col × List Rf
 | 0=>(k,f)
 | i+1=>(((Col.steps room k f i).1.stepR room).c,((Col.steps room k f i).1.stepR room).more (Col.steps room k f i).2)
def Mv.turn26 (x:Mv) (k:Col) (f:List Rf):Col × List Rf:=
 if x.kind % 16<10 then (⟨(x.mo26 k.s).doR k.s,k.C⟩,f)
 else if x.kind % 16<12 then (⟨⟨k.s.A,(k.s.M.ackR k.s.A (x.m % k.s.M.K.many:Nat)).M⟩,k.C⟩,f)
 else if x.kind % 16=12 then (k.askR.1,f)
 else Col.steps (decide (64≤x.b)) k f (x.a % 8+1)
theorem index26 (x n:Nat) (w:World) (hx:x<256):
 Calls Tryz.prog 32 #[.int .u8 x,.int .i64 n] w fun e w'=>e = .returned (.int .i64 (idx x n:Nat))∧w'=w:=by
 by_cases hn:n=0
 ·have h0:idx x n=0:=by unfold idx;rw [if_pos hn]
  have hb:((n:Int) == 0)=true:=by simpa using hn
  rw [h0]
  clear hn h0
  go_in
  go_wp2_with fail
  go_ret
  exact⟨rfl,rfl⟩
 ·have h0:idx x n=x % n:=by unfold idx;rw [if_neg hn]
  have hb:((n:Int) == 0)=false:=by simpa using hn
  have hz:¬ (n:Int)=0:=by omega
  have hm:((x % n:Nat):Int)=(x:Int) % (n:Int):=by simp
  rw [h0,hm]
  clear h0 hm hn
  go_in
  go_wp2_with fail
  go_ret
  exact⟨rfl,rfl⟩
variable {w0 w w':World} {p a m b c:Nat} {LA:ArL} {LM:MkL} {k:Col} {f:List Rf}
theorem cells5 {w:World} {b:Nat} {v0 v1 v2 v3 v4:Value} {t:TypeId} (h:w.heap[b]?=some (.cells #[v0,v1,v2,v3,v4] t)):
 w.cell? ⟨b,0,none⟩=some v0∧w.cell? ⟨b,1,none⟩=some v1∧w.cell? ⟨b,2,none⟩=some v2∧w.cell? ⟨b,3,none⟩=some v3∧w.cell? ⟨b,4,none⟩=some v4∧b<w.heap.size:=
 ⟨zD h rfl,zD h rfl,zD h rfl,zD h rfl,zD h rfl,zF h⟩
theorem Quad.arF {A':Ar} (h:Quad w0 w a m b c LA LM k) (hk:zA (fun y=>LA.foot k.s.A.many y) w w') (ha:ArIn w' a LA A') (hm:A'.many=k.s.A.many):Quad w0 w' a m b c LA LM ⟨⟨A',k.s.M⟩,k.C⟩∧zA (zV LA LM b c k.s) w w':=
 ⟨h.both (s':=⟨A',k.s.M⟩) (hk.mono (fun _ _ h=>.inl h)) (Duo.arenaF h.tr.both hk ha hm) rfl rfl,hk.mono (fun _ _ h=>.inr (.inr (.inl h)))⟩
theorem Quad.mkF {M':Mk} (h:Quad w0 w a m b c LA LM k) (hd:Duo.To w0 w w' a m LA LM k.s.A k.s.M M') (hn:M'.P.n=k.s.M.P.n) (hm:M'.K.many=k.s.M.K.many):Quad w0 w' a m b c LA LM ⟨⟨k.s.A,M'⟩,k.C⟩∧zA (zV LA LM b c k.s) w w':=
 ⟨h.both (s':=⟨k.s.A,M'⟩) (hd.2.mono (fun _ _ h=>.inr h)) hd.1 hn hm,hd.2.mono (fun _ _ h=>.inr (.inr (.inr h)))⟩
theorem Pair.fin {d:Col} (h:Pair w0 w p a m b c LA LM k f) (hk:zA (zV LA LM b c k.s) w w') (hd:Quad w0 w' a m b c LA LM d):Pair w0 w' p a m b c LA LM d f∧PKeep w w' p (zV LA LM b c k.s):=by
 obtain⟨v,h1,_⟩:=h.ex
 exact⟨h.quad hk hd,h.keep0 hk (h.q.pairfoot h1)⟩
theorem turn_plain (x:Mv) (d:Col) (h:Pair w0 w p a m b c LA LM k f) (hok:k.Ok) (hx:x.Byte) (hb:k.C.begun<4611686018427387904) (hk:(x.kind % 16=6∧d=⟨(x.mo26 k.s).doR k.s,k.C⟩)∨(x.kind % 16=2∧d=⟨(x.mo26 k.s).doR k.s,k.C⟩)∨(x.kind % 16=9∧d=⟨(x.mo26 k.s).doR k.s,k.C⟩)∨(x.kind % 16=12∧d=k.askR.1)∨((x.kind:Int) % 16=10∧d=⟨⟨k.s.A,(k.s.M.ackR k.s.A (x.m % k.s.M.K.many:Nat)).M⟩,k.C⟩)∨((x.kind:Int) % 16=11∧d=⟨⟨k.s.A,(k.s.M.ackR k.s.A (x.m % k.s.M.K.many:Nat)).M⟩,k.C⟩)):
 Calls Tryz.prog 12 #[.pointer (some ⟨p,0,none⟩),x.val] w fun e w'=>e = .returned (.tuple #[])∧Pair w0 w' p a m b c LA LM d f∧PKeep w w' p (zV LA LM b c k.s):=by
 have hmany:=hok.s.m.k1;have hm4:=hok.s.m.k4
 obtain⟨hb0,hb1,hb2,hb3,hb4⟩:=hx
 have hz:¬ (k.s.M.K.many:Int)=0:=by omega
 obtain⟨mk,hmk⟩:∃ mk,x.m % k.s.M.K.many=mk:=⟨_,rfl⟩
 have hmkl:mk<k.s.M.K.many:=by rw [← hmk];exact Nat.mod_lt _ (by omega)
 have HMOD:=zC (show (x.m:Int) % (k.s.M.K.many:Int)=(mk:Int) by rw [← hmk];simp)
 obtain⟨n,hn⟩:∃ n,(k.s.A.rt mk).l.length=n:=⟨_,rfl⟩
 have hn2:(k.s.A.rt mk).n=n:=by rw [← hn];simp [Sk.l]
 obtain⟨wA,hwA⟩:∃ wA,w.alloc (.cells #[.int .u8 x.kind,.int .u8 x.m,.int .u8 x.a,.int .u8 x.b,.int .u8 x.c] 42)=wA:=⟨_,rfl⟩
 have kA:Kz w wA:=by rw [← hwA];exact (zA.refl _ _).alloc _
 have qA:wA.heap[w.heap.size]?=some (.cells #[.int .u8 x.kind,.int .u8 x.m,.int .u8 x.a,.int .u8 x.b,.int .u8 x.c] 42):=by rw [← hwA];exact zE
 obtain⟨v,hown,hrow⟩:=h.ex
 have hfl:=h.q.footlt
 have HCF:=zC (fun W (hk:zA (zV LA LM b c k.s) wA W)=>And.intro (cells5 (zB qA hk (fun hf=>by have:=hfl _ hf;omega))) (cells4 (zB (zB hown kA (fun h=>h)) hk (h.q.pairfoot hown))))
 have HSZ:=zC (fun W (hk:Kz w W)=>asizes_ok a LA k.s.A W (h.q.same hk).tr.both.ar)
 have HSA:=zC (fun W (hk:Kz w W)=>astackall_ok a LA k.s.A mk W (h.q.same hk).tr.both.ar (by rw [hok.s.k];exact hmkl))
 rw [hok.s.k] at HSZ
 have HQU:=zC (fun W (hk:Kz w W)=>h.q.same hk)
 have HFIN:=zC (fun W d (hk:zA (zV LA LM b c k.s) w W) (hd:Quad w0 W a m b c LA LM d)=>h.fin hk hd)
 have HFT:=zC hfl
 have HPC:=zC (fun W (hk:zA (zV LA LM b c k.s) w W)=>let q:=cells4 (zB hown hk (h.q.pairfoot hown));And.intro q.2.1 q.1)
 have HI:=zC (fun (y:Nat) (hy:y<256) W=>index26 y n W hy)
 have hw0:=zF qA
 have HKA:=zC kA;have HWA:=zC hwA;have HN:=zC hn;have HOK:=zC hok;have HMK:=zC hmk;have HN2:=zC hn2;have HMKL:=zC hmkl
 obtain⟨⟨y0,y1,y2,y3,y4,yl⟩,⟨x0,x1,x2,x3,xl⟩⟩:=HCF.out wA (zA.refl _ _)
 clear hn hn2 hmk kA hwA qA hown hrow hfl h hok hmkl hmany
 rw [HMK.out] at hk
 rcases hk with⟨hk,hd⟩ | ⟨hk,hd⟩ | ⟨hk,hd⟩ | ⟨hk,hd⟩ | ⟨hki,hd⟩ | ⟨hki,hd⟩
 focus
  have hki:(x.kind:Int) % 16=6:=by omega
  have hmo:(x.mo26 k.s).doR k.s=⟨(k.s.A.dropR mk (idx x.a n:Nat)).A,k.s.M⟩:=by
   have:x.mo26 k.s = .drop mk (idx x.a n:Nat):=by unfold Mv.mo26;dsimp only;rw [hk,HMK.out,HN2.out];rfl
   rw [this];rfl
  rw [hmo] at hd
  subst hd
  have HA:=zC (fun W (hk:Kz w W)=>(adrop_any a LA k.s.A mk (idx x.a n:Nat) W (HQU.out W hk).tr.both.ar).mono (fun e w' ⟨h1,h2,h3⟩=>And.intro h1 ((HQU.out W hk).arF h2 h3 (Ar.dropR_n _ _ _).2)))
  clear hk hmo
 rotate_left
 focus
  have hki:(x.kind:Int) % 16=2:=by omega
  have hmo:(x.mo26 k.s).doR k.s=⟨(k.s.A.loadR mk (idx x.a n:Nat) (x.b % 4:Nat)).A,k.s.M⟩:=by
   have:x.mo26 k.s = .load mk (idx x.a n:Nat) (x.b % 4:Nat):=by unfold Mv.mo26;dsimp only;rw [hk,HMK.out,HN2.out];rfl
   rw [this];rfl
  rw [hmo] at hd
  subst hd
  have HA:=zC (fun W (hk:Kz w W)=>(aload_any a LA k.s.A mk (idx x.a n:Nat) (x.b % 4:Nat) W (HQU.out W hk).tr.both.ar HOK.out.s.a).mono (fun e w' ⟨h1,h2,h3⟩=>And.intro h1 ((HQU.out W hk).arF h2 h3 (Ar.loadR_n _ _ _ _).2)))
  clear hk hmo
 rotate_left
 focus
  have hki:(x.kind:Int) % 16=9:=by omega
  have hmo:(x.mo26 k.s).doR k.s=⟨(k.s.A.getR mk (x.b % 8:Nat)).A,k.s.M⟩:=by
   have:x.mo26 k.s = .get mk (x.b % 8:Nat):=by unfold Mv.mo26;dsimp only;rw [hk,HMK.out,HN2.out];rfl
   rw [this];rfl
  rw [hmo] at hd
  subst hd
  have HA:=zC (fun W (hk:Kz w W)=>(aget_any a LA k.s.A mk (x.b % 8:Nat) W (HQU.out W hk).tr.both.ar HOK.out.s.a).mono (fun e w' ⟨h1,h2,h3⟩=>And.intro h1 ((HQU.out W hk).arF h2 h3 (Ar.getR_n _ _ _).2)))
  clear hk hmo
 rotate_left
 focus
  have hki:(x.kind:Int) % 16=12:=by omega
  subst hd
  have HA:=zC (fun W (hk:Kz w W)=>cyask (HQU.out W hk) hb)
  obtain⟨R,hR⟩:∃ R,k.askR=R:=⟨_,rfl⟩
  rw [hR] at HA ⊢
  clear hR hk
 rotate_left
 iterate 2
  focus
   subst hd
   have HA:=zC (fun W (hk:Kz w W)=>cyack (HQU.out W hk) HOK.out mk)
   obtain⟨R,hR⟩:∃ R,k.s.M.ackR k.s.A mk=R:=⟨_,rfl⟩
   rw [hR] at HA ⊢
   clear hR
  rotate_left
 all_goals
  clear hb
  unfold Mv.val
  go_in
  go_upto_region 1 with (fail)
  rw [HWA.out]
  go_wp2_with fail
  refine zQ (HSZ.out _ HKA.out) fun w1 k1=>?_
  have HK1:=zC (HKA.out.trans k1)
  obtain⟨⟨z0,z1,z2,z3,z4,zl⟩,⟨u0,u1,u2,u3,ul⟩⟩:=HCF.out w1 k1.up
  have HK1A:=zC k1
  clear k1 y0 y1 y2 y3 y4 yl x0 x1 x2 x3 xl
  go_wp2_with fail
  rw [HMOD.out]
  refine (HSA.out _ HK1.out).mono ?_
  rintro e w2 ⟨v5,rfl,hr5,k2⟩
  have hsh:=zW hr5
  obtain⟨p5,c5,hv5⟩:=hsh
  obtain rfl:=hv5
  have HK2:=zC (HK1.out.trans k2)
  obtain⟨⟨y0,y1,y2,y3,y4,yl⟩,⟨x0,x1,x2,x3,xl⟩⟩:=HCF.out w2 (HK1A.out.trans k2).up
  have HK2A:=zC (HK1A.out.trans k2)
  clear k2 hr5 z0 z1 z2 z3 z4 zl u0 u1 u2 u3 ul
  rw [HN.out]
  go_wp2_with fail
  go_quiet (first | (go_at_call 32;refine (HI.out _ (by assumption) _).mono ?_;rintro e w' ⟨rfl,rfl⟩;exact⟨rfl,_,rfl⟩))
  obtain⟨wq,hwq⟩:∃ wq,w2.drewN nq=wq:=⟨_,rfl⟩
  rw [hwq]
  have kq:Kz w2 wq:=by rw [← hwq];exact (zA.refl _ _).drewN _
  obtain⟨⟨z0,z1,z2,z3,z4,zl⟩,⟨u0,u1,u2,u3,ul⟩⟩:=HCF.out wq (HK2A.out.trans kq).up
  have HKQ:=zC (HK2.out.trans kq)
  have HKQA:=zC (HK2A.out.trans kq)
  clear hwq kq y0 y1 y2 y3 y4 yl x0 x1 x2 x3 xl HK2 HK2A
  go_wp2_with fail
  go_quiet (fail)
  obtain⟨wz,hwz⟩:∃ wz,wq.drewN nq=wz:=⟨_,rfl⟩
  rw [hwz]
  have kq:Kz wq wz:=by rw [← hwz];exact (zA.refl _ _).drewN _
  obtain⟨⟨y0,y1,y2,y3,y4,yl⟩,⟨x0,x1,x2,x3,xl⟩⟩:=HCF.out wz (HKQA.out.trans kq).up
  have HK2:=zC (HKQ.out.trans kq)
  have HK2A:=zC (HKQA.out.trans kq)
  clear hwz kq z0 z1 z2 z3 z4 zl u0 u1 u2 u3 ul HKQ HKQA
  go_wp2_with fail
  (first
   | (refine (HA.out _ (zA.q HK2.out)).mono ?_;rintro e w3 ⟨rfl,hq3,hk3⟩)
   | (go_region_held3 (fun W=>W.cell? ⟨p,1,none⟩=some (.pointer (some ⟨c,0,none⟩))∧W.cell? ⟨p,0,none⟩=some (.pointer (some ⟨a,0,none⟩)))
    ((refine HPC.out _ ?_;(with_reducible repeat first | exact HK2.out.up | refine zA.drewN ?_ _ | refine zA.drew ?_ | refine zA.trans ?_ (by with_reducible assumption))))
    (first | (go_at_call 16;refine (HA.out _ (zA.q HK2.out)).mono ?_;rintro e w3 ⟨rfl,hq3,hk3⟩))))
  have HQ3:=zC hq3
  have HK3:=zC (show zA (zV LA LM b c k.s) w w3 from zA.trans (zA.up (zA.q HK2.out)) hk3)
  clear hq3 hk3
  go_wp2_with fail
  go_end0
  exact⟨rfl,HFIN.out _ _ HK3.out HQ3.out⟩
end Go.Proofs.YtjfmagccmjdhoaaGreat
namespace Go.Proofs.YtjfmagccmjdhoaaGreat
open Go.RowKit
variable {w0 w w':World} {p a m b c:Nat} {LA:ArL} {LM:MkL} {k:Col} {f:List Rf}
theorem Quad.made (h:Quad w0 w a m b c LA LM k) (r:Rf):Calls Tryz.prog 94 #[.pointer (some ⟨m,0,none⟩),.agg #[.int .i64 r.s,.int .u32 r.g]] w
 fun e w'=>e = .returned (.int .i64 (k.s.M.madeR r).2)∧Quad w0 w' a m b c LA LM ⟨⟨k.s.A,(k.s.M.madeR r).1⟩,k.C⟩∧zA (zV LA LM b c k.s) w w':=
 (duo_made_any h.tr.both r).mono fun e w' ⟨h1,h2⟩=>⟨h1,h.mkF h2 (k.s.M.madeR_K r).2 (congrArg Ck.many (k.s.M.madeR_K r).1)⟩
theorem made26 (h:Quad w0 w a m b c LA LM k) (r:Rf):Calls Tryz.prog 34 #[.pointer (some ⟨m,0,none⟩),.agg #[.int .i64 r.s,.int .u32 r.g]] w
 fun e w'=>e = .returned (.bool ((k.s.M.madeR r).2 == 0))∧Quad w0 w' a m b c LA LM ⟨⟨k.s.A,(k.s.M.madeR r).1⟩,k.C⟩∧zA (zV LA LM b c k.s) w w':=by
 have HM:=zC (fun W (hk:Kz w W)=>(h.same hk).made r)
 obtain⟨wA,hwA⟩:∃ wA,w.alloc (.cells #[.int .i64 r.s,.int .u32 r.g] 51)=wA:=⟨_,rfl⟩
 have kA:Kz w wA:=by rw [← hwA];exact (zA.refl _ _).alloc _
 have qA:wA.heap[w.heap.size]?=some (.cells #[.int .i64 r.s,.int .u32 r.g] 51):=by rw [← hwA];exact zE
 obtain⟨R,hR⟩:∃ R,k.s.M.madeR r=R:=⟨_,rfl⟩
 rw [hR] at HM ⊢
 have HKA:=zC kA;have HW:=zC hwA
 obtain⟨x0,x1,xf,xl⟩:=zK qA
 clear h kA qA hwA hR xf
 go_in
 go_upto_region 1 with (fail)
 rw [HW.out]
 go_wp2_with fail
 refine (HM.out _ HKA.out).mono ?_
 rintro e w1 ⟨rfl,hq,hk⟩
 have HQ:=zC hq;have HK:=zC (HKA.out.up.trans hk)
 clear hq hk
 go_wp2_with fail
 go_ret
 exact⟨rfl,HQ.out,HK.out⟩
theorem turn_make (x:Mv) (h:Pair w0 w p a m b c LA LM k f) (hok:k.Ok) (hx:x.Byte) (hk:x.kind % 16=0∨x.kind % 16=1):
 Calls Tryz.prog 12 #[.pointer (some ⟨p,0,none⟩),x.val] w fun e w'=>e = .returned (.tuple #[])∧Pair w0 w' p a m b c LA LM ⟨(x.mo26 k.s).doR k.s,k.C⟩ f∧PKeep w w' p (zV LA LM b c k.s):=by
 have HF:=zC (fun W W' d (hW:Quad w0 W a m b c LA LM d) (hl:k.Like d) (hk:zA (fun y=>w.heap.size≤y) W W')=>h.q.far hW hl hk)
 have hmany:=hok.s.m.k1;have hm4:=hok.s.m.k4
 obtain⟨hb0,hb1,hb2,hb3,hb4⟩:=hx
 have hz:¬ (k.s.M.K.many:Int)=0:=by omega
 obtain⟨mk,hmk⟩:∃ mk,x.m % k.s.M.K.many=mk:=⟨_,rfl⟩
 have hmkl:mk<k.s.M.K.many:=by rw [← hmk];exact Nat.mod_lt _ (by omega)
 have HMOD:=zC (show (x.m:Int) % (k.s.M.K.many:Int)=(mk:Int) by rw [← hmk];simp)
 obtain⟨n,hn⟩:∃ n,(k.s.A.rt mk).l.length=n:=⟨_,rfl⟩
 have hn2:(k.s.A.rt mk).n=n:=by rw [← hn];simp [Sk.l]
 obtain⟨wA,hwA⟩:∃ wA,w.alloc (.cells #[.int .u8 x.kind,.int .u8 x.m,.int .u8 x.a,.int .u8 x.b,.int .u8 x.c] 42)=wA:=⟨_,rfl⟩
 have kA:Kz w wA:=by rw [← hwA];exact (zA.refl _ _).alloc _
 have qA:wA.heap[w.heap.size]?=some (.cells #[.int .u8 x.kind,.int .u8 x.m,.int .u8 x.a,.int .u8 x.b,.int .u8 x.c] 42):=by rw [← hwA];exact zE
 obtain⟨v,hown,hrow⟩:=h.ex
 have hfl:=h.q.footlt
 have HCF:=zC (fun W (hk:zA (zV LA LM b c k.s) wA W)=>And.intro (cells5 (zB qA hk (fun hf=>by have:=hfl _ hf;omega))) (cells4 (zB (zB hown kA (fun h=>h)) hk (h.q.pairfoot hown))))
 have HSZ:=zC (fun W (hk:Kz w W)=>asizes_ok a LA k.s.A W (h.q.same hk).tr.both.ar)
 have HSA:=zC (fun W (hk:Kz w W)=>astackall_ok a LA k.s.A mk W (h.q.same hk).tr.both.ar (by rw [hok.s.k];exact hmkl))
 rw [hok.s.k] at HSZ
 have HQU:=zC (fun W (hk:Kz w W)=>h.q.same hk)
 have HFIN:=zC (fun W d (hk:zA (zV LA LM b c k.s) w W) (hd:Quad w0 W a m b c LA LM d)=>h.fin hk hd)
 have HFT:=zC hfl
 have HPC:=zC (fun W (hk:zA (zV LA LM b c k.s) w W)=>let q:=cells4 (zB hown hk (h.q.pairfoot hown));And.intro q.2.1 q.1)
 have HI:=zC (fun (y:Nat) (hy:y<256) W=>index26 y n W hy)
 have hw0:=zF qA
 have HKA:=zC kA;have HWA:=zC hwA;have HN:=zC hn;have HOK:=zC hok;have HMK:=zC hmk;have HN2:=zC hn2;have HMKL:=zC hmkl
 obtain⟨⟨y0,y1,y2,y3,y4,yl⟩,⟨x0,x1,x2,x3,xl⟩⟩:=HCF.out wA (zA.refl _ _)
 clear hn hn2 hmk kA hwA qA hown hrow hfl h hok hmkl hmany
 obtain⟨j,hd,hmo,hj⟩:∃ (j:Int) (hd:Bool),(x.mo26 k.s).doR k.s=⟨(k.s.A.makeR mk j hd).A,if (k.s.A.makeR mk j hd).e=0 then (k.s.M.madeR (k.s.A.makeR mk j hd).now).1 else k.s.M⟩∧(((x.kind:Int) % 16=0∧j=(x.a % 5:Nat)∧hd=false)∨((x.kind:Int) % 16=1∧j=0∧hd=true)):=by
  rcases hk with hk | hk
  ·exact⟨_,_,by (have:x.mo26 k.s = .make mk (x.a % 5:Nat) false:=by unfold Mv.mo26;dsimp only;rw [hk,HMK.out];rfl);rw [this];rfl,.inl ⟨by omega,rfl,rfl⟩⟩
  ·exact⟨_,_,by (have:x.mo26 k.s = .make mk 0 true:=by unfold Mv.mo26;dsimp only;rw [hk,HMK.out];rfl);rw [this];rfl,.inr ⟨by omega,rfl,rfl⟩⟩
 rw [hmo]
 have HA:=zC (fun W (hk:Kz w W)=>(amake_any a LA k.s.A mk j hd W (HQU.out W hk).tr.both.ar HOK.out.s.a).mono (fun e w' ⟨h1,h2,h3⟩=>And.intro h1 ((HQU.out W hk).arF h2 h3 (Ar.makeR_n _ _ _ _).2)))
 obtain⟨N,_,_,hcode⟩:=did_makeR HOK.out.s HOK.out.safe (k:=mk) (by rw [HOK.out.s.k];exact HMKL.out) j hd
 have hmy:(k.s.A.makeR mk j hd).A.many=k.s.A.many:=(Ar.makeR_n _ _ _ _).2
 obtain⟨R,hR⟩:∃ R,k.s.A.makeR mk j hd=R:=⟨_,rfl⟩
 rw [hR] at HA hcode hmy ⊢
 have HDI:=zC hcode
 have HWR:=zC (fun W (hq:Quad w0 W a m b c LA LM ⟨⟨R.A,k.s.M⟩,k.C⟩)=>made26 hq R.now)
 rw [foot3_of (s:=k.s) (t:=⟨R.A,k.s.M⟩) hmy rfl] at HWR
 have hlike:k.Like ⟨⟨R.A,k.s.M⟩,k.C⟩:=⟨rfl,rfl,hmy⟩
 have HLK:=zC hlike
 obtain⟨T,hT⟩:∃ T,(if R.e=0 then (k.s.M.madeR R.now).1 else k.s.M)=T:=⟨_,rfl⟩
 have HT:=zC hT
 rw [hT]
 clear hk hmo hR hmy hT hcode hlike
 rcases hj with⟨hki,rfl,rfl⟩ | ⟨hki,rfl,rfl⟩
 all_goals
  have hkt:(x.kind:Int).tmod 16=(x.kind:Int) % 16:=Int.tmod_eq_emod_of_nonneg (by omega)
  rw [hki] at hkt
  unfold Mv.val
  go_in
  go_upto_region 1 with (fail)
  rw [HWA.out]
  go_wp2_with fail
  refine zQ (HSZ.out _ HKA.out) fun w1 k1=>?_
  have HK1:=zC (HKA.out.trans k1)
  obtain⟨⟨z0,z1,z2,z3,z4,zl⟩,⟨u0,u1,u2,u3,ul⟩⟩:=HCF.out w1 k1.up
  have HK1A:=zC k1
  clear k1 y0 y1 y2 y3 y4 yl x0 x1 x2 x3 xl
  go_wp2_with fail
  rw [HMOD.out]
  refine (HSA.out _ HK1.out).mono ?_
  rintro e w2 ⟨v5,rfl,hr5,k2⟩
  have hsh:=zW hr5
  obtain⟨p5,c5,hv5⟩:=hsh
  obtain rfl:=hv5
  have HK2:=zC (HK1.out.trans k2)
  obtain⟨⟨y0,y1,y2,y3,y4,yl⟩,⟨x0,x1,x2,x3,xl⟩⟩:=HCF.out w2 (HK1A.out.trans k2).up
  have HK2A:=zC (HK1A.out.trans k2)
  clear k2 hr5 z0 z1 z2 z3 z4 zl u0 u1 u2 u3 ul
  rw [HN.out]
  go_wp2_with fail
  go_quiet (first | (go_at_call 32;refine (HI.out _ (by assumption) _).mono ?_;rintro e w' ⟨rfl,rfl⟩;exact⟨rfl,_,rfl⟩))
  obtain⟨wq,hwq⟩:∃ wq,w2.drewN nq=wq:=⟨_,rfl⟩
  rw [hwq]
  have kq:Kz w2 wq:=by rw [← hwq];exact (zA.refl _ _).drewN _
  obtain⟨⟨z0,z1,z2,z3,z4,zl⟩,⟨u0,u1,u2,u3,ul⟩⟩:=HCF.out wq (HK2A.out.trans kq).up
  have HKQ:=zC (HK2.out.trans kq)
  have HKQA:=zC (HK2A.out.trans kq)
  clear hwq kq y0 y1 y2 y3 y4 yl x0 x1 x2 x3 xl HK2 HK2A
  go_wp2_with fail
  go_quiet (fail)
  obtain⟨wz,hwz⟩:∃ wz,wq.drewN nq=wz:=⟨_,rfl⟩
  rw [hwz]
  have kq:Kz wq wz:=by rw [← hwz];exact (zA.refl _ _).drewN _
  obtain⟨⟨y0,y1,y2,y3,y4,yl⟩,⟨x0,x1,x2,x3,xl⟩⟩:=HCF.out wz (HKQA.out.trans kq).up
  have HK2:=zC (HKQ.out.trans kq)
  have HK2A:=zC (HKQA.out.trans kq)
  clear hwz kq z0 z1 z2 z3 z4 zl u0 u1 u2 u3 ul HKQ HKQA
  go_wp2_with fail
  have hzw:=HK2.out.size
  have hzA:=HK2A.out.size
  have HPS:=zC (fun W (hk:zA (zV LA LM b c k.s) wA W)=>And.intro (HCF.out W hk).2.1 (HCF.out W hk).1.1)
  clear y0 y1 y2 y3 y4 yl x0 x1 x2 x3 xl
  go_region_held3 (fun W=>W.cell? ⟨p,0,none⟩=some (.pointer (some ⟨a,0,none⟩))∧W.cell? ⟨w.heap.size,0,none⟩=some (.int .u8 x.kind))
   ((refine HPS.out _ ?_;(with_reducible repeat first | exact HK2A.out.up | refine zA.alloc ?_ _ | refine zA.drew ?_ | refine zA.setCell ?_ (.inr ?_) _ | refine zA.trans ?_ hk3) <;> (dsimp only;omega)))
   (first | (go_at_call 33;refine (HA.out _ (zA.q HK2.out)).mono ?_;rintro e w3 ⟨rfl,hq3,hk3⟩;dsimp only [Rf.val];have hkw:zA (zV LA LM b c k.s) w w3:=zA.trans (zA.q HK2.out.up) hk3;have hks:=hkw.size;(first | (have nb:=zB (show (World.drew (wz.alloc (.cells #[.int .i64 0,.int .u32 0] 51))).heap[wz.heap.size]?=_ from zE) hk3 (fun hf=>by have:=HFT.out _ hf;omega);have nx:=zK nb;obtain⟨n0,n1,nf,nl⟩:=nx;have nf0:=nf 0;have nf1:=nf 1) | skip)))
  ·obtain⟨w4,hw4⟩:∃ w4,w3.alloc (.cells #[.int .i64 R.now.s,.int .u32 R.now.g] 51)=w4:=⟨_,rfl⟩
   have hB:w4.heap[w3.heap.size]?=some (.cells #[.int .i64 R.now.s,.int .u32 R.now.g] 51):=by rw [← hw4];exact zE
   have lB:w.heap.size≤w3.heap.size:=hks
   have hq4:Quad w0 w4 a m b c LA LM ⟨⟨R.A,k.s.M⟩,k.C⟩:=by rw [← hw4];exact hq3.same ((zA.refl _ _).alloc _)
   have hk4:zA (zV LA LM b c k.s) w w4:=by rw [← hw4];exact hkw.alloc _
   have HW4:=zC hw4
   clear hw4 hq3 hk3 hkw
   have hcs:=hk4.size
   have HQ4:=zC hq4;have HK4:=zC hk4
   have HHS:=zC (fun W (hk:zA (zV LA LM b c k.s) w4 W)=>let q:=zK (zB hB hk (fun hf=>by have:=HFT.out _ hf;omega));And.intro (HPC.out W (HK4.out.trans hk)).1 (And.intro q.1 q.2.1))
   have HMR:=zC (fun W (hk:Kz w4 W)=>cymarker (HQ4.out.same hk))
   clear hq4 hk4 hB
   go_upto_region 20 with (fail)
   rw [HW4.out]
   by_cases he:R.e=0
   ·have he1:(R.e == 0)=true:=by simpa using he
    have h0:=(HDI.out he).1
    have hT0:(k.s.M.madeR R.now).1=T:=by have:=HT.out;rwa [if_pos he] at this
    rw [h0,hT0,show ((0:Int) == 0)=true from rfl] at HWR
    clear he h0 hT0
    go_region_held3 (fun W=>W.cell? ⟨p,1,none⟩=some (.pointer (some ⟨c,0,none⟩))∧W.cell? ⟨w3.heap.size,0,none⟩=some (.int .i64 R.now.s)∧W.cell? ⟨w3.heap.size,1,none⟩=some (.int .u32 R.now.g))
     ((refine HHS.out _ ?_;(with_reducible repeat first | exact zA.refl _ _ | refine zA.drewN ?_ _ | refine zA.drew ?_ | refine zA.trans ?_ (by with_reducible assumption))))
     (first
      | (go_at_call 35;refine (HMR.out _ zA.r).mono ?_;rintro e w5 ⟨rfl,rfl⟩)
      | (go_at_call 34;refine (HWR.out _ (HQ4.out.same zA.r)).mono ?_;rintro e w6 ⟨rfl,hq6,hk6⟩))
    all_goals
     go_wp2_with fail
     go_end0
     exact⟨rfl,HFIN.out _ _ (HK4.out.trans (zA.trans (zA.up zA.r) hk6)) hq6⟩
   ·have he1:(R.e == 0)=false:=by simpa using he
    have hT0:k.s.M=T:=by have:=HT.out;rwa [if_neg he] at this
    have HQT:=zC (show Quad w0 w4 a m b c LA LM ⟨⟨R.A,T⟩,k.C⟩ by rw [← hT0];exact HQ4.out)
    clear he hT0
    go_quiet (fail)
    go_wp2_with fail
    go_end0
    exact⟨rfl,HFIN.out _ _ (HK4.out.drewN _) (HQT.out.same ((zA.refl _ _).drewN _))⟩
  ·obtain⟨w4,hw4⟩:∃ w4,(w3.setCell ⟨wz.heap.size,0,none⟩ (.int .i64 R.now.s)).setCell ⟨wz.heap.size,1,none⟩ (.int .u32 R.now.g)=w4:=⟨_,rfl⟩
   have hB:w4.heap[wz.heap.size]?=some (.cells #[.int .i64 R.now.s,.int .u32 R.now.g] 51):=by rw [← hw4];exact fin2 nb
   have lB:w.heap.size≤wz.heap.size:=hzw
   have hq4:Quad w0 w4 a m b c LA LM ⟨⟨R.A,k.s.M⟩,k.C⟩:=by rw [← hw4];exact HF.out _ _ _ hq3 HLK.out ((kfin0 _ _ _ _).mono (fun y _ h=>by omega))
   have hk4:zA (zV LA LM b c k.s) w w4:=by rw [← hw4];exact kfin hkw hzw _ _
   have HW4:=zC hw4
   clear hw4 hq3 hk3 hkw nb n0 n1 nf nf0 nf1 nl
   have hcs:=hk4.size
   have HQ4:=zC hq4;have HK4:=zC hk4
   have HHS:=zC (fun W (hk:zA (zV LA LM b c k.s) w4 W)=>let q:=zK (zB hB hk (fun hf=>by have:=HFT.out _ hf;omega));And.intro (HPC.out W (HK4.out.trans hk)).1 (And.intro q.1 q.2.1))
   have HMR:=zC (fun W (hk:Kz w4 W)=>cymarker (HQ4.out.same hk))
   clear hq4 hk4 hB
   go_upto_region 20 with (fail)
   rw [HW4.out]
   by_cases he:R.e=0
   ·have he1:(R.e == 0)=true:=by simpa using he
    have h0:=(HDI.out he).1
    have hT0:(k.s.M.madeR R.now).1=T:=by have:=HT.out;rwa [if_pos he] at this
    rw [h0,hT0,show ((0:Int) == 0)=true from rfl] at HWR
    clear he h0 hT0
    go_region_held3 (fun W=>W.cell? ⟨p,1,none⟩=some (.pointer (some ⟨c,0,none⟩))∧W.cell? ⟨wz.heap.size,0,none⟩=some (.int .i64 R.now.s)∧W.cell? ⟨wz.heap.size,1,none⟩=some (.int .u32 R.now.g))
     ((refine HHS.out _ ?_;(with_reducible repeat first | exact zA.refl _ _ | refine zA.drewN ?_ _ | refine zA.drew ?_ | refine zA.trans ?_ (by with_reducible assumption))))
     (first
      | (go_at_call 35;refine (HMR.out _ zA.r).mono ?_;rintro e w5 ⟨rfl,rfl⟩)
      | (go_at_call 34;refine (HWR.out _ (HQ4.out.same zA.r)).mono ?_;rintro e w6 ⟨rfl,hq6,hk6⟩))
    all_goals
     go_wp2_with fail
     go_end0
     exact⟨rfl,HFIN.out _ _ (HK4.out.trans (zA.trans (zA.up zA.r) hk6)) hq6⟩
   ·have he1:(R.e == 0)=false:=by simpa using he
    have hT0:k.s.M=T:=by have:=HT.out;rwa [if_neg he] at this
    have HQT:=zC (show Quad w0 w4 a m b c LA LM ⟨⟨R.A,T⟩,k.C⟩ by rw [← hT0];exact HQ4.out)
    clear he hT0
    go_quiet (fail)
    go_wp2_with fail
    go_end0
    exact⟨rfl,HFIN.out _ _ (HK4.out.drewN _) (HQT.out.same ((zA.refl _ _).drewN _))⟩
end Go.Proofs.YtjfmagccmjdhoaaGreat
