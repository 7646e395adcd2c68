import Derived.Test.YtjfmagccmjdhoaaGreatCkA
import Derived.Deep.RegionLaw
import Derived.Test.YtjfmagccmjdhoaaGreatCyE
set_option maxHeartbeats 2000000
set_option maxRecDepth 100000
namespace Go.Proofs.YtjfmagccmjdhoaaGreat
open Go.RowKit
section
variable {F:Nat→Prop} {w0 w w':World} {a m x y qq b z t:Nat} {LA:ArL} {LM:MkL} {A:Ar} {M:Mk} {s:Sys} {k k':Col} {f:List Rf}
theorem FD.stack (h:FD w0 w a m LA LM x y A M s qq) (i:Nat) (hi:i<s.A.many):Calls Tryz.prog 43 #[.pointer (some ⟨x,0,none⟩),.int .i64 i] w fun e w'=>∃ v,e = .returned (.tuple #[v,.int .i64 0])∧Row w' w.heap.size v (s.A.rt i).l∧Kz w w':=by
 obtain⟨LR,_,h2,_⟩:=Fo.doc h
 exact stack18 i h2 hi
theorem Dc.arF {B':Ar} (h:Dc F w0 w a m LA LM x y A M qq b z k) (ho:Fo.Og F w0 w w' a m LA LM x y A M B' k.s.M qq):Dc F w0 w' a m LA LM x y A M qq b z ⟨⟨B',k.s.M⟩,k.C⟩∧zA (Dt w w0.heap.size) w w':=
 ⟨h.op (s':=⟨B',k.s.M⟩) ho.1 ho.2 rfl rfl,Gt.dt ho.2⟩
theorem Dc.mkF {M':Mk} (h:Dc F w0 w a m LA LM x y A M qq b z k) (ho:Fo.Og F w0 w w' a m LA LM x y A M k.s.A M' qq) (hn:M'.P.n=k.s.M.P.n) (hm:M'.K.many=k.s.M.K.many):Dc F w0 w' a m LA LM x y A M qq b z ⟨⟨k.s.A,M'⟩,k.C⟩∧zA (Dt w w0.heap.size) w w':=
 ⟨h.op (s':=⟨k.s.A,M'⟩) ho.1 ho.2 hn hm,Gt.dt ho.2⟩
theorem dcmade (h:Dc F w0 w a m LA LM x y A M qq b z k) (r:Rf):Calls Tryz.prog 46 #[.pointer (some ⟨y,0,none⟩),.agg #[.int .i64 r.s,.int .u32 r.g]] w
 fun e w'=>e = .returned (.int .i64 (k.s.M.madeR r).2)∧Dc F w0 w' a m LA LM x y A M qq b z ⟨⟨k.s.A,(k.s.M.madeR r).1⟩,k.C⟩∧zA (Dt w w0.heap.size) w w':=
 (Fo.gmade h.fd r).mono fun _ _ ⟨h1,h2⟩=>⟨h1,h.mkF h2 (k.s.M.madeR_K r).2 (congrArg Ck.many (k.s.M.madeR_K r).1)⟩
theorem dcwrote (h:Dc F w0 w a m LA LM x y A M qq b z k) (i:Int) (r q:Rf):Calls Tryz.prog 49 #[.pointer (some ⟨y,0,none⟩),.int .i64 i,.agg #[.int .i64 r.s,.int .u32 r.g],.agg #[.int .i64 q.s,.int .u32 q.g]] w
 fun e w'=>e = .returned (.int .i64 (k.s.M.wroteR i r q).2)∧Dc F w0 w' a m LA LM x y A M qq b z ⟨⟨k.s.A,(k.s.M.wroteR i r q).1⟩,k.C⟩∧zA (Dt w w0.heap.size) w w':=
 (Fo.gwrote h.fd i r q).mono fun _ _ ⟨h1,h2⟩=>⟨h1,h.mkF h2 (by rw [(Mk.wroteR_K k.s.M i r q).2]) (by rw [(Mk.wroteR_K k.s.M i r q).1])⟩
structure Tn (F:Nat→Prop) (w0 w:World) (a m:Nat) (LA:ArL) (LM:MkL) (x y:Nat) (A:Ar) (M:Mk) (qq b z t:Nat) (k:Col) (f:List Rf):Prop where
 dc:Dc F w0 w a m LA LM x y A M qq b z k
 ex:∃ v,w.heap[t]?=some (.cells #[.pointer (some ⟨x,0,none⟩),.pointer (some ⟨z,0,none⟩),v] 66)∧Row w w0.heap.size v f∧∀ u,v.ownBlock=some u→F u
 ht:w0.heap.size≤t
theorem Row.dt {N base:Nat} {v:Value} {l:List Rf} (h:Row w base v l) (hk:zA (Dt w N) w w'):Row w' base v l:=
 h.keeps hk (fun y _ _ hy ⟨_,c,u,hc,hu⟩=>by
  rcases h.2 with⟨rfl,_⟩ | ⟨g,cap,cur,rfl,_,hg,_⟩
  ·cases hy
  ·obtain rfl:g=y:=Option.some.inj hy
   rw [hg] at hc
   simp at hc
   rw [← hc.2] at hu
   revert hu;decide)
theorem Tn.fin (h:Tn F w0 w a m LA LM x y A M qq b z t k f) (hd:Dc F w0 w' a m LA LM x y A M qq b z k') (hk:zA (Dt w w0.heap.size) w w'):Tn F w0 w' a m LA LM x y A M qq b z t k' f:=by
 obtain⟨_,⟨v,h1,h2,h3⟩,ht⟩:=h
 exact⟨hd,⟨v,Dt.block hk h1 (by decide),h2.dt hk,h3⟩,ht⟩
theorem Tn.quiet (h:Tn F w0 w a m LA LM x y A M qq b z t k f) (hk:Kz w w'):Tn F w0 w' a m LA LM x y A M qq b z t k f:=
 h.fin (h.dc.quiet hk) hk.up
def TKeep (w w':World) (N t:Nat):Prop:=
 ∃ v v',w.cell? ⟨t,2,none⟩=some v∧w'.cell? ⟨t,2,none⟩=some v'∧zA (fun g=>(Dt w N g∨g=t)∨v.ownBlock=some g) w w'∧(v'.ownBlock=v.ownBlock∨∀ g,v'.ownBlock=some g→w.heap.size≤g)
theorem TKeep.trans {N:Nat} {w1 w2 w3:World} (h:TKeep w1 w2 N t) (k:TKeep w2 w3 N t):TKeep w1 w3 N t:=by
 obtain⟨v,v',h1,h2,h3,h4⟩:=h
 obtain⟨q,q',k1,k2,k3,k4⟩:=k
 obtain rfl:v'=q:=by rw [h2] at k1;exact Option.some.inj k1
 refine⟨v,q',h1,k2,h3.trans' k3 (fun _ _ h=>h) (fun g hg h=>?_),?_⟩
 ·by_cases e:(Dt w1 N g∨g=t)∨v.ownBlock=some g
  ·exact e
  rcases h with (⟨hN,cc,tt,hc,ht⟩ | h) | h
  ·rw [h3.block g hg e] at hc
   exact .inl (.inl ⟨hN,cc,tt,hc,ht⟩)
  ·exact .inl (.inr h)
  ·rcases h4 with h4 | h4
   ·exact .inr (h4 ▸ h)
   ·have:=h4 g h;omega
 ·rcases k4 with k4 | k4
  ·rcases h4 with h4 | h4
   ·exact .inl (k4.trans h4)
   ·exact .inr (fun g hg=>h4 g (k4 ▸ hg))
  ·exact .inr (fun g hg=>Nat.le_trans h3.size (k4 g hg))
theorem Tn.c2 (h:Tn F w0 w a m LA LM x y A M qq b z t k f):∃ v,w.cell? ⟨t,2,none⟩=some v∧∀ g,v.ownBlock=some g→F g∧∃ cc,w.heap[g]?=some (.cells cc 51):=by
 obtain⟨_,⟨v,h1,h2,h3⟩,_⟩:=h
 refine⟨v,zD h1 rfl,fun g hg=>⟨h3 g hg,?_⟩⟩
 rcases h2.2 with⟨rfl,_⟩ | ⟨g',cap,cur,rfl,_,hb,_⟩
 ·cases hg
 ·obtain rfl:g'=g:=Option.some.inj hg
  exact⟨_,hb⟩
theorem Tn.keep (h:Tn F w0 w a m LA LM x y A M qq b z t k f) (hk:zA (Dt w w0.heap.size) w w'):TKeep w w' w0.heap.size t:=by
 obtain⟨_,⟨v,h1,_⟩,_⟩:=h
 exact⟨v,v,zD h1 rfl,zD (Dt.block hk h1 (by decide)) rfl,hk.mono (fun _ _ h=>.inl (.inl h)),.inl rfl⟩
theorem TKeep.block {N x':Nat} {cc:Array Value} {T:TypeId} (h:TKeep w w' N t) (hx:w.heap[x']?=some (.cells cc T)) (h1:¬ DTy T) (h2:x'≠t) (h3:∀ v,w.cell? ⟨t,2,none⟩=some v→v.ownBlock≠some x'):w'.heap[x']?=some (.cells cc T):=by
 obtain⟨v,v',e1,e2,e3,e4⟩:=h
 refine zB hx e3 ?_
 rintro ((⟨_,c',t',hc,ht⟩ | h) | h)
 ·rw [hx] at hc;simp at hc;rw [← hc.2] at ht;exact h1 ht
 ·exact h2 h
 ·exact h3 v e1 h
end
end Go.Proofs.YtjfmagccmjdhoaaGreat
namespace Go.Proofs.YtjfmagccmjdhoaaGreat
open Go.RowKit
attribute [local go_sem] Oper.semAt_some
theorem new26R (n k q p:Nat) (z:Nat→Int) (w:World) (n1:1≤n) (n2:n≤256) (k1:1≤k) (k4:k≤4) (s1:1≤q) (s2:q≤64) (p1:1≤p) (p2:p≤64):
 Calls Tryz.prog 24 #[cfgV n k q p z] w fun e w'=>∃ u y b,e = .returned (.tuple #[.pointer (some ⟨u,0,none⟩),.int .i64 0])∧Kz w w'∧w.heap.size≤u∧w.heap.size≤b∧D24 w.heap.size w' y (Mk.new n k q p) p∧DwAt w' b ⟨n,n,0⟩∧CcAt w' u y b (Col.new n k q p):=by
 have HN:=zC (fun W=>new24R n k q p W n1 n2 k1 k4 s1 s2 p1 p2)
 have HS:=zC (fun W=>new25_ok n W n1 n2)
 obtain⟨wA,hwA⟩:∃ wA,w.alloc (.cells #[.int .i64 n,.int .i64 k,.int .i64 q,.int .i64 p,.int .i64 (z 0),.int .i64 (z 1),.int .i64 (z 2),.int .i64 (z 3),.int .i64 (z 4),.int .u32 (z 5)] 26)=wA:=⟨_,rfl⟩
 have kA:Kz w wA:=by rw [← hwA];exact (zA.refl _ _).alloc _
 have qA:wA.heap[w.heap.size]?=some (.cells #[.int .i64 n,.int .i64 k,.int .i64 q,.int .i64 p,.int .i64 (z 0),.int .i64 (z 1),.int .i64 (z 2),.int .i64 (z 3),.int .i64 (z 4),.int .u32 (z 5)] 26):=by rw [← hwA];exact zE
 have HKA:=zC kA;have HQA:=zC qA;have HW:=zC hwA
 clear kA qA hwA
 clear n1 n2 k1 k4 s1 s2 p1 p2
 unfold cfgV
 go_in
 go_upto_region 1 with (fail)
 rw [HW.out]
 obtain⟨x0,x1,x2,x3,x4,x5,x6,x7,x8,x9,_,xl⟩:=zZ HQA.out
 go_wp2_with fail
 refine (HN.out _).mono ?_
 rintro e w1 ⟨y,rfl,k1,h24⟩
 have K1:=zC (HKA.out.trans k1);have H24:=zC h24
 have HQ1:=zC (zB HQA.out k1 (fun h=>h))
 have LC:=zC HKA.out.size
 clear k1 h24 x0 x1 x2 x3 x4 x5 x6 x7 x8 x9 xl
 obtain⟨x0,x1,x2,x3,x4,x5,x6,x7,x8,x9,_,xl⟩:=zZ HQ1.out
 go_wp2_with fail
 refine (HS.out _).mono ?_
 rintro e w2 ⟨rfl,k2,q2⟩
 have K2:=zC (K1.out.trans k2);have H24b:=zC (H24.out.k0 k2)
 have HQ2:=zC (zB HQ1.out k2 (fun h=>h));have HS2:=zC q2
 clear k2 q2 x0 x1 x2 x3 x4 x5 x6 x7 x8 x9 xl
 obtain⟨x0,x1,x2,x3,x4,x5,x6,x7,x8,x9,_,xl⟩:=zZ HQ2.out
 go_wp2_with fail
 refine bodyPost_ret_by (v:=.tuple #[.pointer (some ⟨w2.heap.size,0,none⟩),.int .i64 0]) (by simp [results,Tryz.results24,go_sem, *]) rfl ⟨w2.heap.size,y,w1.heap.size,rfl,K2.out.alloc _,K2.out.size,K1.out.size,(H24b.out.k0 ((zA.refl _ _).alloc _)).low LC.out,zG HS2.out,zE⟩
theorem begin26N (n k s p:Nat) (z:Nat→Int) (w:World) (n1:1≤n) (n2:n≤256) (k1:1≤k) (k4:k≤4) (s1:1≤s) (s2:s≤64) (p1:1≤p) (p2:p≤64):
 Calls Tryz.prog 6 #[cfgV n k s p z] w fun e w'=>∃ q,e = .returned (.tuple #[.pointer (some ⟨q,0,none⟩),.bool true])∧∃ w0 a m b c LA LM,Kz w w0∧Pair w0 w' q a m b c LA LM (Col.new n k s p) []∧w'.cell? ⟨q,2,none⟩=some (.slice none 0 0):=by
 obtain⟨wA,hwA⟩:∃ wA,w.alloc (.cells #[.int .i64 n,.int .i64 k,.int .i64 s,.int .i64 p,.int .i64 (z 0),.int .i64 (z 1),.int .i64 (z 2),.int .i64 (z 3),.int .i64 (z 4),.int .u32 (z 5)] 26)=wA:=⟨_,rfl⟩
 have kA:Kz w wA:=by rw [← hwA];exact (zA.refl _ _).alloc _
 have qA:wA.heap[w.heap.size]?=some (.cells #[.int .i64 n,.int .i64 k,.int .i64 s,.int .i64 p,.int .i64 (z 0),.int .i64 (z 1),.int .i64 (z 2),.int .i64 (z 3),.int .i64 (z 4),.int .u32 (z 5)] 26):=by rw [← hwA];exact zE
 have HKA:=zC kA;have HQA:=zC qA;have HW:=zC hwA
 have HAN:=zC (fun W=>anew_ok n k 1 W (by omega) (by omega) k1 k4 (by omega) (by omega))
 have HCN:=zC (fun W=>cynew_ok n k s p z W n1 n2 k1 k4 s1 s2 p1 p2)
 clear kA qA hwA n1 n2 k1 k4 s1 s2 p1 p2
 unfold cfgV at HCN ⊢
 go_in
 go_upto_region 1 with (fail)
 rw [HW.out]
 obtain⟨x0,x1,x2,x3,x4,x5,x6,x7,x8,x9,_,xl⟩:=zZ HQA.out
 go_wp2_with fail
 refine (HAN.out _).mono ?_
 rintro e w1 ⟨a,rfl,k1,ha⟩
 rw [Int.toNat_natCast] at ha
 have HK1:=zC k1;have HA1:=zC ha
 have HQ1:=zC (zB HQA.out k1 (fun h=>h))
 clear k1 ha x0 x1 x2 x3 x4 x5 x6 x7 x8 x9 xl
 obtain⟨x0,x1,x2,x3,x4,x5,x6,x7,x8,x9,_,xl⟩:=zZ HQ1.out
 go_wp2_with fail
 refine (HCN.out _).mono ?_
 rintro e w2 ⟨c,m,b,LM,rfl,k2,hm,hb,hs,lb,hc,lc⟩
 have HK2:=zC k2;have HM2:=zC hm;have HB2:=zC hb;have HS2:=zC hs;have HC2:=zC hc
 clear k2 hm hb hs hc x0 x1 x2 x3 x4 x5 x6 x7 x8 x9 xl
 go_wp2_with fail
 have hz0:=HKA.out.size;have hz1:=HK1.out.size;have hz2:=HK2.out.size
 obtain⟨LA,hd⟩:=Duo.new (w0:=wA) (A:=Ar.new n k 1) (M:=Mk.new n k s p) HK1.out HA1.out HK2.out HM2.out HB2.out
 refine bodyPost_ret_by (v:=.tuple #[.pointer (some ⟨w2.heap.size,0,none⟩),.bool true]) (by simp [results,Tryz.results6,go_sem, *]) rfl ⟨w2.heap.size,rfl,wA,a,m,b,c,LA,LM,HKA.out,⟨⟨⟨?_,HS2.out.keeps ((zA.refl (fun _=>False) _).alloc _) (fun h=>h),by show wA.heap.size≤b;omega⟩,zG HC2.out,by omega⟩,⟨_,zE,Row.nil _ _⟩,by omega⟩,zD (i:=2) zE rfl⟩
 exact Duo.same hd ((zA.refl _ _).alloc _)
theorem begins26 (n k q p:Nat) (z:Nat→Int) {w0 w:World} {a m:Nat} {LA:ArL} {LM:MkL} {A:Ar} {M:Mk} (hd:Duo w0 w a m LA LM A M) (n1:1≤n) (n2:n≤256) (k1:1≤k) (k4:k≤4) (s1:1≤q) (s2:q≤64) (p1:1≤p) (p2:p≤64):
 Calls Tryz.prog 7 #[cfgV n k q p z] w fun e w'=>∃ t x y b u,e = .returned (.pointer (some ⟨t,0,none⟩))∧Kz w w'∧Tn (fun _=>False) w0 w' a m LA LM x y A M p b u t (Col.new n k q p) []:=by
 have HA:=zC (fun W=>new18_ok (w:=W) n k 1 (by omega) (by omega) (by omega) (by omega) (by omega) (by omega))
 have HN:=zC (fun W=>new26R n k q p z W n1 n2 k1 k4 s1 s2 p1 p2)
 have HD:=zC hd
 obtain⟨wA,hwA⟩:∃ wA,w.alloc (.cells #[.int .i64 n,.int .i64 k,.int .i64 q,.int .i64 p,.int .i64 (z 0),.int .i64 (z 1),.int .i64 (z 2),.int .i64 (z 3),.int .i64 (z 4),.int .u32 (z 5)] 26)=wA:=⟨_,rfl⟩
 have kA:Kz w wA:=by rw [← hwA];exact (zA.refl _ _).alloc _
 have qA:wA.heap[w.heap.size]?=some (.cells #[.int .i64 n,.int .i64 k,.int .i64 q,.int .i64 p,.int .i64 (z 0),.int .i64 (z 1),.int .i64 (z 2),.int .i64 (z 3),.int .i64 (z 4),.int .u32 (z 5)] 26):=by rw [← hwA];exact zE
 have HKA:=zC kA;have HQA:=zC qA;have HW:=zC hwA
 clear kA qA hwA
 clear hd n1 n2 k1 k4 s1 s2 p1 p2
 unfold cfgV at HN ⊢
 go_in
 go_upto_region 1 with (fail)
 rw [HW.out]
 obtain⟨x0,x1,x2,x3,x4,x5,x6,x7,x8,x9,_,xl⟩:=zZ HQA.out
 go_wp2_with fail
 refine (HA.out _).mono ?_
 rintro e w1 ⟨x,LR,rfl,k1,lx,lhb,hr⟩
 have K1:=zC (HKA.out.trans k1);have HR:=zC hr
 have HQ1:=zC (zB HQA.out k1 (fun h=>h))
 have L1:=zC (And.intro lx lhb)
 clear k1 hr lx lhb x0 x1 x2 x3 x4 x5 x6 x7 x8 x9 xl
 obtain⟨x0,x1,x2,x3,x4,x5,x6,x7,x8,x9,_,xl⟩:=zZ HQ1.out
 go_wp2_with fail
 refine (HN.out _).mono ?_
 rintro e w2 ⟨u,y,b,rfl,k2,lu,lb,h24,hs,hc⟩
 have K2:=zC (K1.out.trans k2)
 have hw0:=HD.out.kp.size;have hz0:=HKA.out.size;have hz1:=K1.out.size;have l1:=L1.out.1;have l2:=L1.out.2
 have HDC:=zC (show Dc (fun _=>False) w0 w2 a m LA LM x y A M p b u (Col.new n k q p) from
  ⟨⟨HD.out.same K2.out,by omega,⟨LR,by omega,HR.out.k0 k2,fun _ _ _ _ h=>h⟩,h24.low (by omega)⟩,hs,by omega,hc,by omega,fun _ h=>h.elim⟩)
 have hz2:=K2.out.size
 clear k2 lu lb h24 hs hc x0 x1 x2 x3 x4 x5 x6 x7 x8 x9 xl l1 l2
 go_wp2_with fail
 go_ret
 exact⟨_,x,y,b,u,rfl,K2.out.alloc _,⟨HDC.out.quiet ((zA.refl _ _).alloc _),⟨_,zE,Row.nil _ _,fun _ h=>by cases h⟩,by omega⟩⟩
theorem swcopy26 (b:Nat) (S:Sw) (w:World) (h:SwAt w b S):
 Calls Tryz.prog 27 #[.pointer (some ⟨b,0,none⟩)] w fun e w'=>e = .returned (.pointer (some ⟨w.heap.size,0,none⟩))∧Kz w w'∧SwAt w' w.heap.size S:=by
 obtain⟨c0,c1,c2,cl⟩:=qB h.own
 have HV:=zC (fun (w':World) (hk:Kz w w')=>swmade b S w' (h.keeps hk (fun h=>h)))
 have HH:=zC h
 clear h
 go_in
 go_wp2_with fail
 refine zP ((HV.out _ (zA.refl _ _))) ?_
 go_wp2_with fail
 go_ret
 exact⟨rfl,(zA.refl _ _).alloc _,zE,HH.out.s1,HH.out.s2,HH.out.nx,HH.out.nn⟩
section
variable {w0 w w':World} {a m b c:Nat} {LA:ArL} {LM:MkL} {k:Col}
theorem cycopy_ok (h:Quad w0 w a m b c LA LM k):Calls Tryz.prog 8 #[.pointer (some ⟨c,0,none⟩)] w fun e w'=>∃ c' m' b' LM',e = .returned (.pointer (some ⟨c',0,none⟩))∧Kz w w'∧MkIn w' m' LM' k.s.M∧LM'.Btw m' k.s.M.K.many w.heap.size w'.heap.size∧SwAt w' b' k.C.S∧w.heap.size≤b'∧w'.heap[c']?=some (.cells (cyArr m' b' k.s.M.P.n k.s.M.K.many k.C) 70)∧w.heap.size≤c':=by
 have HV:=zC (cyvalid h)
 have HMC:=zC (fun W (hk:Kz w W)=>mcopy_ok m LM k.s.M W (Duo.mm (h.same hk).tr.both))
 have HSC:=zC (fun W (hk:Kz w W)=>swcopy26 b k.C.S W (h.same hk).tr.sw)
 have HC:=zC (fun W (hk:Kz w W)=>qD (h.same hk).own)
 have HSQ:=zC (fun W (hk:Kz w W)=>show W.cell? ⟨c,0,none⟩=some (.pointer (some ⟨m,0,none⟩))∧W.cell? ⟨c,1,none⟩=some (.pointer (some ⟨b,0,none⟩)) from⟨(qD (h.same hk).own).1,(qD (h.same hk).own).2.1⟩)
 obtain⟨wA,hwA⟩:∃ wA,w.alloc (.cells (cyArr m b k.s.M.P.n k.s.M.K.many k.C) 70)=wA:=⟨_,rfl⟩
 have kA:Kz w wA:=by rw [← hwA];exact (zA.refl _ _).alloc _
 have HQA:=zC (show wA.heap[w.heap.size]?=some (.cells (cyArr m b k.s.M.P.n k.s.M.K.many k.C) 70) by rw [← hwA];exact zE)
 have hzA:wA.heap.size=w.heap.size+1:=by rw [← hwA];simp
 have HKA:=zC kA;have HW:=zC hwA;have HZA:=zC hzA
 obtain⟨c0,c1,c2,c3,c4,c5,c6,cl⟩:=HC.out _ (zA.refl _ _)
 clear h kA hwA
 go_in
 go_wp2_with fail
 refine zP HV.out ?_
 go_upto_region 4 with (fail)
 unfold cyArr at HW
 rw [HW.out]
 clear c0 c1 c2 c3 c4 c5 c6 cl hzA
 go_region_held3 (fun W=>W.cell? ⟨c,0,none⟩=some (.pointer (some ⟨m,0,none⟩))∧W.cell? ⟨c,1,none⟩=some (.pointer (some ⟨b,0,none⟩)))
  ((refine HSQ.out _ ?_;(with_reducible repeat first | exact HKA.out | refine zA.drew ?_ | refine zA.setCell ?_ (.inr ?_) _ | refine zA.trans ?_ (by with_reducible assumption)) <;> (dsimp only;omega)))
  (first
   | (go_at_call 26;refine (HMC.out _ (zA.q HKA.out)).mono ?_;rintro e w5 ⟨m',L',rfl,k5,hm5,hb5⟩)
   | (go_at_call 27;refine (HSC.out _ (zA.q HKA.out)).mono ?_;rintro e w6 ⟨rfl,k6,hs6⟩;have q6:=zB HQA.out (show Kz wA w6 from zA.r) (fun h=>h);have nx:=cells7f q6;obtain⟨n0,n1,n2,n3,n4,n5,n6,nf,nl⟩:=nx;have nf0:=nf 0;have nf1:=nf 1))
 have KQ:=zC (show Kz w w6 from (zA.q HKA.out))
 have hz5:wA.heap.size≤w5.heap.size:=k5.size
 have hz6:w5.heap.size≤w6.heap.size:=k6.size
 have hzA:=HZA.out
 have Q6:=zC q6;have HM5:=zC (hm5.keeps0 k6);have HB5:=zC hb5;have HS6:=zC hs6
 clear k5 k6 hm5 hb5 hs6 q6 nf
 go_wp2_with fail
 go_ret
 have ks:zA (fun u=>u=w.heap.size) w6 ((w6.setCell ⟨w.heap.size,0,none⟩ (.pointer (some ⟨m',0,none⟩))).setCell ⟨w.heap.size,1,none⟩ (.pointer (some ⟨w5.heap.size,0,none⟩))):=(zJ _ _ _ _).trans (zJ _ _ _ _)
 have hb:=HB5.out
 have lo:∀ u,wA.drew.heap.size≤u→¬ u=w.heap.size:=fun u hu e=>by have:wA.drew.heap.size=wA.heap.size:=rfl;omega
 refine⟨w.heap.size,m',w5.heap.size,L',rfl,kfin KQ.out (Nat.le_refl _) _ _,HM5.out.keeps ks (lo _ hb.m.1) (lo _ hb.c.1) (lo _ hb.p.1) (lo _ hb.s.1) (lo _ hb.rb.1) (fun j hj=>lo _ (hb.bb j hj).1),hb.mono (by have:wA.drew.heap.size=wA.heap.size:=rfl;omega) (by simp;omega),HS6.out.keeps ks (fun e=>by have e':w5.heap.size=w.heap.size:=e;omega),by omega,(zH (zH Q6.out 0 _) 1 _).trans rfl,Nat.le_refl _⟩
end
end Go.Proofs.YtjfmagccmjdhoaaGreat
