import Derived.Test.YtnlkfbndlngjaaaGreatMgE
import Derived.Test.YtnlkfbndlngjaaaGreatMgG
import Derived.StillTailTactics
set_option maxHeartbeats 1000000
set_option maxRecDepth 100000
namespace Go.Proofs.YtnlkfbndlngjaaaGreat
open Go.RowKit
structure Ar where
 H:Hp
 many:Nat
 rt:Nat→Sk
 gl:Nat→Rf
structure ArL where
 o:Nat
 b:Nat
 t:Nat
 g:Nat
 ss:Nat→Nat
structure ArC (c:Array Value) (L:ArL) (n many:Nat):Prop where
 size:c.size=8
 obj:c[0]?=some (.pointer (some ⟨L.o,0,none⟩))
 len:c[1]?=some (.int .i64 n)
 mny:c[2]?=some (.int .i64 many)
 st:∀ m,m<4→c[3+m]?=some (.pointer (if m<many then some ⟨L.ss m,0,none⟩ else none))
 gl:c[7]?=some (.pointer (some ⟨L.g,0,none⟩))
structure ArIn (w:World) (a:Nat) (L:ArL) (A:Ar):Prop where
 own:∃ c,w.heap[a]?=some (.cells c 90)∧ArC c L A.H.T.n A.many
 obj:w.heap[L.o]?=some (.cells #[.pointer (some ⟨L.b,0,none⟩)] 92)
 heap:HpAt w L.b L.t A.H
 gl:GlAt w L.g A.gl
 st:∀ m,m<A.many→StAt w (L.ss m) (A.rt m)
 inj:∀ m k,m<A.many→k<A.many→L.ss m=L.ss k→m=k
 m1:1≤A.many
 m4:A.many≤4
structure ArL.Btw (L:ArL) (a many lo hi:Nat):Prop where
 a:lo≤a∧a<hi
 o:lo≤L.o∧L.o<hi
 b:lo≤L.b∧L.b<hi
 t:lo≤L.t∧L.t<hi
 g:lo≤L.g∧L.g<hi
 ss:∀ m,m<many→lo≤L.ss m∧L.ss m<hi
def ArAt (w:World) (a lo hi:Nat) (A:Ar):Prop:=∃ L,ArIn w a L A∧L.Btw a A.many lo hi
theorem ArIn.keeps {w w':World} {a:Nat} {L:ArL} {A:Ar} {S:Nat→Prop} (h:ArIn w a L A) (hk:Keeps S w w') (h1:¬ S a) (h2:¬ S L.o) (h3:¬ S L.b) (h4:¬ S L.t) (h5:¬ S L.g) (h6:∀ m,m<A.many→¬ S (L.ss m)):ArIn w' a L A:=by
 obtain⟨⟨c,hc,hC⟩,ho,hh,hg,hs,hi,m1,m4⟩:=h
 exact⟨⟨c,block_keep hc hk h1,hC⟩,block_keep ho hk h2,hh.keeps hk h3 h4,hg.keeps hk h5,fun m hm=>(hs m hm).keeps hk (h6 m hm),hi,m1,m4⟩
theorem ArIn.keeps0 {w w':World} {a:Nat} {L:ArL} {A:Ar} (h:ArIn w a L A) (hk:Keeps (fun _=>False) w w'):ArIn w' a L A:=
 h.keeps hk (fun h=>h) (fun h=>h) (fun h=>h) (fun h=>h) (fun h=>h) (fun _ _ h=>h)
theorem ArIn.c0 {w:World} {a:Nat} {L:ArL} {A:Ar} (h:ArIn w a L A):w.cell? ⟨a,0,none⟩=some (.pointer (some ⟨L.o,0,none⟩)):=by obtain⟨c,hc,hC⟩:=h.own;exact cell_at hc hC.obj
theorem ArIn.c1 {w:World} {a:Nat} {L:ArL} {A:Ar} (h:ArIn w a L A):w.cell? ⟨a,1,none⟩=some (.int .i64 A.H.T.n):=by obtain⟨c,hc,hC⟩:=h.own;exact cell_at hc hC.len
theorem ArIn.c2 {w:World} {a:Nat} {L:ArL} {A:Ar} (h:ArIn w a L A):w.cell? ⟨a,2,none⟩=some (.int .i64 A.many):=by obtain⟨c,hc,hC⟩:=h.own;exact cell_at hc hC.mny
theorem ArIn.c3 {w:World} {a:Nat} {L:ArL} {A:Ar} (h:ArIn w a L A) {m:Nat} (hm:m<A.many):w.cell? ⟨a,3+m,none⟩=some (.pointer (some ⟨L.ss m,0,none⟩)):=by
 obtain⟨c,hc,hC⟩:=h.own
 have:=hC.st m (by have:=h.m4;omega)
 rw [if_pos hm] at this
 exact cell_at hc this
theorem ArIn.c7 {w:World} {a:Nat} {L:ArL} {A:Ar} (h:ArIn w a L A):w.cell? ⟨a,7,none⟩=some (.pointer (some ⟨L.g,0,none⟩)):=by obtain⟨c,hc,hC⟩:=h.own;exact cell_at hc hC.gl
theorem avalid (a o:Nat) (w:World) (h:w.cell? ⟨a,0,none⟩=some (.pointer (some ⟨o,0,none⟩))):
 Calls Tryz.prog 39 #[.pointer (some ⟨a,0,none⟩)] w fun e w'=>e = .returned (.bool true)∧w'=w:=by
 go_enter Tryz.func39,Tryz.ntmps39
 go_wp2
 go_ret
 exact⟨rfl,rfl⟩
theorem asizes_ok (a:Nat) (L:ArL) (A:Ar) (w:World) (h:ArIn w a L A):
 Calls Tryz.prog 92 #[.pointer (some ⟨a,0,none⟩)] w fun e w'=>e = .returned (.tuple #[.int .i64 A.H.T.n,.int .i64 A.many])∧Keeps (fun _=>False) w w':=by
 have c0:=h.c0;have c1:=h.c1;have c2:=h.c2
 clear h
 go_enter Tryz.func92,Tryz.ntmps92
 go_wp2_with fail
 refine (avalid a L.o _ c0).mono ?_
 rintro e w' ⟨rfl,h'⟩
 obtain rfl:=h'.symm
 go_wp2_with fail
 go_quiet (fail)
 go_wp2_with fail
 go_ret2
 exact⟨rfl,(by repeat (first | exact Keeps.refl _ _ | apply Keeps.alloc | apply Keeps.drewN | apply Keeps.drew))⟩
theorem astack_ok (a:Nat) (L:ArL) (A:Ar) (m:Nat) (w:World) (h:ArIn w a L A) (hm:m<A.many):
 Calls Tryz.prog 111 #[.pointer (some ⟨a,0,none⟩),.int .i64 m] w fun e w'=>e = .returned (.tuple #[.pointer (some ⟨L.ss m,0,none⟩),.int .i64 0])∧Keeps (fun _=>False) w w':=by
 have c0:=h.c0;have c2:=h.c2;have c3:=h.c3 hm
 have m4:=h.m4
 have hI:(m:Int)<A.many:=by omega
 have hI0:(0:Int)≤m:=by omega
 have hI4:(m:Int)<4:=by omega
 clear h
 go_enter Tryz.func111,Tryz.ntmps111
 go_wp2_with fail
 refine (avalid a L.o _ c0).mono ?_
 rintro e w' ⟨rfl,h'⟩
 obtain rfl:=h'.symm
 go_wp2_with fail
 go_ret2
 exact⟨rfl,Keeps.refl _ _⟩
theorem aheap_ok (a:Nat) (L:ArL) (A:Ar) (w:World) (h:ArIn w a L A):
 Calls Tryz.prog 18 #[.pointer (some ⟨a,0,none⟩)] w fun e w'=>∃ b' t',e = .returned (.pointer (some ⟨b',0,none⟩))∧Keeps (fun _=>False) w w'∧w.heap.size≤b'∧w.heap.size≤t'∧HpAt w' b' t' A.H:=by
 have c0:=h.c0
 have o0:=(cells1 h.obj).1
 have HC:=hid (hcopy_ok L.b L.t A.H w h.heap)
 clear h
 go_enter Tryz.func18,Tryz.ntmps18
 go_wp2_with fail
 refine (avalid a L.o _ c0).mono ?_
 rintro e w' ⟨rfl,h'⟩
 obtain rfl:=h'.symm
 go_wp2_with fail
 refine HC.out.mono ?_
 rintro e w' ⟨b',t',rfl,hk,h1,h2,hh⟩
 go_wp2_with fail
 go_ret
 exact⟨b',t',rfl,hk,h1,h2,hh⟩
theorem astackall_ok (a:Nat) (L:ArL) (A:Ar) (m:Nat) (w:World) (h:ArIn w a L A) (hm:m<A.many):
 Calls Tryz.prog 115 #[.pointer (some ⟨a,0,none⟩),.int .i64 m] w fun e w'=>∃ v,e = .returned (.tuple #[v,.int .i64 0])∧Row w' w.heap.size v (A.rt m).l∧Keeps (fun _=>False) w w':=by
 have HS:=hid (astack_ok a L A m w h hm)
 have HR:=hid (fun (w':World) (hk:Keeps (fun _=>False) w w')=>rall _ _ w' ((h.st m hm).keeps hk (fun h=>h)))
 clear h
 go_enter Tryz.func115,Tryz.ntmps115
 go_wp2_with fail
 refine HS.out.mono ?_
 rintro e w1 ⟨rfl,hk⟩
 have HK:=hid hk;clear hk
 go_wp2_with fail
 refine (HR.out _ HK.out).mono ?_
 rintro e w2 ⟨v,rfl,hr,hk2⟩
 go_wp2_with fail
 go_ret2
 exact⟨v,rfl,hr.mono HK.out.size,HK.out.trans hk2⟩
end Go.Proofs.YtnlkfbndlngjaaaGreat
namespace Go.Proofs.YtnlkfbndlngjaaaGreat
open Go.RowKit
def Ar.setRt (A:Ar) (m:Nat) (S:Sk):Ar:={ A with rt:=updf A.rt m S }
theorem ArIn.ssne {w:World} {a:Nat} {L:ArL} {A:Ar} (h:ArIn w a L A) {m:Nat} (hm:m<A.many):a≠L.ss m∧L.o≠L.ss m∧L.b≠L.ss m∧L.t≠L.ss m∧L.g≠L.ss m:=by
 obtain⟨⟨c,hc,hC⟩,ho,⟨⟨c2,hc2,_⟩,⟨c3,hc3,_⟩,_,_⟩,⟨c4,hc4,_⟩,hs,hi,m1,m4⟩:=h
 obtain⟨c5,hc5,_⟩:=hs m hm
 exact⟨type_ne hc hc5 (by decide),type_ne ho hc5 (by decide),type_ne hc2 hc5 (by decide),type_ne hc3 hc5 (by decide),type_ne hc4 hc5 (by decide)⟩
theorem ArIn.setRt {w w':World} {a:Nat} {L:ArL} {A:Ar} (h:ArIn w a L A) {m:Nat} (hm:m<A.many) {S:Sk} (hk:Keeps (fun y=>y=L.ss m) w w') (hS:StAt w' (L.ss m) S):ArIn w' a L (A.setRt m S):=by
 obtain⟨n1,n2,n3,n4,n5⟩:=h.ssne hm
 obtain⟨⟨c,hc,hC⟩,ho,hh,hg,hs,hi,m1,m4⟩:=h
 refine⟨⟨c,block_keep hc hk n1,hC⟩,block_keep ho hk n2,hh.keeps hk n3 n4,hg.keeps hk n5,fun k hk'=>?_,hi,m1,m4⟩
 simp only [Ar.setRt,updf]
 by_cases e:k=m
 ·subst e;rw [if_pos rfl];exact hS
 ·rw [if_neg e];exact (hs k hk').keeps hk (fun h=>e (hi k m hk' hm h))
theorem ArIn.setH {w w':World} {a:Nat} {L:ArL} {A:Ar} (h:ArIn w a L A) {H:Hp} (hn:H.T.n=A.H.T.n) (hk:Keeps (fun y=>y=L.b∨y=L.t) w w') (hH:HpAt w' L.b L.t H):ArIn w' a L { A with H:=H }:=by
 obtain⟨⟨c,hc,hC⟩,ho,⟨⟨c2,hc2,h2⟩,⟨c3,hc3,h3⟩,_,_⟩,⟨c4,hc4,h4⟩,hs,hi,m1,m4⟩:=h
 have no:∀ {x c' t'},w.heap[x]?=some (.cells c' t')→t'≠114→t'≠244→¬ (x=L.b∨x=L.t):=fun h1 h2 h3 h=>by
  rcases h with h | h
  ·exact type_ne h1 hc2 h2 h
  ·exact type_ne h1 hc3 h3 h
 refine⟨⟨c,block_keep hc hk (no hc (by decide) (by decide)),by rw [hn];exact hC⟩,block_keep ho hk (no ho (by decide) (by decide)),hH,⟨c4,block_keep hc4 hk (no hc4 (by decide) (by decide)),h4⟩,fun k hk'=>?_,hi,m1,m4⟩
 obtain⟨c5,hc5,h5⟩:=hs k hk'
 exact⟨c5,block_keep hc5 hk (no hc5 (by decide) (by decide)),h5⟩
theorem aroot_ok (a:Nat) (L:ArL) (A:Ar) (m i:Nat) (w:World) (h:ArIn w a L A) (hm:m<A.many) (hi:i<(A.rt m).n):
 Calls Tryz.prog 108 #[.pointer (some ⟨a,0,none⟩),.int .i64 m,.int .i64 i] w fun e w'=>e = .returned (.tuple #[((A.rt m).f i).val,.int .i64 0])∧Keeps (fun _=>False) w w':=by
 have HS:=hid (fun (w':World) (hk:Keeps (fun _=>False) w w')=>astack_ok a L A m w' (h.keeps0 hk) hm)
 have HR:=hid (fun (w':World) (hk:Keeps (fun _=>False) w w')=>rget_ok _ _ i w' ((h.st m hm).keeps hk (fun h=>h)) hi)
 clear h
 go_enter Tryz.func108,Tryz.ntmps108
 go_wp2_with fail
 refine (HS.out _ (by repeat (first | exact Keeps.refl _ _ | apply Keeps.alloc | apply Keeps.drewN | apply Keeps.drew))).mono ?_
 rintro e w1 ⟨rfl,hk1⟩
 have HK1:=hid (((Keeps.refl (fun _=>False) w).alloc _).trans hk1)
 have HQ1:=hid (block_keep (alloc_new (w:=w)) hk1 (fun h=>h))
 clear hk1
 go_wp2_with fail
 refine (HR.out _ HK1.out).mono ?_
 rintro e w2 ⟨rfl,hk2⟩
 dsimp only [Rf.val]
 obtain⟨a0,a1,af,al⟩:=cells2 (block_keep HQ1.out hk2 (fun h=>h))
 have f0:=af 0;have f1:=af 1
 have HK2:=hid (HK1.out.trans hk2)
 clear hk2 af
 go_wp2_with fail
 refine bodyPost_ret_by (v:=.tuple #[((A.rt m).f i).val,.int .i64 0]) (by simp [results,Tryz.results108,go_sem,Rf.val, *]) rfl ⟨rfl,Keeps.fresh ?_⟩
 exact (HK2.out.up.setCell (p:=⟨_,0,none⟩) (.inl (Nat.le_refl _)) _).setCell (p:=⟨_,1,none⟩) (.inl (Nat.le_refl _)) _
theorem avalue_ok (a:Nat) (L:ArL) (A:Ar) (m i:Nat) (w:World) (h:ArIn w a L A) (hm:m<A.many) (hi:i<(A.rt m).n):
 Calls Tryz.prog 109 #[.pointer (some ⟨a,0,none⟩),.int .i64 m,.int .i64 i] w fun e w'=>e = .returned (.tuple #[((A.rt m).f i).val,.int .i64 0])∧Keeps (fun _=>False) w w':=by
 have HS:=hid (fun (w':World) (hk:Keeps (fun _=>False) w w')=>astack_ok a L A m w' (h.keeps0 hk) hm)
 have HR:=hid (fun (w':World) (hk:Keeps (fun _=>False) w w')=>aroot_ok a L A m i w' (h.keeps0 hk) hm hi)
 have hi1:((i:Int) == -1)=false:=by simp
 clear h
 go_enter Tryz.func109,Tryz.ntmps109
 go_wp2_with fail
 refine (HS.out _ (by repeat (first | exact Keeps.refl _ _ | apply Keeps.alloc | apply Keeps.drewN | apply Keeps.drew))).mono ?_
 rintro e w1 ⟨rfl,hk1⟩
 have HK1:=hid (((Keeps.refl (fun _=>False) w).alloc _).trans hk1)
 have HQ1:=hid (block_keep (alloc_new (w:=w)) hk1 (fun h=>h))
 clear hk1
 go_wp2_with fail
 refine (HR.out _ HK1.out).mono ?_
 rintro e w2 ⟨rfl,hk2⟩
 dsimp only [Rf.val]
 obtain⟨a0,a1,af,al⟩:=cells2 (block_keep HQ1.out hk2 (fun h=>h))
 have f0:=af 0;have f1:=af 1
 have HK2:=hid (HK1.out.trans hk2)
 clear hk2 af
 go_wp2_with fail
 refine bodyPost_ret_by (v:=.tuple #[((A.rt m).f i).val,.int .i64 0]) (by simp [results,Tryz.results109,go_sem,Rf.val, *]) rfl ⟨rfl,Keeps.fresh ?_⟩
 exact (HK2.out.up.setCell (p:=⟨_,0,none⟩) (.inl (Nat.le_refl _)) _).setCell (p:=⟨_,1,none⟩) (.inl (Nat.le_refl _)) _
theorem adrop_ok (a:Nat) (L:ArL) (A:Ar) (m i:Nat) (w:World) (h:ArIn w a L A) (hm:m<A.many) (hi:i<(A.rt m).n):
 Calls Tryz.prog 52 #[.pointer (some ⟨a,0,none⟩),.int .i64 m,.int .i64 i] w fun e w'=>e = .returned (.tuple #[((A.rt m).f i).val,.int .i64 0])∧Keeps (fun y=>y=L.ss m) w w'∧ArIn w' a L (A.setRt m ((A.rt m).drop i)):=by
 have HS:=hid (fun (w':World) (hk:Keeps (fun _=>False) w w')=>astack_ok a L A m w' (h.keeps0 hk) hm)
 have HR:=hid (fun (w':World) (hk:Keeps (fun _=>False) w w')=>rdrop_ok _ _ i w' ((h.st m hm).keeps hk (fun h=>h)) hi)
 have HA:=hid (fun (w':World) (hk:Keeps (fun y=>y=L.ss m) w w') (hS:StAt w' (L.ss m) ((A.rt m).drop i))=>h.setRt hm hk hS)
 have hl:=(h.st m hm).lt
 clear h
 go_enter Tryz.func52,Tryz.ntmps52
 go_wp2_with fail
 refine (HS.out _ (by repeat (first | exact Keeps.refl _ _ | apply Keeps.alloc | apply Keeps.drewN | apply Keeps.drew))).mono ?_
 rintro e w1 ⟨rfl,hk1⟩
 have HK1:=hid (((Keeps.refl (fun _=>False) w).alloc _).trans hk1)
 have HQ1:=hid (block_keep (alloc_new (w:=w)) hk1 (fun h=>h))
 clear hk1
 go_wp2_with fail
 refine (HR.out _ HK1.out).mono ?_
 rintro e w2 ⟨rfl,hk2,hs2⟩
 dsimp only [Rf.val]
 obtain⟨a0,a1,af,al⟩:=cells2 (block_keep HQ1.out hk2 (fun h=>by omega))
 have f0:=af 0;have f1:=af 1
 have HK2:=hid (HK1.out.up.trans hk2)
 have HS2:=hid hs2
 clear hk2 af hs2
 go_wp2_with fail
 have kk:∀ (W:World) (u v:Value),Keeps (fun y=>y=w.heap.size) W ((W.setCell ⟨w.heap.size,0,none⟩ u).setCell ⟨w.heap.size,1,none⟩ v):=fun W u v=>(keeps_set1 _ _ _ _).trans (keeps_set1 _ _ _ _)
 have kf:∀ (u v:Value),Keeps (fun y=>y=L.ss m) w ((w2.setCell ⟨w.heap.size,0,none⟩ u).setCell ⟨w.heap.size,1,none⟩ v):=fun u v=>
  (HK2.out.trans' (kk _ u v) (U:=fun y=>y=L.ss m∨w.heap.size≤y) (fun _ _ h=>.inl h) (fun y _ h=>.inr (by omega))).mono (fun y hy h=>by rcases h with h | h;exact h;omega)
 refine bodyPost_ret_by (v:=.tuple #[((A.rt m).f i).val,.int .i64 0]) (by simp [results,Tryz.results52,go_sem,Rf.val, *]) rfl ⟨rfl,kf _ _,HA.out _ (kf _ _) (HS2.out.keeps (kk _ _ _) (by omega))⟩
end Go.Proofs.YtnlkfbndlngjaaaGreat
namespace Go.Proofs.YtnlkfbndlngjaaaGreat
open Go.RowKit
theorem aglobals_none (a:Nat) (L:ArL) (A:Ar) (w:World) (h:ArIn w a L A) (hg:A.gl=fun _=>.no):
 Calls Tryz.prog 236 #[.pointer (some ⟨a,0,none⟩)] w fun e w'=>e = .returned (.slice none 0 0)∧Keeps (fun _=>False) w w':=by
 have c0:=h.c0;have c7:=h.c7
 have hgl:=h.gl
 rw [hg] at hgl
 have HG:=hid (glall_none L.g w hgl)
 clear h hgl
 go_enter Tryz.func236,Tryz.ntmps236
 go_wp2_with fail
 refine (avalid a L.o _ c0).mono ?_
 rintro e w' ⟨rfl,h'⟩
 obtain rfl:=h'.symm
 go_wp2_with fail
 refine HG.out.mono ?_
 rintro e w' ⟨rfl,hk⟩
 go_wp2_with fail
 go_ret
 exact⟨rfl,hk⟩
def Ar.new (n many:Nat) (g:Int):Ar:=⟨Hp.new n g,many,fun _=>Sk.new,fun _=>.no⟩
structure ArP (c:Array Value) (o g:Nat) (ss:Nat→Nat) (n many k:Nat):Prop where
 size:c.size=8
 obj:c[0]?=some (.pointer (some ⟨o,0,none⟩))
 len:c[1]?=some (.int .i64 n)
 mny:c[2]?=some (.int .i64 many)
 st:∀ m,m<4→c[3+m]?=some (.pointer (if m<k then some ⟨ss m,0,none⟩ else none))
 gl:c[7]?=some (.pointer (some ⟨g,0,none⟩))
theorem ArP.step {c:Array Value} {o g:Nat} {ss:Nat→Nat} {n many k:Nat} (h:ArP c o g ss n many k) (hk:k<4) (s:Nat):ArP (c.setIfInBounds (3+k) (.pointer (some ⟨s,0,none⟩))) o g (updf ss k s) n many (k+1):=by
 have hs:=h.size
 refine⟨by simpa using hs,?_,?_,?_,?_,?_⟩
 ·rw [Array.getElem?_setIfInBounds_ne (by omega)];exact h.obj
 ·rw [Array.getElem?_setIfInBounds_ne (by omega)];exact h.len
 ·rw [Array.getElem?_setIfInBounds_ne (by omega)];exact h.mny
 ·intro m hm
  by_cases e:m=k
  ·subst e
   rw [Array.getElem?_setIfInBounds_self_of_lt (by omega),if_pos (by omega),updf_same]
  ·rw [Array.getElem?_setIfInBounds_ne (by omega),h.st m hm,updf_ne _ _ e]
   congr 2
   by_cases h1:m<k
   ·rw [if_pos h1,if_pos (by omega)]
   ·rw [if_neg h1,if_neg (by omega)]
 ·rw [Array.getElem?_setIfInBounds_ne (by omega)];exact h.gl
theorem anew_ok (n:Int) (m:Nat) (g:Int) (w:World) (hn:1≤n) (hn1:n≤256) (m1:1≤m) (m4:m≤4) (h:1≤g) (h1:g≤4294967295):
 Calls Tryz.prog 23 #[.int .i64 n,.int .i64 m,.int .u32 g] w fun e w'=>∃ a,e = .returned (.tuple #[.pointer (some ⟨a,0,none⟩),.int .i64 0])∧Keeps (fun _=>False) w w'∧ArAt w' a w.heap.size w'.heap.size (Ar.new n.toNat m g):=by
 have hI1:decide ((m:Int)<1)=false:=by simp;omega
 have hI4:decide (4<(m:Int))=false:=by simp;omega
 obtain⟨n,rfl⟩:∃ k:Nat,n=k:=⟨n.toNat,by omega⟩
 go_enter Tryz.func23,Tryz.ntmps23
 go_wp2_with fail
 refine (hnew_ok n g _ hn hn1 h h1).mono ?_
 rintro e w1 ⟨b,t,rfl,hk1,hb,ht,hh⟩
 have HK1:=hid hk1;have HH:=hid hh
 have HBT:=hid (And.intro hb ht)
 clear hk1 hh hb ht
 go_wp2_with fail
 refine (glnew_ok _).mono ?_
 rintro e w2 ⟨rfl,hk2,hg2⟩
 have HK2:=hid hk2;have HG2:=hid hg2
 clear hk2 hg2
 go_wp2_with fail
 obtain⟨O,hO⟩:∃ O,w1.heap.size=O:=⟨_,rfl⟩
 obtain⟨B,hB⟩:∃ B,w2.heap.size=B:=⟨_,rfl⟩
 have hsz2:=HK2.out.size
 have hsz1:=HK1.out.size
 simp only [World.size_alloc] at hsz2
 have HO:=hid hO;have HB:=hid hB
 have hp0:ArP #[.pointer (some ⟨O,0,none⟩),.int .i64 n,.int .i64 m,.pointer none,.pointer none,.pointer none,.pointer none,.pointer (some ⟨O+1,0,none⟩)] O (O+1) (fun _=>0) n m 0:=by
  refine⟨rfl,rfl,rfl,rfl,fun j hj=>?_,rfl⟩
  match j,hj with
  | 0,_=>rfl
  | 1,_=>rfl
  | 2,_=>rfl
  | 3,_=>rfl
 have HP0:=hid hp0
 clear hp0
 rw [hO,hB]
 obtain⟨w3,hw3⟩:∃ w3,w2.alloc (.cells #[.pointer (some ⟨O,0,none⟩),.int .i64 n,.int .i64 m,.pointer none,.pointer none,.pointer none,.pointer none,.pointer (some ⟨O+1,0,none⟩)] 90)=w3:=⟨_,rfl⟩
 have q3:w3.heap[B]?=some (.cells #[.pointer (some ⟨O,0,none⟩),.int .i64 n,.int .i64 m,.pointer none,.pointer none,.pointer none,.pointer none,.pointer (some ⟨O+1,0,none⟩)] 90):=by rw [← hw3];exact alloc_new' hB.symm
 have HQ3:=hid q3;have HW3:=hid hw3
 rw [hw3]
 clear hO hB q3 hw3 hI1 hI4
 go_loopw [37] (fun i wr=>∃ (k:Nat) (ss:Nat→Nat) (c:Array Value),k≤m∧i = .int .i64 k∧wr.heap[B]?=some (.cells c 90)∧ArP c O (O+1) ss n m k∧(∀ j,j<k→StAt wr (ss j) Sk.new∧B<ss j)∧(∀ j l,j<k→l<k→ss j=ss l→j=l)∧Keeps (fun y=>y=B) w3 wr) (fun i _=>m - (intOf i).toNat)
 case atStart=>exact⟨0,_,_,Nat.zero_le _,rfl,HQ3.out,HP0.out,fun _ h=>by omega,fun _ _ h=>by omega,Keeps.refl _ _⟩
 case round=>
  obtain⟨k,ss,c,hk,rfl,hc,hP,hS,hi,hkk⟩:=hrel
  by_cases hlt:k<m
  ·have hlt':(k:Int)<m:=by omega
   have hk0:(0:Int)≤k:=by omega
   have hk4:(k:Int)<4:=by omega
   have HC:=hid hc;have HP:=hid hP;have HS:=hid hS;have HI:=hid hi;have HKK:=hid hkk
   have hbw:=lt_block hc
   have HN:=hid (show Calls Tryz.prog 68 #[] wr.drew fun e w'=>e = .returned (.pointer (some ⟨wr.heap.size,0,none⟩))∧Keeps (fun _=>False) wr w'∧StAt w' wr.heap.size Sk.new from
    (rnew_ok wr.drew).mono (fun e w' h=>⟨h.1,(Keeps.drew (Keeps.refl _ _)).trans h.2.1,h.2.2⟩))
   clear hc hP hS hi hkk
   go_wp2_with fail
   go_region_with (go_at_call 68;refine HN.out.mono ?_;rintro e w4 ⟨rfl,hk4,hs4⟩;have q4:=block_keep HC.out hk4 (fun h=>h);have c4:=cell_at q4 ((HP.out.st k (by omega)).trans (by rw [if_neg (by omega)]));have f4:=frozen_block q4 (3+k);have l4:=lt_block q4)
   all_goals
    go_wp2_with fail
    have k5:=keeps_set1 w4 B (3+k) (.pointer (some ⟨wr.heap.size,0,none⟩))
    refine⟨⟨k+1,updf ss k wr.heap.size,_,by omega,by simp,set_block q4 _ _,HP.out.step (by omega) _,?_,?_,?_⟩,by simp [intOf];omega⟩
    ·intro j hj
     by_cases e:j=k
     ·subst e
      rw [updf_same]
      exact⟨hs4.keeps k5 (by omega),hbw⟩
     ·rw [updf_ne _ _ e]
      obtain⟨h1,h2⟩:=HS.out j (by omega)
      exact⟨(h1.keeps hk4 (fun h=>h)).keeps k5 (by omega),h2⟩
    ·intro j l hj hl hjl
     have lt:∀ j,j<k→ss j<wr.heap.size:=fun j hj=>(HS.out j hj).1.lt
     by_cases e:j=k
     ·by_cases e2:l=k
      ·rw [e,e2]
      ·subst e
       rw [updf_same,updf_ne _ _ e2] at hjl
       have:=lt l (by omega)
       omega
     ·by_cases e2:l=k
      ·subst e2
       rw [updf_same,updf_ne _ _ e] at hjl
       have:=lt j (by omega)
       omega
      ·rw [updf_ne _ _ e,updf_ne _ _ e2] at hjl
       exact HI.out j l (by omega) (by omega) hjl
    ·exact HKK.out.trans' (hk4.up.trans k5) (U:=fun y=>y=B) (fun _ _ h=>h) (fun _ _ h=>h)
  ·have hkm:k=m:=by omega
   subst hkm
   have HC:=hid hc;have HP:=hid hP;have HS:=hid hS;have HI:=hid hi;have HKK:=hid hkk
   clear hc hP hS hi hkk
   go_wp2_with fail
   go_ret2
   have hO:=HO.out;have hB:=HB.out
   have k13:Keeps (fun _=>False) w1 w3:=by
    rw [← HW3.out]
    exact (((Keeps.refl (fun _=>False) w1).alloc _).trans HK2.out).alloc _
   have hs3:w3.heap.size=B+1:=by rw [← HW3.out,World.size_alloc,hB]
   have ho:w3.heap[O]?=some (.cells #[.pointer (some ⟨b,0,none⟩)] 92):=by
    rw [← HW3.out]
    exact alloc_old (block_keep (alloc_new' hO.symm) HK2.out (fun h=>h))
   have hg:GlAt w3 (O+1) (fun _=>.no):=by
    have:=HG2.out
    rw [World.size_alloc,hO] at this
    rw [← HW3.out]
    exact this.keeps (S:=fun _=>False) ((Keeps.refl _ _).alloc _) (fun h=>h)
   have hh:=HH.out.keeps k13 (fun h=>h) (fun h=>h)
   obtain⟨hb,ht⟩:=HBT.out
   have hbl:=HH.out.lt;have htl:=HH.out.tab.lt
   have hsk:=HKK.out.size
   have hgl:=HG2.out.lt
   rw [World.size_alloc,hO,hB] at hgl
   refine⟨B,rfl,?_,⟨O,b,t,O+1,ss⟩,⟨⟨c,HC.out,?_⟩,block_keep ho HKK.out (by dsimp only;omega),hh.keeps HKK.out (by omega) (by omega),hg.keeps HKK.out (by omega),fun j hj=>(HS.out j hj).1,HI.out,m1,m4⟩,⟨⟨by omega,lt_block HC.out⟩,⟨by dsimp only;omega,by dsimp only;omega⟩,⟨hb,by dsimp only;omega⟩,⟨ht,by dsimp only;omega⟩,⟨by dsimp only;omega,by dsimp only;omega⟩,fun j hj=>⟨?_,?_⟩⟩⟩
   ·exact (HK1.out.trans k13).trans' HKK.out (U:=fun _=>False) (fun _ _ h=>h) (fun y hy h=>by omega)
   ·have:=HP.out
    exact⟨this.size,this.obj,by simpa [Ar.new,Hp.new,Tb.new] using this.len,this.mny,this.st,this.gl⟩
   ·have:=(HS.out j hj).2;dsimp only;omega
   ·exact (HS.out j hj).1.lt
end Go.Proofs.YtnlkfbndlngjaaaGreat
namespace Go.Proofs.YtnlkfbndlngjaaaGreat
open Go.RowKit
theorem amk1 (Bn Bh:Nat) (n:Int) (hd:Bool) (w:World) (hk:okNew n hd) (q1:w.heap[Bn]?=some (.cells #[.int .i64 n] 3)) (q2:w.heap[Bh]?=some (.cells #[.bool hd] 4)):
 Calls Tryz.prog 104 #[.pointer (some ⟨Bn,0,none⟩),.pointer (some ⟨Bh,0,none⟩)] w fun e w'=>e = .returned (.int .i64 0)∧Keeps (fun _=>False) w w':=by
 obtain⟨c1,_,_⟩:=cells1 q1
 obtain⟨c2,_,_⟩:=cells1 q2
 have HN:=hid (fun w=>fnew_ok n hd w hk)
 clear q1 q2 hk
 go_enter Tryz.func104,Tryz.ntmps104
 go_wp2_with fail
 refine (HN.out _).mono ?_
 rintro e w1 ⟨rfl,hk1⟩
 dsimp only [Ob.arr,Ob.new,Rf.no]
 go_wp2_with fail
 go_ret
 exact⟨rfl,hk1.alloc _⟩
theorem hobj_cell {w:World} {a:Nat} {L:ArL} {A:Ar} (h:ArIn w a L A):w.cell? ⟨L.o,0,none⟩=some (.pointer (some ⟨L.b,0,none⟩)):=(cells1 h.obj).1
theorem amk2 (a:Nat) (L:ArL) (A:Ar) (Ba Bn Bh:Nat) (n:Int) (hd:Bool) (i:Nat) (g:Int) (r:List (Nat × Int)) (w:World) (h:ArIn w a L A) (hk:okNew n hd) (hi:A.H.T.inn 0 A.H.T.n=(i,g) :: r)
 (q0:w.heap[Ba]?=some (.cells #[.pointer (some ⟨a,0,none⟩)] 25)) (q1:w.heap[Bn]?=some (.cells #[.int .i64 n] 3)) (q2:w.heap[Bh]?=some (.cells #[.bool hd] 4)):
 Calls Tryz.prog 106 #[.pointer (some ⟨Ba,0,none⟩),.pointer (some ⟨Bn,0,none⟩),.pointer (some ⟨Bh,0,none⟩)] w
  fun e w'=>e = .returned (.tuple #[.agg #[.int .i64 i,.int .u32 g],.int .i64 0])∧Keeps (fun y=>y=L.b∨y=L.t) w w'∧i<256∧HpAt w' L.b L.t (A.H.mk1 i g (Ob.new n hd)):=by
 have no:∀ {x c' t'},w.heap[x]?=some (.cells c' t')→t'≠114→t'≠244→¬ (x=L.b∨x=L.t):=fun h1 h2 h3 h'=>by
  obtain⟨_,_,⟨⟨c2,hc2,_⟩,⟨c3,hc3,_⟩,_,_⟩,_⟩:=id h
  rcases h' with h' | h'
  ·exact type_ne h1 hc2 h2 h'
  ·exact type_ne h1 hc3 h3 h'
 obtain⟨⟨cc,hcc,hCC⟩,_⟩:=id h
 have HF:=hid (fun (w':World) (hk':Keeps (fun y=>(y=L.b∨y=L.t)∨w.heap.size≤y) w w')=>And.intro (cells1 (block_keep q0 hk' (fun h=>by have:=lt_block q0;rcases h with h | h;exact no q0 (by decide) (by decide) h;omega))).1 (And.intro (cells1 (block_keep q1 hk' (fun h=>by have:=lt_block q1;rcases h with h | h;exact no q1 (by decide) (by decide) h;omega))).1 (And.intro (cells1 (block_keep q2 hk' (fun h=>by have:=lt_block q2;rcases h with h | h;exact no q2 (by decide) (by decide) h;omega))).1 (And.intro (cell_at (block_keep hcc hk' (fun h=>by have:=lt_block hcc;rcases h with h | h;exact no hcc (by decide) (by decide) h;omega)) hCC.obj) ((cells1 (block_keep h.obj hk' (fun h'=>by have:=lt_block h.obj;rcases h' with h' | h';exact no h.obj (by decide) (by decide) h';omega))).1)))))
 clear hcc hCC
 have hbl:=h.heap.lt
 have htl:=h.heap.tab.lt
 have HM:=hid (fun (w':World) (hk':Keeps (fun _=>False) w w')=>hmake_ok L.b L.t A.H n hd w' (h.heap.keeps hk' (fun h=>h) (fun h=>h)) hk)
 have HI:=hid hi
 clear q0 q1 q2 h hk hi
 go_enter Tryz.func106,Tryz.ntmps106
 go_upto_region 1 with (fail)
 obtain⟨w0,hw0⟩:∃ w0,w.alloc (.cells #[.int .i64 0,.int .u32 0] 34)=w0:=⟨_,rfl⟩
 have k0:Keeps (fun _=>False) w w0:=by rw [← hw0];exact (Keeps.refl _ _).alloc _
 have q:w0.heap[w.heap.size]?=some (.cells #[.int .i64 0,.int .u32 0] 34):=by rw [← hw0];exact alloc_new
 have HQ:=hid q;have HK0:=hid (show Keeps (fun y=>(y=L.b∨y=L.t)∨w.heap.size≤y) w w0 from k0.up)
 obtain⟨c0,c1,c2,c3,c4⟩:=HF.out _ HK0.out
 have HK0':=hid k0
 rw [hw0]
 clear hw0 q k0 no
 go_region_held3 (fun W=>W.cell? ⟨Ba,0,none⟩=some (.pointer (some ⟨a,0,none⟩))∧W.cell? ⟨Bn,0,none⟩=some (.int .i64 n)∧W.cell? ⟨Bh,0,none⟩=some (.bool hd)∧W.cell? ⟨a,0,none⟩=some (.pointer (some ⟨L.o,0,none⟩))∧W.cell? ⟨L.o,0,none⟩=some (.pointer (some ⟨L.b,0,none⟩)))
  ((refine HF.out _ ?_;(repeat (first | with_reducible exact HK0.out | with_reducible refine Keeps.alloc ?_ _ | with_reducible refine Keeps.drew ?_ | with_reducible refine Keeps.setCell ?_ (.inl (.inr (Nat.le_refl _))) _ | with_reducible assumption | with_reducible refine Keeps.trans ?_ (Keeps.mono (by assumption) (fun _ _ h=>Or.inl h))))))
  (first | (go_at_call 107;refine (HM.out _ HK0'.out.drew).mono ?_;rintro e w1 ⟨hk1,hcase⟩;obtain⟨i',g',r',h0,hi',rfl,hh⟩:=hcase.resolve_left (fun h=>by rw [HI.out] at h;exact absurd h.1 (by simp));have hkk:=HK0.out.drew.trans (hk1.mono (T:=fun y=>(y=L.b∨y=L.t)∨w.heap.size≤y) (fun _ _ h=>.inl h));obtain⟨a0,a1,af,al⟩:=cells2 (block_keep HQ.out (((Keeps.refl _ _).drew).trans hk1) (by omega));have f0:=af 0;have f1:=af 1))
 all_goals
  go_wp2_with fail
  rw [HI.out] at h0
  obtain⟨⟨rfl,rfl⟩,rfl⟩:(i=i'∧g=g')∧r=r':=by simpa using h0
  have kk:∀ (W:World) (u v:Value),Keeps (fun y=>y=w.heap.size) W ((W.setCell ⟨w.heap.size,0,none⟩ u).setCell ⟨w.heap.size,1,none⟩ v):=fun W u v=>(keeps_set1 _ _ _ _).trans (keeps_set1 _ _ _ _)
  refine bodyPost_ret_by (v:=.tuple #[.agg #[.int .i64 i,.int .u32 g],.int .i64 0]) (by simp [results,Tryz.results106,go_sem, *]) rfl ⟨rfl,?_,hi',hh.keeps (kk _ _ _) (by omega) (by omega)⟩
  exact ((HK0'.out.up (T:=fun y=>y=L.b∨y=L.t)).drew.trans hk1).trans' (kk _ _ _) (U:=fun y=>(y=L.b∨y=L.t)∨w.heap.size≤y) (fun _ _ h=>.inl h) (fun y _ h=>.inr (by omega)) |>.mono (fun y hy h=>by rcases h with h | h;exact h;omega)
end Go.Proofs.YtnlkfbndlngjaaaGreat
namespace Go.Proofs.YtnlkfbndlngjaaaGreat
open Go.RowKit
def Ar.made (A:Ar) (m i:Nat) (g:Int) (o:Ob):Ar:={ A with H:=A.H.mk1 i g o,rt:=updf A.rt m ((A.rt m).push ⟨i,g⟩) }
theorem ArIn.btw {w:World} {a:Nat} {L:ArL} {A:Ar} (h:ArIn w a L A):L.Btw a A.many 0 w.heap.size:=by
 obtain⟨⟨cx,hcx,_⟩,hox,hhx,hgx,hsx,_⟩:=h
 exact⟨⟨Nat.zero_le _,lt_block hcx⟩,⟨Nat.zero_le _,lt_block hox⟩,⟨Nat.zero_le _,hhx.lt⟩,⟨Nat.zero_le _,hhx.tab.lt⟩,⟨Nat.zero_le _,hgx.lt⟩,fun m hm=>⟨Nat.zero_le _,(hsx m hm).lt⟩⟩
theorem ArIn.keepsB {w w':World} {a N:Nat} {L:ArL} {A:Ar} (h:ArIn w a L A) (hb:L.Btw a A.many 0 N) (hk:Keeps (fun y=>N≤y) w w'):ArIn w' a L A:=
 h.keeps hk (by have:=hb.a;omega) (by have:=hb.o;omega) (by have:=hb.b;omega) (by have:=hb.t;omega) (by have:=hb.g;omega) (fun m hm=>by have:=hb.ss m hm;omega)
theorem agive1 (a:Nat) (L:ArL) (A:Ar) (m:Nat) (Ba Bn Bh:Nat) (n:Int) (hd:Bool) (i:Nat) (g:Int) (r:List (Nat × Int)) (w:World) (h:ArIn w a L A) (hm:m<A.many) (hk:okNew n hd) (hi:A.H.T.inn 0 A.H.T.n=(i,g) :: r) (hr:(A.rt m).n<32) (hg:1≤g) (hg1:g≤4294967295)
 (q0:w.heap[Ba]?=some (.cells #[.pointer (some ⟨a,0,none⟩)] 25)) (q1:w.heap[Bn]?=some (.cells #[.int .i64 n] 3)) (q2:w.heap[Bh]?=some (.cells #[.bool hd] 4)):
 Calls Tryz.prog 103 #[.pointer (some ⟨a,0,none⟩),.int .i64 m,.func (.func 104) #[] #[.pointer (some ⟨Bn,0,none⟩),.pointer (some ⟨Bh,0,none⟩)],.func (.func 106) #[] #[.pointer (some ⟨Ba,0,none⟩),.pointer (some ⟨Bn,0,none⟩),.pointer (some ⟨Bh,0,none⟩)]] w
  fun e w'=>e = .returned (.tuple #[.agg #[.int .i64 i,.int .u32 g],.int .i64 0])∧Keeps (fun y=>y=L.b∨y=L.t∨y=L.ss m) w w'∧ArIn w' a L (A.made m i g (Ob.new n hd)):=by
 have HS:=hid (fun (w':World) (hk:Keeps (fun _=>False) w w')=>astack_ok a L A m w' (h.keeps0 hk) hm)
 have H1:=hid (fun (w':World) (hk':Keeps (fun _=>False) w w')=>amk1 Bn Bh n hd w' hk (block_keep q1 hk' (fun h=>h)) (block_keep q2 hk' (fun h=>h)))
 have HL:=hid (fun (w':World) (hk':Keeps (fun _=>False) w w')=>rlen (L.ss m) (A.rt m) w' ((h.st m hm).keeps hk' (fun h=>h)))
 have H2:=hid (fun (w':World) (hk':Keeps (fun _=>False) w w')=>amk2 a L A Ba Bn Bh n hd i g r w' (h.keeps0 hk') hk hi (block_keep q0 hk' (fun h=>h)) (block_keep q1 hk' (fun h=>h)) (block_keep q2 hk' (fun h=>h)))
 have HA:=hid (fun (w' w2:World) (k1:Keeps (fun _=>False) w w') (k2:Keeps (fun y=>y=L.b∨y=L.t) w' w2) (hH:HpAt w2 L.b L.t (A.H.mk1 i g (Ob.new n hd)))=>(h.keeps0 k1).setH (H:=A.H.mk1 i g (Ob.new n hd)) rfl k2 hH)
 have hsl:=(h.st m hm).lt
 have hbl:=h.heap.lt
 have htl:=h.heap.tab.lt
 have HM:=hid hm;have HBT:=hid h.btw
 have e1:=enters_of Tryz.func104 (by kernel_rfl) rfl
 have e2:=enters_of Tryz.func106 (by kernel_rfl) rfl
 have hI:decide (32≤(A.rt m).n)=false:=by simp;omega
 clear h q0 q1 q2 hk hi hm
 go_enter Tryz.func103,Tryz.ntmps103
 go_wp2_with fail
 refine (HS.out _ (by repeat (first | exact Keeps.refl _ _ | apply Keeps.alloc | apply Keeps.drewN | apply Keeps.drew))).mono ?_
 rintro e w1 ⟨rfl,hk1⟩
 have HK1:=hid (((Keeps.refl (fun _=>False) w).alloc _).trans hk1)
 have HQ1:=hid (block_keep (alloc_new (w:=w)) hk1 (fun h=>h))
 clear hk1
 go_wp2_with fail
 refine (H1.out _ HK1.out).mono ?_
 rintro e w2 ⟨rfl,hk2⟩
 have HK2:=hid (HK1.out.trans hk2)
 have HQ2:=hid (block_keep HQ1.out hk2 (fun h=>h))
 clear hk2
 go_wp2_with fail
 refine (HL.out _ HK2.out).mono ?_
 rintro e w3 ⟨rfl,hk3⟩
 have HK3:=hid (HK2.out.trans hk3)
 have HQ3:=hid (block_keep HQ2.out hk3 (fun h=>h))
 clear hk3
 go_wp2_with fail
 refine (H2.out _ HK3.out).mono ?_
 rintro e w4 ⟨rfl,hk4,hi2,hh4⟩
 have HA4:=hid (HA.out _ _ HK3.out hk4 hh4)
 have HK4:=hid (HK3.out.up.trans hk4)
 have hsz4:=HK4.out.size
 have HQ4:=hid (block_keep HQ3.out hk4 (by omega))
 have lq4:=lt_block HQ4.out
 have HP:=hid (fun o=>rpush_ok (L.ss m) (A.rt m) ⟨i,g⟩ (w4.alloc o) ((HA4.out.st m HM.out).keeps (S:=fun _=>False) ((Keeps.refl _ _).alloc _) (fun h=>h)) hr (by simp) (by dsimp only;omega) hg hg1)
 clear hk4 hh4 hi2
 go_wp2_with fail
 refine (HP.out _).mono ?_
 rintro e w5 ⟨rfl,hk5,hs5⟩
 obtain⟨a0,a1,af,al⟩:=cells2 (block_keep (alloc_old HQ4.out) hk5 (by omega))
 obtain⟨b0,b1,_,_⟩:=cells2 (block_keep (alloc_new (w:=w4)) hk5 (by omega))
 have f0:=af 0;have f1:=af 1
 have HA5:=hid ((HA4.out.keeps0 ((Keeps.refl _ _).alloc _)).setRt HM.out hk5 hs5)
 have HK5:=hid (((HK4.out.mono (T:=fun y=>y=L.b∨y=L.t∨y=L.ss m) (fun _ _ h=>by rcases h with h | h;exact .inl h;exact .inr (.inl h))).alloc _).trans' hk5 (U:=fun y=>y=L.b∨y=L.t∨y=L.ss m) (fun _ _ h=>h) (fun _ _ h=>.inr (.inr h)))
 clear hk5 hs5 af
 go_wp2_with fail
 have kk:∀ (W:World) (u v:Value),Keeps (fun y=>y=w.heap.size) W ((W.setCell ⟨w.heap.size,0,none⟩ u).setCell ⟨w.heap.size,1,none⟩ v):=fun W u v=>(keeps_set1 _ _ _ _).trans (keeps_set1 _ _ _ _)
 refine bodyPost_ret_by (v:=.tuple #[.agg #[.int .i64 i,.int .u32 g],.int .i64 0]) (by simp [results,Tryz.results103,go_sem, *]) rfl ⟨rfl,?_,?_⟩
 ·exact (HK5.out.trans' (kk _ _ _) (U:=fun y=>(y=L.b∨y=L.t∨y=L.ss m)∨w.heap.size≤y) (fun _ _ h=>.inl h) (fun y _ h=>.inr (by omega))).mono (fun y hy h=>by rcases h with h | h;exact h;omega)
 ·exact HA5.out.keepsB HBT.out ((kk _ _ _).mono (fun y _ h=>by omega))
theorem amake_ok (a:Nat) (L:ArL) (A:Ar) (m:Nat) (n:Int) (hd:Bool) (i:Nat) (g:Int) (r:List (Nat × Int)) (w:World) (h:ArIn w a L A) (hm:m<A.many) (hk:okNew n hd) (hi:A.H.T.inn 0 A.H.T.n=(i,g) :: r) (hr:(A.rt m).n<32) (hg:1≤g) (hg1:g≤4294967295):
 Calls Tryz.prog 50 #[.pointer (some ⟨a,0,none⟩),.int .i64 m,.int .i64 n,.bool hd] w
  fun e w'=>e = .returned (.tuple #[.agg #[.int .i64 i,.int .u32 g],.int .i64 0])∧Keeps (fun y=>y=L.b∨y=L.t∨y=L.ss m) w w'∧ArIn w' a L (A.made m i g (Ob.new n hd)):=by
 have HG:=hid (fun (w':World) Ba Bn Bh (hk':Keeps (fun _=>False) w w') q0 q1 q2=>agive1 a L A m Ba Bn Bh n hd i g r w' (h.keeps0 hk') hm hk hi hr hg hg1 q0 q1 q2)
 have HBT:=hid h.btw
 have hsl:=(h.st m hm).lt
 have hbl:=h.heap.lt
 have htl:=h.heap.tab.lt
 clear h hk hi hm
 go_enter Tryz.func50,Tryz.ntmps50
 go_wp2_with fail
 refine (HG.out _ _ _ _ (((Keeps.refl _ _).alloc _).alloc _ |>.alloc _ |>.alloc _) (alloc_old <| alloc_old <| alloc_old alloc_new) (alloc_old <| alloc_old <| alloc_new' (by simp)) (alloc_old <| alloc_new' (by simp))).mono ?_
 rintro e w1 ⟨rfl,hk1,ha1⟩
 obtain⟨a0,a1,af,al⟩:=cells2 (block_keep (b:=w.heap.size+1+1+1) (alloc_new' (by simp)) hk1 (fun h=>by rcases h with h | h | h <;> omega))
 have f0:=af 0;have f1:=af 1
 have HK:=hid ((((Keeps.refl (fun y=>(y=L.b∨y=L.t∨y=L.ss m)∨w.heap.size≤y) w).alloc _).alloc _ |>.alloc _ |>.alloc _).trans' hk1 (U:=fun y=>(y=L.b∨y=L.t∨y=L.ss m)∨w.heap.size≤y) (fun _ _ h=>h) (fun _ _ h=>.inl h))
 have HA:=hid ha1
 clear hk1 ha1 af
 go_wp2_with fail
 have kk:∀ (W:World) (u v:Value),Keeps (fun y=>y=w.heap.size+1+1+1) W ((W.setCell ⟨w.heap.size+1+1+1,0,none⟩ u).setCell ⟨w.heap.size+1+1+1,1,none⟩ v):=fun W u v=>(keeps_set1 _ _ _ _).trans (keeps_set1 _ _ _ _)
 refine bodyPost_ret_by (v:=.tuple #[.agg #[.int .i64 i,.int .u32 g],.int .i64 0]) (by simp [results,Tryz.results50,go_sem, *]) rfl ⟨rfl,?_,HA.out.keepsB HBT.out ((kk _ _ _).mono (fun y _ h=>by omega))⟩
 exact (HK.out.trans' (kk _ _ _) (U:=fun y=>(y=L.b∨y=L.t∨y=L.ss m)∨w.heap.size≤y) (fun _ _ h=>h) (fun y _ h=>.inr (by omega))).mono (fun y hy h=>by rcases h with h | h;exact h;omega)
end Go.Proofs.YtnlkfbndlngjaaaGreat
