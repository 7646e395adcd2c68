import Derived.Test.YtnlkfbndlngjaaaGreatMgF
import Derived.Test.YtnlkfbndlngjaaaGreatMgH
set_option maxHeartbeats 2000000
set_option maxRecDepth 100000
namespace Go.Proofs.YtnlkfbndlngjaaaGreat
open Go.RowKit
theorem astore_ok (a:Nat) (L:ArL) (A:Ar) (m i f j k:Nat) (g:Int) (v:Rf) (w:World) (h:ArIn w a L A) (hm:m<A.many) (hi:i<(A.rt m).n) (hj:j<(A.rt m).n) (hr:(A.rt m).f i=⟨k,g⟩) (hvv:(A.rt m).f j=v)
 (hc:ckV A.H.T k g=0) (hf:(f:Int)<(A.H.ob k).n) (hv:ckV A.H.T v.s v.g=0) (hb:v.bad=false):
 Calls Tryz.prog 51 #[.pointer (some ⟨a,0,none⟩),.int .i64 m,.int .i64 i,.int .i64 f,.int .i64 j] w
  fun e w'=>e = .returned (.tuple #[((A.H.ob k).fs f).val,v.val,.int .i64 0])∧Keeps (fun y=>y=L.b) w w'∧ArIn w' a L { A with H:=A.H.setF k f v }:=by
 have hw:v.Wf:=by rw [← hvv];exact (h.st m hm).wf j
 have HR:=hid (fun (w':World) (hk:Keeps (fun _=>False) w w')=>aroot_ok a L A m i w' (h.keeps0 hk) hm hi)
 have HV:=hid (fun (w':World) (hk:Keeps (fun _=>False) w w')=>avalue_ok a L A m j w' (h.keeps0 hk) hm hj)
 rw [hr] at HR;rw [hvv] at HV
 have HS:=hid (fun (w':World) (hk:Keeps (fun _=>False) w w')=>hstore_ok L.b L.t A.H k f g v w' (h.heap.keeps hk (fun h=>h) (fun h=>h)) hc hf (fun _=>hv) hb hw)
 have HA:=hid (fun (w' w2:World) (k1:Keeps (fun _=>False) w w') (k2:Keeps (fun y=>y=L.b) w' w2) (hH:HpAt w2 L.b L.t (A.H.setF k f v))=>(h.keeps0 k1).setH (H:=A.H.setF k f v) rfl (k2.mono (fun _ _ h=>.inl h)) hH)
 have HBT:=hid h.btw
 have hbl:=h.heap.lt
 have htl:=h.heap.tab.lt
 obtain⟨⟨cx,hcx,hCx⟩,hox,⟨⟨cy,hcy,_⟩,_⟩,_⟩:=id h
 have n1:a≠L.b:=type_ne hcx hcy (by decide)
 have n2:L.o≠L.b:=type_ne hox hcy (by decide)
 have la:=lt_block hcx;have lo:=lt_block hox
 have HF:=hid (fun (w':World) (hk':Keeps (fun y=>y=L.b∨w.heap.size≤y) w w')=>And.intro (cell_at (block_keep hcx hk' (fun h=>by rcases h with h | h;exact n1 h;omega)) hCx.obj) (cells1 (block_keep hox hk' (fun h=>by rcases h with h | h;exact n2 h;omega))).1)
 obtain⟨r,hrr⟩:∃ r,(A.H.ob k).fs f=r:=⟨_,rfl⟩
 have HRR:=hid hrr
 rw [hrr] at HS
 clear h hm hi hj hr hvv hc hf hv hb hw hcx hCx hox hcy n1 n2 hrr
 go_enter Tryz.func51,Tryz.ntmps51
 go_wp2_with fail
 refine (HR.out _ (by repeat (first | exact Keeps.refl _ _ | apply Keeps.alloc | apply Keeps.drewN | apply Keeps.drew))).mono ?_
 rintro e w1 ⟨rfl,hk1⟩
 dsimp only [Rf.val]
 have HK1:=hid ((((Keeps.refl (fun _=>False) w).alloc _).alloc _).trans hk1)
 have HP1:=hid (block_keep (alloc_old (alloc_new (w:=w))) hk1 (fun h=>h))
 have HQ1:=hid (block_keep (alloc_new' (w:=w.alloc _) (n:=w.heap.size+1) (by simp)) hk1 (fun h=>h))
 clear hk1
 go_wp2_with fail
 refine (HV.out _ (HK1.out.alloc _)).mono ?_
 rintro e w2 ⟨rfl,hk2⟩
 dsimp only [Rf.val]
 have HK2:=hid ((HK1.out.alloc _).trans hk2)
 have HP2:=hid (block_keep (alloc_old HP1.out) hk2 (fun h=>h))
 have HQ2:=hid (block_keep (alloc_old HQ1.out) hk2 (fun h=>h))
 have HR2:=hid (block_keep (alloc_new (w:=w1)) hk2 (fun h=>h))
 clear hk2
 go_upto_region 7 with (fail)
 obtain⟨w3,hw3⟩:∃ w3,w2.alloc (.cells #[.int .i64 v.s,.int .u32 v.g] 34)=w3:=⟨_,rfl⟩
 have p3:w3.heap[w2.heap.size]?=some (.cells #[.int .i64 v.s,.int .u32 v.g] 34):=by rw [← hw3];exact alloc_new
 have k3:Keeps (fun _=>False) w2 w3:=by rw [← hw3];exact (Keeps.refl _ _).alloc _
 rw [hw3]
 have HV3:=hid p3;have HK3:=hid (HK2.out.trans k3)
 have HP3:=hid (block_keep HP2.out k3 (fun h=>h));have HQ3:=hid (block_keep HQ2.out k3 (fun h=>h));have HR3:=hid (block_keep HR2.out k3 (fun h=>h))
 have hz1:=lt_block HQ1.out
 have hz2:=lt_block HR2.out
 clear hw3 p3 k3 HK1 HK2 HP1 HP2 HQ1 HQ2 HR2
 go_cut [14,16] (fun s14 s16 wx=>∃ B,s14 = .int .i64 0∧s16 = .pointer (some ⟨B,0,none⟩)∧w3.heap.size≤B∧Keeps (fun y=>y=L.b) w3 wx∧HpAt wx L.b L.t (A.H.setF k f v)∧wx.heap[B]?=some (.cells #[.int .i64 r.s,.int .u32 r.g] 34))
 case first=>
  have hz3:=HK3.out.size
  have HSK:=hid (fun (W:World) (hk:Keeps (fun y=>y=L.b∨w3.heap.size≤y) w3 W)=>
   And.intro (HF.out _ (HK3.out.up.trans' hk (U:=fun y=>y=L.b∨w.heap.size≤y) (fun _ _ h=>h) (fun y hy h=>by rcases h with h | h;exact .inl h;exact .inr (by omega)))).1
   (And.intro (HF.out _ (HK3.out.up.trans' hk (U:=fun y=>y=L.b∨w.heap.size≤y) (fun _ _ h=>h) (fun y hy h=>by rcases h with h | h;exact .inl h;exact .inr (by omega)))).2
   (And.intro (cells2 (block_keep HR3.out hk (fun h=>by have:=lt_block HR3.out;rcases h with h | h <;> omega))).1 (And.intro (cells2 (block_keep HR3.out hk (fun h=>by have:=lt_block HR3.out;rcases h with h | h <;> omega))).2.1
   (And.intro (cells2 (block_keep HV3.out hk (fun h=>by have:=lt_block HV3.out;rcases h with h | h <;> omega))).1 (cells2 (block_keep HV3.out hk (fun h=>by have:=lt_block HV3.out;rcases h with h | h <;> omega))).2.1)))))
  have hbl3:L.b<w3.heap.size:=by omega
  have htl3:L.t<w3.heap.size:=by omega
  go_region_held3 (fun W=>W.cell? ⟨a,0,none⟩=some (.pointer (some ⟨L.o,0,none⟩))∧W.cell? ⟨L.o,0,none⟩=some (.pointer (some ⟨L.b,0,none⟩))∧W.cell? ⟨w1.heap.size,0,none⟩=some (.int .i64 k)∧W.cell? ⟨w1.heap.size,1,none⟩=some (.int .u32 g)∧W.cell? ⟨w2.heap.size,0,none⟩=some (.int .i64 v.s)∧W.cell? ⟨w2.heap.size,1,none⟩=some (.int .u32 v.g))
   ((refine HSK.out _ ?_;(repeat (first | with_reducible exact Keeps.refl _ _ | with_reducible refine Keeps.alloc ?_ _ | with_reducible refine Keeps.drew ?_ | with_reducible refine Keeps.setCell ?_ (.inl (.inr ?_)) _ | with_reducible assumption | with_reducible refine Keeps.trans ?_ (Keeps.mono (by assumption) (fun _ _ h=>Or.inl h)))) <;> (dsimp only;omega)))
   (first | (go_at_call 110;refine (HS.out _ (by first | exact HK3.out.drew | exact (HK3.out.alloc _).drew)).mono ?_;rintro e w4 ⟨rfl,hk4,hh4⟩;dsimp only [Rf.val];have hsz4:=((Keeps.drew (Keeps.refl (fun y=>y=L.b) _)).trans hk4).size;(try simp only [World.size_alloc] at hsz4);(first | (have nab:=block_keep (alloc_new (w:=w3)) ((Keeps.drew (Keeps.refl (fun y=>y=L.b) _)).trans hk4) (fun h=>by omega);have nax:=cells2 nab;obtain⟨na0,na1,naf,nat⟩:=nax;have naf0:=naf 0;have naf1:=naf 1) | skip)))
  all_goals
   go_wp2_with fail
   go_meet
   refine⟨_,rfl,rfl,by omega,?_,?_,?_⟩
   ·refine Keeps.mono (S:=fun y=>y=L.b∨w3.heap.size≤y) ?_ (fun y hy h=>by rcases h with h | h;exact h;omega)
    (repeat (first | with_reducible exact Keeps.refl _ _ | with_reducible refine Keeps.alloc ?_ _ | with_reducible refine Keeps.drew ?_ | with_reducible refine Keeps.setCell ?_ (.inl (.inr ?_)) _ | with_reducible refine Keeps.trans ?_ (Keeps.mono hk4 (fun _ _ h=>Or.inl h)))) <;> (dsimp only;omega)
   ·refine hh4.keeps (S:=fun y=>w3.heap.size≤y) ?_ (by omega) (by omega)
    (repeat (first | with_reducible exact Keeps.refl _ _ | with_reducible refine Keeps.alloc ?_ _ | with_reducible refine Keeps.drew ?_ | with_reducible refine Keeps.setCell ?_ (.inl ?_) _)) <;> (dsimp only;omega)
   ·try dsimp only [Ob.arr]
    repeat (first | (with_reducible assumption) | (with_reducible refine alloc_new' ?_;simp;done) | (with_reducible refine alloc_old ?_) | (with_reducible apply fin10) | (with_reducible apply fin2) | (with_reducible refine set_oth2 ?_ ?_;focus (first | (simp;done) | (dsimp only;omega))))
 case rest=>
  obtain⟨B,rfl,rfl,hB,hk4,hh4,hq4⟩:=hcut
  obtain⟨b0,b1,_,bl⟩:=cells2 hq4
  obtain⟨p0,p1,pf,pl⟩:=cells2 (block_keep HP3.out hk4 (by omega))
  obtain⟨q0,q1,qf,ql⟩:=cells2 (block_keep HQ3.out hk4 (by omega))
  obtain⟨v0,v1,_,vl⟩:=cells2 (block_keep HV3.out hk4 (by have:=lt_block HV3.out;omega))
  have pf0:=pf 0;have pf1:=pf 1;have qf0:=qf 0;have qf1:=qf 1
  have HA4:=hid (HA.out _ _ HK3.out hk4 hh4)
  have HK4:=hid (HK3.out.up.trans hk4)
  have hz3:=HK3.out.size
  have hv3:=lt_block HV3.out
  have hr3:=lt_block HR3.out
  have e1:w2.heap.size≠w.heap.size:=by omega
  have e2:w2.heap.size≠w.heap.size+1:=by omega
  have e3:B≠w.heap.size:=by omega
  have e4:B≠w.heap.size+1:=by omega
  have e1':=e1.symm;have e2':=e2.symm;have e3':=e3.symm;have e4':=e4.symm
  clear hq4 hk4 hh4 pf qf
  go_upto_region 10 with (fail)
  go_region
  all_goals
   go_wp2_with fail
   have kk:∀ (W:World) (u0 u1 u2 u3:Value),Keeps (fun y=>y=w.heap.size∨y=w.heap.size+1) W ((((W.setCell ⟨w.heap.size,0,none⟩ u0).setCell ⟨w.heap.size,1,none⟩ u1).setCell ⟨w.heap.size+1,0,none⟩ u2).setCell ⟨w.heap.size+1,1,none⟩ u3).drew:=fun W u0 u1 u2 u3=>
    (((((Keeps.refl _ _).setCell (p:=⟨w.heap.size,0,none⟩) (.inl (.inl rfl)) u0).setCell (p:=⟨w.heap.size,1,none⟩) (.inl (.inl rfl)) u1).setCell (p:=⟨w.heap.size+1,0,none⟩) (.inl (.inr rfl)) u2).setCell (p:=⟨w.heap.size+1,1,none⟩) (.inl (.inr rfl)) u3).drew
   refine bodyPost_ret_by (v:=.tuple #[((A.H.ob k).fs f).val,v.val,.int .i64 0]) (by rw [HRR.out];simp [results,Tryz.results51,go_sem,Rf.val, *]) rfl ⟨rfl,?_,HA4.out.keepsB HBT.out ((kk _ _ _ _ _).mono (fun y _ h=>by rcases h with h | h <;> omega))⟩
   exact (HK4.out.trans' (kk _ _ _ _ _) (U:=fun y=>y=L.b∨w.heap.size≤y) (fun _ _ h=>.inl h) (fun y _ h=>.inr (by rcases h with h | h <;> omega))).mono (fun y hy h=>by rcases h with h | h;exact h;omega)
end Go.Proofs.YtnlkfbndlngjaaaGreat
namespace Go.Proofs.YtnlkfbndlngjaaaGreat
open Go.RowKit
structure Pt where
 n:Nat
 c:Nat→Int
structure PtC (c:Array Value) (P:Pt):Prop where
 size:c.size=257
 len:c[0]?=some (.int .i64 P.n)
 col:∀ i,i<256→c[1+i]?=some (.int .u8 (P.c i))
 n1:1≤P.n
 n2:P.n≤256
 lo:∀ i,0≤P.c i
 hi:∀ i,P.c i≤2
def PtAt (w:World) (b:Nat) (P:Pt):Prop:=∃ c,w.heap[b]?=some (.cells c 176)∧PtC c P
theorem PtAt.lt {w:World} {b:Nat} {P:Pt} (h:PtAt w b P):b<w.heap.size:=by obtain⟨c,h,_⟩:=h;exact lt_block h
theorem PtAt.keeps {w w':World} {b:Nat} {P:Pt} {S:Nat→Prop} (h:PtAt w b P) (hk:Keeps S w w') (hS:¬ S b):PtAt w' b P:=by
 obtain⟨c,h,hc⟩:=h;exact⟨c,block_keep h hk hS,hc⟩
def Pt.put (P:Pt) (i:Nat) (x:Int):Pt:={ P with c:=updf P.c i x }
theorem PtC.put {c:Array Value} {P:Pt} (h:PtC c P) (i:Nat) (hi:i<256) (x:Int) (h0:0≤x) (h2:x≤2):PtC (c.setIfInBounds (1+i) (.int .u8 x)) (P.put i x):=by
 have hs:=h.size
 refine⟨by simpa using hs,?_,?_,h.n1,h.n2,?_,?_⟩
 ·rw [Array.getElem?_setIfInBounds_ne (by omega)];exact h.len
 ·intro j hj
  by_cases e:j=i
  ·subst e;rw [Array.getElem?_setIfInBounds_self_of_lt (by omega)];simp [Pt.put,updf]
  ·rw [Array.getElem?_setIfInBounds_ne (by omega),h.col j hj];simp [Pt.put,updf,e]
 ·intro j;simp only [Pt.put,updf];split;exact h0;exact h.lo j
 ·intro j;simp only [Pt.put,updf];split;exact h2;exact h.hi j
theorem PtC.one {c:Array Value} {P:Pt} (h:PtC c P):c.all (·.oneCell')=true:=by
 rw [Array.all_eq_true]
 intro i hi
 rw [h.size] at hi
 have key:∃ k x,c[i]?=some (.int k x):=by
  by_cases h0:i=0
  ·subst h0;exact⟨_,_,h.len⟩
  ·obtain⟨j,rfl⟩:∃ j,i=1+j:=⟨i - 1,by omega⟩
   exact⟨_,_,h.col j (by omega)⟩
 obtain⟨k,x,hx⟩:=key
 obtain⟨_,hx'⟩:=Array.getElem?_eq_some_iff.1 hx
 rw [hx'];rfl
theorem pz_list:Tryz.zeroCells176.toList = .int .i64 0 :: List.replicate 256 (Value.int .u8 0):=by kernel_rfl
theorem pz_new (n:Nat) (h1:1≤n) (h2:n≤256):PtC (Tryz.zeroCells176.setIfInBounds 0 (.int .i64 n)) ⟨n,fun _=>0⟩:=by
 have hs:Tryz.zeroCells176.size=257:=Tryz.zeroCells176_size
 have hz:∀ i,Tryz.zeroCells176[i]?=(Value.int .i64 0 :: List.replicate 256 (Value.int .u8 0))[i]?:=fun i=>by rw [← pz_list,Array.getElem?_toList]
 refine⟨by simp [hs],?_,?_,h1,h2,fun i=>by simp,fun i=>by simp⟩
 ·rw [Array.getElem?_setIfInBounds_self_of_lt (by omega)]
 ·intro i hi
  rw [Array.getElem?_setIfInBounds_ne (by omega),hz,show 1+i=i+1 by omega,List.getElem?_cons_succ,List.getElem?_replicate,if_pos hi]
theorem cnew_ok (n:Int) (w:World) (hn:1≤n) (hn1:n≤256):
 Calls Tryz.prog 58 #[.int .i64 n] w fun e w'=>e = .returned (.tuple #[.pointer (some ⟨w.heap.size,0,none⟩),.int .i64 0])∧Keeps (fun _=>False) w w'∧PtAt w' w.heap.size ⟨n.toNat,fun _=>0⟩:=by
 obtain⟨m,rfl⟩:∃ m:Nat,n=m:=⟨n.toNat,by omega⟩
 have hz:=hid (pz_new m (by omega) (by omega))
 go_enter Tryz.func58,Tryz.ntmps58
 go_wp2
 go_ret2
 exact⟨rfl,(Keeps.refl _ _).alloc _,_,alloc_new,by simpa using hz.out⟩
theorem cnew_bad (n:Int) (w:World) (hn:n<1∨256<n):
 Calls Tryz.prog 58 #[.int .i64 n] w fun e w'=>e = .returned (.tuple #[.pointer none,.int .i64 2])∧w'=w:=by
 rcases hn with hn | hn
 ·go_enter Tryz.func58,Tryz.ntmps58
  go_wp2
  go_ret2
  exact⟨rfl,rfl⟩
 ·have:¬ n<1:=by omega
  go_enter Tryz.func58,Tryz.ntmps58
  go_wp2
  go_ret2
  exact⟨rfl,rfl⟩
theorem cmade (b:Nat) (P:Pt) (w:World) (h:PtAt w b P):
 Calls Tryz.prog 99 #[.pointer (some ⟨b,0,none⟩)] w fun e w'=>e = .returned (.bool true)∧w'=w:=by
 obtain⟨c,hc,hC⟩:=h
 have c0:=cell_at hc hC.len
 have h1:=hC.n1
 have hI:0<P.n:=by omega
 clear hc hC
 go_enter Tryz.func99,Tryz.ntmps99
 go_wp2
 go_ret
 exact⟨rfl,rfl⟩
theorem cwith_bad (b:Nat) (P:Pt) (s:Int) (f:Value) (w:World) (h:PtAt w b P) (hs:s<0∨(P.n:Int)≤s):
 Calls Tryz.prog 169 #[.pointer (some ⟨b,0,none⟩),.int .i64 s,f] w fun e w'=>e = .returned (.int .i64 3)∧Keeps (fun _=>False) w w':=by
 have HM:=hid (cmade b P w h)
 obtain⟨c,hc,hC⟩:=h
 have c0:=cell_at hc hC.len
 clear hc hC
 by_cases h0:s<0
 ·clear hs
  go_enter Tryz.func169,Tryz.ntmps169
  go_wp2_with fail
  refine HM.out.mono ?_
  rintro e w' ⟨rfl,h'⟩
  obtain rfl:=h'.symm
  go_wp2_with fail
  go_ret
  exact⟨rfl,(by repeat (first | exact Keeps.refl _ _ | apply Keeps.drewN | apply Keeps.alloc))⟩
 ·have h1:(P.n:Int)≤s:=by omega
  clear hs
  go_enter Tryz.func169,Tryz.ntmps169
  go_wp2_with fail
  refine HM.out.mono ?_
  rintro e w' ⟨rfl,h'⟩
  obtain rfl:=h'.symm
  go_wp2_with fail
  go_ret
  exact⟨rfl,(by repeat (first | exact Keeps.refl _ _ | apply Keeps.drewN | apply Keeps.alloc))⟩
theorem cwith_ok (b:Nat) (P:Pt) (i:Nat) (f:FuncId) (caps:Array Value) (R:Int→World→Prop) (w:World) (h:PtAt w b P) (hi:i<P.n)
 (hr:∀ args w,(callFunc f args).run Tryz.prog w = .ok (.enter f args) w)
 (hf:∀ w',Keeps (fun _=>False) w w'→Calls Tryz.prog f (#[.pointer (some ⟨b,1+i,none⟩)] ++ caps) w' fun e w'=>∃ k,e = .returned (.int .i64 k)∧R k w'):
 Calls Tryz.prog 169 #[.pointer (some ⟨b,0,none⟩),.int .i64 i,.func (.func f) #[] caps] w fun e w'=>∃ k,e = .returned (.int .i64 k)∧R k w':=by
 have HM:=hid (cmade b P w h)
 obtain⟨c,hc,hC⟩:=h
 have c0:=cell_at hc hC.len
 have hb:=lt_block hc
 have h2:=hC.n2
 clear hc hC
 have HF:=hid hf
 clear hf
 have g0:(0:Int)≤i:=by omega
 have g1:(i:Int)<(P.n:Int):=by omega
 have g2:(i:Int)<256:=by omega
 go_enter Tryz.func169,Tryz.ntmps169
 go_wp2_with fail
 refine HM.out.mono ?_
 rintro e w' ⟨rfl,h'⟩
 obtain rfl:=h'.symm
 go_wp2_with fail
 refine (HF.out _ (Keeps.refl _ _)).mono ?_
 rintro e w3 ⟨k,rfl,h3⟩
 go_wp2_with fail
 go_ret
 exact⟨_,rfl,h3⟩
end Go.Proofs.YtnlkfbndlngjaaaGreat
namespace Go.Proofs.YtnlkfbndlngjaaaGreat
open Go.RowKit
theorem PtAt.cell {w:World} {b:Nat} {P:Pt} (h:PtAt w b P) {i:Nat} (hi:i<P.n):w.cell? ⟨b,1+i,none⟩=some (.int .u8 (P.c i)):=by
 obtain⟨c,h,hc⟩:=h;exact cell_at h (hc.col i (by have:=hc.n2;omega))
theorem PtAt.frozen {w:World} {b:Nat} {P:Pt} (h:PtAt w b P) (i:Nat):w.frozen? ⟨b,i,none⟩=false:=by
 obtain⟨c,h,hc⟩:=h;exact frozen_block h i
theorem PtAt.bd {w:World} {b:Nat} {P:Pt} (h:PtAt w b P) (i:Nat):0≤P.c i∧P.c i≤2:=by
 obtain⟨c,h,hc⟩:=h;exact⟨hc.lo i,hc.hi i⟩
theorem PtAt.n12 {w:World} {b:Nat} {P:Pt} (h:PtAt w b P):1≤P.n∧P.n≤256:=by
 obtain⟨c,h,hc⟩:=h;exact⟨hc.n1,hc.n2⟩
theorem PtAt.set {w:World} {b:Nat} {P:Pt} (h:PtAt w b P) {i:Nat} (hi:i<P.n) (x:Int) (h0:0≤x) (h2:x≤2):PtAt (w.setCell ⟨b,1+i,none⟩ (.int .u8 x)) b (P.put i x):=by
 obtain⟨c,h,hc⟩:=h;exact⟨_,set_block h _ _,hc.put i (by have:=hc.n2;omega) x h0 h2⟩
theorem cof1 (b o B:Nat) (x:Int) (w:World) (h0:0≤x) (h2:x≤2) (hc:w.cell? ⟨b,o,none⟩=some (.int .u8 x)) (hB:w.heap[B]?=some (.cells #[.int .i64 0] 3)):
 Calls Tryz.prog 170 #[.pointer (some ⟨b,o,none⟩),.pointer (some ⟨B,0,none⟩)] w fun e w'=>e = .returned (.int .i64 0)∧Keeps (fun y=>y=B) w w'∧w'.heap[B]?=some (.cells #[.int .i64 x] 3):=by
 obtain⟨c0,cf,cl⟩:=cells1 hB
 have f0:=cf 0
 have HB:=hid hB
 have hw:IntKind.i64.wrap x=x:=IntWalk.i64_in _ (by omega)
 clear hB cf
 go_enter Tryz.func170,Tryz.ntmps170
 go_wp2
 go_ret
 exact⟨rfl,keeps_set1 _ _ _ _,(set_block HB.out 0 _).trans rfl⟩
theorem cof_ok (b:Nat) (P:Pt) (i:Nat) (w:World) (h:PtAt w b P) (hi:i<P.n):
 Calls Tryz.prog 93 #[.pointer (some ⟨b,0,none⟩),.int .i64 i] w fun e w'=>e = .returned (.tuple #[.int .i64 (P.c i),.int .i64 0])∧Keeps (fun _=>False) w w':=by
 have HW:=hid (fun (w0:World) B (hk0:Keeps (fun _=>False) w w0) (hq:w0.heap[B]?=some (.cells #[.int .i64 0] 3))=>
  cwith_ok b P i 170 #[.pointer (some ⟨B,0,none⟩)] (fun k w'=>k=0∧Keeps (fun y=>y=B) w0 w'∧w'.heap[B]?=some (.cells #[.int .i64 (P.c i)] 3)) w0 (h.keeps hk0 (fun h=>h)) hi (enters_of Tryz.func170 (by kernel_rfl) rfl)
   (fun w' hk=>(cof1 b (1+i) B (P.c i) w' (h.bd i).1 (h.bd i).2 ((h.keeps (hk0.trans hk) (fun h=>h)).cell hi) (block_keep hq hk (fun h=>h))).mono (by
    rintro e w2 ⟨rfl,h2,h3⟩
    exact⟨0,rfl,rfl,hk.trans' h2 (fun _ _ h=>h.elim) (fun _ _ h=>h),h3⟩)))
 clear h hi
 go_enter Tryz.func93,Tryz.ntmps93
 go_wp2_with fail
 refine (HW.out _ _ ((Keeps.refl _ _).alloc _) alloc_new).mono ?_
 rintro e w1 ⟨k,rfl,rfl,hk,hq⟩
 obtain⟨c0,_,_⟩:=cells1 hq
 have HK:=hid (((Keeps.refl (fun y=>w.heap.size≤y) w).alloc _).trans' hk (U:=fun y=>w.heap.size≤y) (fun _ _ h=>h) (fun y _ h=>by omega))
 clear hk hq
 go_wp2_with fail
 go_ret2
 exact⟨rfl,HK.out.fresh⟩
theorem cof_bad (b:Nat) (P:Pt) (s:Int) (w:World) (h:PtAt w b P) (hs:s<0∨(P.n:Int)≤s):
 Calls Tryz.prog 93 #[.pointer (some ⟨b,0,none⟩),.int .i64 s] w fun e w'=>e = .returned (.tuple #[.int .i64 0,.int .i64 3])∧Keeps (fun _=>False) w w':=by
 have HW:=hid (fun (w0:World) f (hk0:Keeps (fun _=>False) w w0)=>cwith_bad b P s f w0 (h.keeps hk0 (fun h=>h)) hs)
 clear h hs
 go_enter Tryz.func93,Tryz.ntmps93
 go_wp2_with fail
 refine (HW.out _ _ ((Keeps.refl _ _).alloc _)).mono ?_
 rintro e w1 ⟨rfl,hk⟩
 obtain⟨c0,_,_⟩:=cells1 (block_keep (alloc_new (w:=w)) hk (fun h=>h))
 have HK:=hid (((Keeps.refl (fun _=>False) w).alloc _).trans hk)
 clear hk
 go_wp2_with fail
 go_ret2
 exact⟨rfl,HK.out⟩
def Pt.shade (P:Pt) (i:Nat):Pt:=if P.c i=0 then P.put i 1 else P
theorem cshade1 (b i B:Nat) (P:Pt) (w:World) (h:PtAt w b P) (hi:i<P.n) (hB:w.heap[B]?=some (.cells #[.bool false] 4)):
 Calls Tryz.prog 260 #[.pointer (some ⟨b,1+i,none⟩),.pointer (some ⟨B,0,none⟩)] w fun e w'=>e = .returned (.int .i64 0)∧Keeps (fun y=>y=b∨y=B) w w'∧w'.heap[B]?=some (.cells #[.bool (P.c i == 0)] 4)∧PtAt w' b (P.shade i):=by
 obtain⟨c0,cf,cl⟩:=cells1 hB
 have f0:=cf 0
 have hc:=h.cell hi
 have fc:=h.frozen (1+i)
 have hl:=h.lt
 have hne:b≠B:=by obtain⟨c,h,_⟩:=h;exact type_ne h hB (by decide)
 have hne':=hne.symm
 have HP:=hid h;have HI:=hid hi;have HB:=hid hB
 clear h hi hB cf
 rcases hx:(P.c i == 0) with _ | _
 ·have HX:=hid (show P.shade i=P by rw [Pt.shade,if_neg (by simpa using hx)])
  go_enter Tryz.func260,Tryz.ntmps260
  go_wp2
  go_ret
  rw [HX.out]
  have kk:=keeps_set1 w B 0 (.bool false)
  exact⟨rfl,kk.mono (fun _ _ h=>.inr h),(set_block HB.out 0 _).trans rfl,HP.out.keeps kk hne⟩
 ·have HX:=hid (show P.shade i=P.put i 1 by rw [Pt.shade,if_pos (by simpa using hx)])
  go_enter Tryz.func260,Tryz.ntmps260
  go_wp2
  go_ret
  rw [HX.out]
  have kk:=keeps_set1 w B 0 (.bool true)
  exact⟨rfl,(kk.mono (T:=fun y=>y=b∨y=B) (fun _ _ h=>.inr h)).setCell (p:=⟨b,_,none⟩) (.inl (.inl rfl)) _,(set_oth (set_block HB.out 0 _) hne').trans rfl,(HP.out.keeps kk hne).set HI.out 1 (by decide) (by decide)⟩
theorem cshade_ok (b:Nat) (P:Pt) (i:Nat) (w:World) (h:PtAt w b P) (hi:i<P.n):
 Calls Tryz.prog 230 #[.pointer (some ⟨b,0,none⟩),.int .i64 i] w fun e w'=>e = .returned (.tuple #[.bool (P.c i == 0),.int .i64 0])∧Keeps (fun y=>y=b) w w'∧PtAt w' b (P.shade i):=by
 have hl:=h.lt
 have HW:=hid (fun (w0:World) B (hk0:Keeps (fun _=>False) w w0) (hq:w0.heap[B]?=some (.cells #[.bool false] 4))=>
  cwith_ok b P i 260 #[.pointer (some ⟨B,0,none⟩)] (fun k w'=>k=0∧Keeps (fun y=>y=b∨y=B) w0 w'∧w'.heap[B]?=some (.cells #[.bool (P.c i == 0)] 4)∧PtAt w' b (P.shade i)) w0 (h.keeps hk0 (fun h=>h)) hi (enters_of Tryz.func260 (by kernel_rfl) rfl)
   (fun w' hk=>(cshade1 b i B P w' (h.keeps (hk0.trans hk) (fun h=>h)) hi (block_keep hq hk (fun h=>h))).mono (by
    rintro e w2 ⟨rfl,h2,h3,h4⟩
    exact⟨0,rfl,rfl,hk.trans' h2 (fun _ _ h=>h.elim) (fun _ _ h=>h),h3,h4⟩)))
 clear h hi
 go_enter Tryz.func230,Tryz.ntmps230
 go_wp2_with fail
 refine (HW.out _ _ ((Keeps.refl _ _).alloc _) alloc_new).mono ?_
 rintro e w1 ⟨k,rfl,rfl,hk,hq,hp⟩
 obtain⟨c0,_,_⟩:=cells1 hq
 have HK:=hid ((((Keeps.refl (fun y=>y=b∨w.heap.size≤y) w).alloc _).trans' hk (U:=fun y=>y=b∨w.heap.size≤y) (fun _ _ h=>h) (fun y _ h=>by rcases h with h | h;exact .inl h;exact .inr (by omega))).mono (T:=fun y=>y=b) (fun y hy h=>by rcases h with h | h;exact h;omega))
 have HP:=hid hp
 clear hk hq hp
 go_wp2_with fail
 go_ret2
 exact⟨rfl,HK.out,HP.out⟩
end Go.Proofs.YtnlkfbndlngjaaaGreat
namespace Go.Proofs.YtnlkfbndlngjaaaGreat
open Go.RowKit
attribute [local go_sem] Oper.semAt_some
def Pt.gr (P:Pt):Nat→List Nat
 | 0=>[]
 | k+1=>P.gr k ++ (if P.c k=1 then [k] else [])
theorem Pt.gr_yes {P:Pt} {k:Nat} (h:P.c k=1):P.gr (k+1)=P.gr k ++ [k]:=by simp [Pt.gr,h]
theorem Pt.gr_no {P:Pt} {k:Nat} (h:P.c k≠1):P.gr (k+1)=P.gr k:=by simp [Pt.gr,h]
theorem Pt.gr_pre {P:Pt} (k n:Nat) (h:k≤n):∃ suf,P.gr n=P.gr k ++ suf:=by
 induction n with
 | zero=>obtain rfl:k=0:=by omega
         exact⟨[],by simp⟩
 | succ n ih=>
  by_cases e:k=n+1
  ·subst e;exact⟨[],by simp⟩
  ·obtain⟨suf,hs⟩:=ih (by omega)
   exact⟨suf ++ (if P.c n=1 then [n] else []),by simp [Pt.gr,hs]⟩
theorem Pt.gr_split {P:Pt} {k n:Nat} (h:k<n) (hs:P.c k=1):∃ suf,P.gr n=P.gr k ++ k :: suf:=by
 obtain⟨suf,h'⟩:=Pt.gr_pre (P:=P) (k+1) n h
 exact⟨suf,by rw [h',Pt.gr_yes hs];simp⟩
def encG (x:Nat):Array Value:=#[.int .i64 x]
theorem cgrey_gives (b B1 B2:Nat) (P:Pt):
 Gives Tryz.prog 271 #[.pointer (some ⟨B1,0,none⟩),.pointer (some ⟨B2,0,none⟩)] encG (P.gr P.n)
  (fun W=>W.cell? ⟨B1,0,none⟩=some (.pointer (some ⟨b,0,none⟩))∧W.cell? ⟨B2,0,none⟩=some (.int .i64 0)∧PtAt W b P) (fun _=>False):=by
 intro l J Jx W hJ hJx hRd hY h0
 have hr:=hRd _ _ h0
 obtain⟨c1,c2,ht⟩:=hr
 have HV:=hid (cmade b P W ht)
 clear ht
 have HJ:=hid hJ;have HR:=hid hRd;have HY:=hid hY;have H0:=hid h0
 clear hJ hRd hY h0
 refine (callsIn_wide (n:=0)).1 ?_
 refine callsIn_of_wp Tryz.func271 rfl trivial ?_ rfl
 simp only [Tryz.ntmps271,List.size_toArray,List.length_cons,List.length_nil,Nat.reduceAdd,Nat.reduceSub,Array.replicate_succ,Array.replicate_zero,List.push_toArray,List.append_toArray,List.nil_append,List.cons_append]
 gi_wp2_with fail
 refine⟨trivial,rfl,callsIn_wide.2 (HV.out.mono ?_)⟩
 rintro e w' ⟨rfl,h'⟩
 obtain rfl:=h'.symm
 gi_wp2_with fail
 gi_loopw [4] (fun i wr=>∃ k:Nat,k≤P.n∧i = .int .i64 k∧J (P.gr k) wr) (fun i _=>P.n - (intOf i).toNat)
 case atStart=>exact⟨0,Nat.zero_le _,rfl,H0.out⟩
 case round=>
  obtain⟨k,hk,rfl,hj⟩:=hrel
  clear c1 c2 HV H0
  obtain⟨c1,c2,ht⟩:=HR.out _ _ hj
  have h12:=ht.n12
  have hhd:wr.cell? ⟨b,0,none⟩=some (.int .i64 P.n):=by obtain⟨c,h,hc⟩:=ht;exact cell_at h hc.len
  by_cases hlt:k<P.n
  ·have hlt':(k:Int)<(P.n:Int):=by omega
   have hk0:(0:Int)≤k:=by omega
   have hk256:(k:Int)<256:=by omega
   have h1:=ht.cell hlt
   clear ht
   rcases he:(P.c k == 1) with _ | _
   ·have HE:=hid (show P.c k≠1 by simpa using he)
    have HJ1:=hid hj
    gi_wp2_with fail
    refine⟨fun _ h=>(by cases h),?_⟩
    gi_wp2_with fail
    exact⟨⟨k+1,by omega,by go_num,by rw [Pt.gr_no HE.out];exact HJ1.out⟩,by simp [intOf];omega⟩
   ·have hes:P.c k=1:=by simpa using he
    obtain⟨suf,hsuf⟩:=Pt.gr_split hlt hes
    obtain⟨fn,tmps,assign,body,hy,hR⟩:=HY.out _ _ suf _ hsuf hj
    have HE:=hid hes;clear hes hsuf suf
    dsimp only [encG] at hy
    gi_wp2_with fail
    refine⟨rfl,hR.mono ?_⟩
    rintro e W' (⟨rfl,hJ'⟩ | ⟨rfl,hJx'⟩)
    ·gi_wp2_with fail
     exact⟨⟨k+1,by omega,by go_num,by rw [Pt.gr_yes HE.out];exact hJ'⟩,by simp [intOf];omega⟩
    ·gi_wp2_with fail
     refine bodyPost_ret (results_none rfl _ _ _) rfl ?_
     exact⟨⟨_,rfl⟩,.inr hJx'⟩
  ·have HK:=hid (show k=P.n by omega)
   have hnl:¬ (k:Int)<(P.n:Int):=by omega
   clear ht
   gi_wp2_with fail
   go_end0
   exact⟨⟨_,rfl⟩,.inl (by rw [← HK.out];exact hj)⟩
theorem cgrey_call (b:Nat) (w:World):
 Calls Tryz.prog 263 #[.pointer (some ⟨b,0,none⟩),.int .i64 0] w fun e w'=>∃ B1 B2,
  e = .returned (.func (.func 271) #[] #[.pointer (some ⟨B1,0,none⟩),.pointer (some ⟨B2,0,none⟩)])∧w.heap.size≤B1∧w.heap.size≤B2∧
  Keeps (fun _=>False) w w'∧w'.heap[B1]?=some (.cells #[.pointer (some ⟨b,0,none⟩)] 96)∧w'.heap[B2]?=some (.cells #[.int .i64 0] 3):=by
 go_enter Tryz.func263,Tryz.ntmps263
 go_wp2
 go_ret
 exact⟨_,_,rfl,Nat.le_refl _,Nat.le_succ _,((Keeps.refl _ _).alloc _).alloc _,alloc_old alloc_new,alloc_new' (by simp)⟩
theorem cgrey_ok (b:Nat) (P:Pt) (w:World) (h:PtAt w b P):
 Calls Tryz.prog 238 #[.pointer (some ⟨b,0,none⟩),.int .i64 0] w fun e w'=>Keeps (fun _=>False) w w'∧
  ((P.gr P.n=[]∧e = .returned (.tuple #[.int .i64 0,.bool false]))∨(∃ (i:Nat) (r:List Nat),P.gr P.n=i :: r∧e = .returned (.tuple #[.int .i64 i,.bool true]))):=by
 have HK:=hid (fun (w':World) (hk:Keeps (fun _=>False) w w')=>h.keeps hk (fun h=>h))
 have hbl:=h.lt
 clear h
 refine (callsIn_wide (n:=0)).1 ?_
 refine callsIn_of_wp_marks Tryz.func238 rfl trivial ?_ rfl
 simp only [Tryz.ntmps238,List.size_toArray,List.length_cons,List.length_nil,Nat.reduceAdd,Nat.reduceSub,Array.replicate_succ,Array.replicate_zero,List.push_toArray,List.append_toArray,List.nil_append,List.cons_append]
 gi_wp2_with fail
 refine⟨trivial,rfl,callsIn_wide.2 ((cgrey_call b _).mono ?_)⟩
 rintro e w1 ⟨B1,B2,rfl,hB1,hB2,hk1,hb1,hb2⟩
 have HB1:=hid hb1;have HB2:=hid hb2
 have HK1:=hid (((Keeps.refl (fun _=>False) w).alloc _).alloc _ |>.trans hk1)
 simp only [World.size_alloc] at hB1 hB2
 have HR1:=hid (block_keep (alloc_old (alloc_new (w:=w))) hk1 (fun h=>h))
 have HR2:=hid (block_keep (alloc_new' (w:=w.alloc _) (n:=w.heap.size+1) (by simp)) hk1 (fun h=>h))
 clear hk1 hb1 hb2
 gi_wp2_with fail
 have hn:∀ y,y<w1.heap.size→¬ Two w1 y:=fun y hy h=>by rcases h with h | h <;> omega
 have hsz:=HK1.out.size
 refine wp_over (gf:=271) (lb:=#[.pointer (some ⟨B1,0,none⟩),.pointer (some ⟨B2,0,none⟩)]) rfl (enters_of Tryz.func271 (by kernel_rfl) rfl) (cgrey_gives b B1 B2 P) (fun _=>rfl)
  (fun pre W=>pre=[]∧Keeps (Two w1) w1 W)
  (fun c W=>c = .ret∧∃ (i:Nat) (r:List Nat),P.gr P.n=i :: r∧W.heap[w.heap.size]?=some (.cells #[.int .i64 i] 3)∧W.heap[w.heap.size+1]?=some (.cells #[.bool true] 4)∧Keeps (fun y=>w.heap.size≤y) w W)
  (fun pre W W' h hk=>⟨h.1,h.2.trans (hk.mono (fun _ _ h=>h.elim (fun h=>h.elim) (fun h=>h)))⟩)
  ?hIx ?hRd (fun _ _ h=>h) ⟨rfl,Keeps.refl _ _⟩ ?body ?done ?stop
 case hIx=>
  rintro c W W' ⟨rfl,i,r,hx,h1,h2,hk⟩ hk'
  have hn':∀ y,y<w1.heap.size→¬ (False∨Two w1 y):=fun y hy h=>by rcases h with h | h;exact h;exact hn y hy h
  exact⟨rfl,i,r,hx,block_keep h1 hk' (hn' _ (lt_block HR1.out)),block_keep h2 hk' (hn' _ (lt_block HR2.out)),hk.trans' hk' (fun _ _ h=>h) (fun y hy h=>absurd h (hn' y (by omega)))⟩
 case hRd=>
  rintro pre W ⟨_,hk⟩
  exact⟨cell_at (block_keep HB1.out hk (hn _ (lt_block HB1.out))) rfl,cell_at (block_keep HB2.out hk (hn _ (lt_block HB2.out))) rfl,(HK.out _ HK1.out).keeps hk (hn _ (by omega))⟩
 case body=>
  rintro l pre i suf W hx ⟨rfl,hk⟩ hsW
  clear hsW
  simp only [encG,List.zip_toArray,List.zip_cons_cons,List.zip_nil_left]
  gi_wp2_with fail
  refine⟨Keeps.refl _ _,fun W2 hk2=>?_⟩
  have hk3:=hk.trans hk2
  have q1:=block_keep HR1.out hk3 (hn _ (lt_block HR1.out))
  have q2:=block_keep HR2.out hk3 (hn _ (lt_block HR2.out))
  have c10:=cell_at (i:=0) q1 rfl
  have c20:=cell_at (i:=0) q2 rfl
  have f10:=frozen_block q1 0
  have f20:=frozen_block q2 0
  have Q1:=hid q1;have Q2:=hid q2;have HX:=hid hx;have HK3:=hid hk3
  clear q1 q2 hx hk3 hk hk2
  gi_wp2_with fail
  have hb1:=lt_block HR1.out
  have hb2:=lt_block HR2.out
  refine⟨?k,rfl,i,suf,by simpa using HX.out,?b1,?b2,?kk⟩
  case k=>exact ((Keeps.refl _ _).setCell (p:=⟨w.heap.size,0,none⟩) (.inl (hn _ (by omega))) _).setCell (p:=⟨w.heap.size+1,0,none⟩) (.inl (hn _ (by dsimp only;omega))) _
  case b1=>exact (set_oth (set_block Q1.out 0 _) (by simp)).trans rfl
  case b2=>exact (set_block (set_oth Q2.out (by simp)) 0 _).trans rfl
  case kk=>
   have k4:Keeps (fun y=>w.heap.size≤y) W2 _:=((Keeps.refl _ _).setCell (p:=⟨w.heap.size,0,none⟩) (.inl (Nat.le_refl _)) (.int .i64 i)).setCell (p:=⟨w.heap.size+1,0,none⟩) (.inl (Nat.le_succ _)) (.bool true)
   exact (HK1.out.up.trans' HK3.out (U:=fun y=>w.heap.size≤y) (fun _ _ h=>h) (fun y hy h=>absurd h (hn y (by omega)))).trans k4
 case done=>
  rintro W ⟨hxs,hk⟩ hD
  have q1:=block_keep HR1.out hk (hn _ (lt_block HR1.out))
  have q2:=block_keep HR2.out hk (hn _ (lt_block HR2.out))
  have c10:=cell_at (i:=0) q1 rfl
  have c20:=cell_at (i:=0) q2 rfl
  have f10:=frozen_block q1 0
  have f20:=frozen_block q2 0
  have HX:=hid hxs;have HKK:=hid hk;have HD:=hid hD
  have Q1:=hid q1;have Q2:=hid q2
  clear hxs q1 q2 hk hD
  gi_wp2_with fail
  have hb1:=lt_block HR1.out
  have hb2:=lt_block HR2.out
  refine leave_mark (by rw [set_other (by dsimp only;omega),set_other (by dsimp only;omega)];exact HD.out) fun W' hk'=>?_
  have d1:=block_keep (set_oth (a:=⟨w.heap.size+1,0,none⟩) (v:=.bool false) (set_block Q1.out 0 (.int .i64 0)) (by simp)) hk' (by omega)
  have d2:=block_keep (set_block (set_oth (a:=⟨w.heap.size,0,none⟩) (v:=.int .i64 0) Q2.out (by simp)) 0 (.bool false)) hk' (by omega)
  have e10:=cell_at (i:=0) d1 rfl
  have e20:=cell_at (i:=0) d2 rfl
  have k3:Keeps (fun y=>w.heap.size≤y) W W':=(((Keeps.refl _ _).setCell (p:=⟨w.heap.size,0,none⟩) (.inl (Nat.le_refl _)) _).setCell (p:=⟨w.heap.size+1,0,none⟩) (.inl (Nat.le_succ _)) _).trans' hk' (fun _ _ h=>h) (fun y _ h=>by omega)
  refine⟨.tuple #[.int .i64 0,.bool false],by simp [results,Tryz.results238,go_sem,e10,e20],?_,.inl ⟨HX.out,rfl⟩⟩
  exact ((HK1.out.up.trans' HKK.out (U:=fun y=>w.heap.size≤y) (fun _ _ h=>h) (fun y hy h=>absurd h (hn y (by omega)))).trans k3).fresh
 case stop=>
  rintro c W ⟨rfl,i,r,hx,h1,h2,hk⟩ hD
  have c10:=cell_at (i:=0) h1 rfl
  have c20:=cell_at (i:=0) h2 rfl
  have HX:=hid hx;have HKK:=hid hk;have HD:=hid hD
  have Q1:=hid h1;have Q2:=hid h2
  clear hx hk hD h1 h2
  gi_wp2_with fail
  refine leave_mark HD.out fun W' hk'=>?_
  have hb1:=lt_block HR1.out
  have hb2:=lt_block HR2.out
  have e10:=cell_at (i:=0) (block_keep Q1.out hk' (by omega)) rfl
  have e20:=cell_at (i:=0) (block_keep Q2.out hk' (by omega)) rfl
  refine⟨.tuple #[.int .i64 i,.bool true],by simp [results,Tryz.results238,go_sem,e10,e20],?_,.inr ⟨i,r,HX.out,rfl⟩⟩
  exact (HKK.out.trans' hk' (U:=fun y=>w.heap.size≤y) (fun _ _ h=>h) (fun y hy h=>by omega)).fresh
end Go.Proofs.YtnlkfbndlngjaaaGreat
