import Derived.Test.YtnlkfbndlngjaaaGreatMgW
import Derived.Test.YtnlkfbndlngjaaaGreatNgA
import Derived.Test.YtnlkfbndlngjaaaGreatRfO
import Derived.Test.YtnlkfbndlngjaaaGreatRiH
import Derived.Test.YtnlkfbndlngjaaaGreatRiO
import Derived.Test.YtnlkfbndlngjaaaGreatRiR
import Derived.Deep.RegionHeldLaw
namespace Go.Proofs.YtnlkfbndlngjaaaGreat
open Go.RowKit
set_option linter.unusedVariables false
set_option linter.unusedSimpArgs false
def PTy (t:TypeId):Prop:=t=114∨t=244∨t=166∨t=169∨t=173∨t=176∨t=181∨t=183
instance (t:TypeId):Decidable (PTy t):=by unfold PTy;infer_instance
def ATy (t:TypeId):Prop:=t=149∨t=217
instance (t:TypeId):Decidable (ATy t):=by unfold ATy;infer_instance
def FTy (t:TypeId):Prop:=PTy t∨ATy t∨Ty24 t
instance (t:TypeId):Decidable (FTy t):=by unfold FTy;infer_instance
def UTy (t:TypeId):Prop:=PTy t∨t=90∨t=92∨t=100∨t=104
instance (t:TypeId):Decidable (UTy t):=by unfold UTy;infer_instance
def WTy (t:TypeId):Prop:=Ty24 t∨t=210∨t=4
instance (t:TypeId):Decidable (WTy t):=by unfold WTy;infer_instance
theorem PTy.w {t:TypeId} (h:PTy t):¬ WTy t:=by rcases h with rfl | rfl | rfl | rfl | rfl | rfl | rfl | rfl <;> decide
theorem ATy.w {t:TypeId} (h:ATy t):¬ WTy t:=by rcases h with rfl | rfl <;> decide
theorem ATy.u {t:TypeId} (h:ATy t):¬ UTy t:=by rcases h with rfl | rfl <;> decide
theorem Ty24.u {t:TypeId} (h:Ty24 t):¬ UTy t:=by rcases h with rfl | rfl | rfl | rfl | rfl | rfl <;> decide
def Ft (w:World) (N y:Nat):Prop:=N≤y∧∃ c t,w.heap[y]?=some (.cells c t)∧FTy t
section
variable {F F':Nat→Prop} {N:Nat} {w0 w w' w1 w2:World} {a m x y q:Nat} {LA:ArL} {LM:MkL} {A A' B B':Ar} {M M' M2 M2':Mk} {L:L24} {S:Nat→Prop}
theorem Ft.trans (h1:Keeps (Ft w N) w w1) (h2:Keeps (Ft w1 N) w1 w2):Keeps (Ft w N) w w2:=
 h1.trans' h2 (fun _ _ h=>h) (fun y hy h=>by
  by_cases e:Ft w N y
  ·exact e
  ·obtain⟨hN,c,t,hc,ht⟩:=h
   rw [h1.block y hy e] at hc
   exact⟨hN,c,t,hc,ht⟩)
theorem Ft.block {z:Nat} {c:Array Value} {t:TypeId} (hk:Keeps (Ft w N) w w') (hz:w.heap[z]?=some (.cells c t)) (ht:¬ FTy t):w'.heap[z]?=some (.cells c t):=
 block_keep hz hk (fun ⟨_,c',t',h,h'⟩=>by
  rw [hz] at h
  simp at h
  rw [← h.2] at h'
  exact ht h')
theorem Ft.lo (hk:Keeps (Ft w N) w w'):Keeps (fun y=>N≤y) w w':=hk.mono (fun _ _ h=>h.1)
theorem R24.other (h:R24 w m L M q) (hk:Keeps S w w') (hS:∀ y cs t,w.heap[y]?=some (.cells cs t)→S y→¬ WTy t):R24 w' m L M q:=by
 have no:∀ {z:Nat} {cs:Array Value} {t:TypeId},w.heap[z]?=some (.cells cs t)→WTy t→¬ S z:=fun hz h1 hs=>hS _ _ _ hz hs h1
 have ni:∀ {v:Value} {l:List Int},IRow w 0 v l→∀ k,v.ownBlock=some k→¬ S k:=fun hv k hk'=>by
  obtain⟨c,hc⟩:=ints_block hv hk'
  exact no hc (by decide)
 obtain⟨⟨cap,o⟩,⟨cur,r,hr⟩,hc,hp,hst,hb,hin,a1,a2,a3⟩:=h
 obtain⟨cp,op⟩:=hp.own
 obtain⟨curp,rp,_,_⟩:=hp.row
 obtain⟨ck,oc⟩:=hc.own
 obtain⟨curc,rc,_⟩:=hc.row
 exact⟨⟨cap,block_keep o hk (no o (by decide))⟩,⟨cur,block_keep r hk (no r (by decide)),hr⟩,hc.keeps hk (no oc (by decide)) (no rc (by decide)),hp.keeps hk (no op (by decide)) (no rp (by decide)),hst.keeps hk (no hst.own (by decide)) (ni hst.row),fun j hj=>⟨(hb j hj).1.keeps hk (no (hb j hj).1.own (by decide)) (ni (hb j hj).1.row),(hb j hj).2⟩,hin,a1,a2,a3⟩
theorem D24.other (h:D24 N w m M q) (hk:Keeps S w w') (hS:∀ y cs t,w.heap[y]?=some (.cells cs t)→S y→¬ WTy t):D24 N w' m M q:=by
 obtain⟨L,h1,h2⟩:=h
 exact⟨L,h1.other hk hS,h2⟩
theorem ty_of {P:TypeId→Prop} {y:Nat} {c:Array Value} {t:TypeId} (h:∃ c t,w.heap[y]?=some (Obj.cells c t)∧P t) (hy:w.heap[y]?=some (.cells c t)):P t:=by
 obtain⟨c',t',hc,ht⟩:=h
 rw [hy] at hc
 simp at hc
 rw [hc.2];exact ht
theorem ArIn.blk (h:ArIn w a LA A) {y:Nat} (hf:LA.foot A.many y):∃ c t,w.heap[y]?=some (.cells c t)∧PTy t:=by
 rcases hf with rfl | rfl | rfl | ⟨k,hk,rfl⟩
 ·obtain⟨c,hc,_⟩:=h.heap.own;exact⟨c,_,hc,by decide⟩
 ·obtain⟨c,hc,_⟩:=h.heap.tab;exact⟨c,_,hc,by decide⟩
 ·obtain⟨c,hc,_⟩:=h.gl;exact⟨c,_,hc,by decide⟩
 ·obtain⟨c,hc,_⟩:=h.st k hk;exact⟨c,_,hc,by decide⟩
theorem MkIn.blk (h:MkIn w m LM M) {y:Nat} (hf:LM.foot M.K.many y):∃ c t,w.heap[y]?=some (.cells c t)∧PTy t:=by
 rcases hf with rfl | rfl | rfl | ⟨k,hk,rfl⟩
 ·exact⟨_,_,h.clk.own,by decide⟩
 ·obtain⟨c,hc,_⟩:=h.pt;exact⟨c,_,hc,by decide⟩
 ·obtain⟨c,hc,_⟩:=h.st;exact⟨c,_,hc,by decide⟩
 ·obtain⟨c,hc,_⟩:=h.bf k hk;exact⟨c,_,hc,by decide⟩
theorem Duo.lo (h:Duo w0 w a m LA LM A M):(∀ y,LA.foot A.many y→w0.heap.size≤y)∧∀ y,LM.foot M.K.many y→w0.heap.size≤y:=by
 obtain⟨_,_,_,l1,u1,l2,u2,e1,e2,_,ba,bm⟩:=h
 refine⟨fun y hy=>?_,fun y hy=>?_⟩
 ·rcases hy with rfl | rfl | rfl | ⟨k,hk,rfl⟩
  ·have:=ba.b;omega
  ·have:=ba.t;omega
  ·have:=ba.g;omega
  ·have:=ba.ss k hk;omega
 ·rcases hy with rfl | rfl | rfl | ⟨k,hk,rfl⟩
  ·have:=bm.c;omega
  ·have:=bm.p;omega
  ·have:=bm.s;omega
  ·have:=bm.bb k hk;omega
theorem Duo.other (h:Duo w0 w a m LA LM A M) (hk:Keeps S w w') (hN:∀ y,S y→w0.heap.size≤y) (hS:∀ y cs t,w.heap[y]?=some (.cells cs t)→S y→¬ UTy t):Duo w0 w' a m LA LM A M:=by
 have no:∀ {z:Nat} {cs:Array Value} {t:TypeId},w.heap[z]?=some (.cells cs t)→UTy t→¬ S z:=fun hz h1 hs=>hS _ _ _ hz hs h1
 obtain⟨ar,mm,kp,sep⟩:=h
 obtain⟨ca,a1,_⟩:=ar.own
 obtain⟨ch,c1,_⟩:=ar.heap.own
 obtain⟨ct,t1,_⟩:=ar.heap.tab
 obtain⟨cg,g1,_⟩:=ar.gl
 obtain⟨cur,r1,_⟩:=mm.row
 obtain⟨cp,p1,_⟩:=mm.pt
 obtain⟨cs,s1,_⟩:=mm.st
 refine⟨ar.keeps hk (no a1 (by decide)) (no ar.obj (by decide)) (no c1 (by decide)) (no t1 (by decide)) (no g1 (by decide)) (fun k hk'=>?_),mm.keeps hk (no mm.own (by decide)) (no mm.clk.own (by decide)) (no p1 (by decide)) (no s1 (by decide)) (no r1 (by decide)) (fun j hj=>?_),kp.trans' hk (fun _ _ h=>h) (fun y hy h=>?_),sep⟩
 ·obtain⟨_,hs,_⟩:=ar.st k hk';exact no hs (by decide)
 ·obtain⟨_,hs,_⟩:=mm.bf j hj;exact no hs (by decide)
 ·have:=hN y h;omega
structure Fo (F:Nat→Prop) (w0 w:World) (a m:Nat) (LA:ArL) (LM:MkL) (x y:Nat) (A:Ar) (M:Mk) (B:Ar) (M2:Mk) (q:Nat):Prop where
 du:Duo w0 w a m LA LM A M
 lx:w0.heap.size≤x
 doc:∃ LR:L18,w0.heap.size≤LR.hb∧R18 w x LR B∧∀ k z,k<B.many→(LR.sv k).ownBlock=some z→¬ F z
 d:D24 w0.heap.size w y M2 q
theorem Fo.quiet (h:Fo F w0 w a m LA LM x y A M B M2 q) (hk:Keeps (fun _=>False) w w'):Fo F w0 w' a m LA LM x y A M B M2 q:=by
 obtain⟨LR,h1,h2,h4⟩:=h.doc
 exact⟨h.du.same hk,h.lx,⟨LR,h1,h2.k0 hk,h4⟩,h.d.k0 hk⟩
theorem pty_alien (hS:∀ y cs t,w.heap[y]?=some (.cells cs t)→S y→PTy t):Alien S w:=fun y c t hy ht hs=>by
 have:=hS y c t hy hs
 rcases ht with rfl | rfl | rfl | rfl | rfl <;> revert this <;> decide
theorem Fo.parena (h:Fo F w0 w a m LA LM x y A M B M2 q) (hk:Keeps (fun y=>LA.foot A.many y) w w') (ha:ArIn w' a LA A') (hm:A'.many=A.many):Fo F w0 w' a m LA LM x y A' M B M2 q∧Keeps (Ft w w0.heap.size) w w':=by
 obtain⟨LR,h1,h2,h4⟩:=h.doc
 have ty:∀ y c t,w.heap[y]?=some (.cells c t)→LA.foot A.many y→PTy t:=fun y c t hy hs=>ty_of (h.du.ar.blk hs) hy
 refine⟨⟨h.du.arenaF hk ha hm,h.lx,⟨LR,h1,h2.keeps hk (pty_alien ty),h4⟩,h.d.other hk (fun y c t hy hs=>(ty y c t hy hs).w)⟩,hk.mono (fun y hy hs=>?_)⟩
 obtain⟨c,t,hc,ht⟩:=h.du.ar.blk hs
 exact⟨h.du.lo.1 y hs,c,t,hc,.inl ht⟩
theorem Fo.pmarker (h:Fo F w0 w a m LA LM x y A M B M2 q) (hd:Duo.To w0 w w' a m LA LM A M M'):Fo F w0 w' a m LA LM x y A M' B M2 q∧Keeps (Ft w w0.heap.size) w w':=by
 obtain⟨LR,h1,h2,h4⟩:=h.doc
 have ty:∀ y c t,w.heap[y]?=some (.cells c t)→LM.foot M.K.many y→PTy t:=fun y c t hy hs=>ty_of (h.du.mm.blk hs) hy
 refine⟨⟨hd.1,h.lx,⟨LR,h1,h2.keeps hd.2 (pty_alien ty),h4⟩,h.d.other hd.2 (fun y c t hy hs=>(ty y c t hy hs).w)⟩,hd.2.mono (fun y hy hs=>?_)⟩
 obtain⟨c,t,hc,ht⟩:=h.du.mm.blk hs
 exact⟨h.du.lo.2 y hs,c,t,hc,.inl ht⟩
theorem Fo.darena (h:Fo F w0 w a m LA LM x y A M B M2 q) (hF:∀ z,F z→z<w.heap.size) (hB:B'.many=B.many) {LR:L18} (h1:w0.heap.size≤LR.hb) (h2:R18 w x LR B) (h4:∀ k z,k<B.many→(LR.sv k).ownBlock=some z→¬ F z) (hu:Up18 x w.heap.size LR B' w w'):Fo F w0 w' a m LA LM x y A M B' M2 q∧Keeps (Ft w w0.heap.size) w w':=by
 obtain⟨hk,L',e,h3,h5⟩:=hu
 obtain⟨cx,_,x1,_⟩:=h2.own
 obtain⟨_,_,_,b1⟩:=h2.heap.own
 have ty:∀ y c t,w.heap[y]?=some (.cells c t)→(y=x∨y=LR.hb)→ATy t:=fun y c t hy hs=>by
  rcases hs with rfl | rfl
  ·rw [x1] at hy;simp at hy;rw [← hy.2];decide
  ·rw [b1] at hy;simp at hy;rw [← hy.2];decide
 have hN:∀ z,(z=x∨z=LR.hb)→w0.heap.size≤z:=fun z hz=>by
  rcases hz with rfl | rfl
  ·exact h.lx
  ·exact h1
 refine⟨⟨h.du.other hk hN (fun y c t hy hs=>(ty y c t hy hs).u),h.lx,⟨L',by rw [e];exact h1,h3,fun k z hk' hz hf=>?_⟩,h.d.other hk (fun y c t hy hs=>(ty y c t hy hs).w)⟩,hk.mono (fun z hz hs=>?_)⟩
 ·rcases h5 k z hk' hz with⟨k',h6,h7⟩ | h6
  ·exact h4 k' z (by rw [← hB];exact h6) h7 hf
  ·have:=hF z hf;omega
 ·rcases hs with rfl | rfl
  ·exact⟨h.lx,_,_,x1,by decide⟩
  ·exact⟨h1,_,_,b1,by decide⟩
theorem Fo.dmarker (h:Fo F w0 w a m LA LM x y A M B M2 q) (hd:To24 w0.heap.size w w' y M2' q):Fo F w0 w' a m LA LM x y A M B M2' q∧Keeps (Ft w w0.heap.size) w w':=by
 obtain⟨LR,h1,h2,h4⟩:=h.doc
 obtain⟨hk,hd⟩:=hd
 refine⟨⟨h.du.other hk (fun y hs=>hs.1) (fun y c t hy hs=>?_),h.lx,⟨LR,h1,h2.keeps hk T24.alien,h4⟩,hd⟩,hk.mono (fun y hy hs=>?_)⟩
 ·obtain⟨_,c',t',hc,ht⟩:=hs
  rw [hy] at hc;simp at hc;rw [hc.2];exact ht.u
 ·obtain⟨h1,c',t',hc,ht⟩:=hs
  exact⟨h1,c',t',hc,.inr (.inr ht)⟩
theorem Fo.setF (h:Fo F w0 w a m LA LM x y A M B M2 q) (hF:∀ z,F' z→w.heap.size≤z):Fo F' w0 w a m LA LM x y A M B M2 q:=by
 obtain⟨LR,h1,h2,h4⟩:=h.doc
 exact⟨h.du,h.lx,⟨LR,h1,h2,fun k z hk hz hf=>by have:=h2.svlt hk hz;have:=hF z hf;omega⟩,h.d⟩
theorem Fo.box {b:Nat} {cs:Array Value} (h:Fo F w0 w a m LA LM x y A M B M2 q) (hk:Keeps (fun y=>y=b) w w') (hb:w.heap[b]?=some (.cells cs 34)) (hN:w0.heap.size≤b) (hf:F b):Fo F w0 w' a m LA LM x y A M B M2 q:=by
 obtain⟨LR,h1,h2,h4⟩:=h.doc
 have ty:∀ y c t,w.heap[y]?=some (Obj.cells c t)→y=b→t=34:=fun y c t hy hs=>by
  subst hs;rw [hb] at hy;simp at hy;exact hy.2.symm
 refine⟨h.du.other hk (fun y hy=>by omega) (fun y c t hy hs=>by rw [ty y c t hy hs];decide),h.lx,⟨LR,h1,?_,h4⟩,h.d.other hk (fun y c t hy hs=>by rw [ty y c t hy hs];decide)⟩
 obtain⟨c,cap,x1,x2⟩:=h2.own
 obtain⟨cr,r1,r2⟩:=h2.row
 obtain⟨_,_,_,a1⟩:=h2.heap.own
 obtain⟨_,a2,_⟩:=h2.heap.row
 exact⟨⟨c,cap,block_keep x1 hk (type_ne x1 hb (by decide)),x2⟩,h2.heap.keeps hk (type_ne a1 hb (by decide)) (type_ne a2 hb (by decide)),⟨cr,block_keep r1 hk (type_ne r1 hb (by decide)),r2⟩,fun k hk'=>(h2.st k hk').keeps hk (fun z hz e=>h4 k z hk' hz (by rw [e];exact hf)),h2.ok⟩
def Fo.Op (F:Nat→Prop) (w0 w w':World) (a m:Nat) (LA:ArL) (LM:MkL) (x y:Nat) (A:Ar) (M:Mk) (B:Ar) (M2:Mk) (q:Nat):Prop:=Fo F w0 w' a m LA LM x y A M B M2 q∧Keeps (Ft w w0.heap.size) w w'
theorem Fo.pmake (h:Fo F w0 w a m LA LM x y A M B M2 q) (hok:A.Ok) (i n:Int) (hd:Bool):Calls Tryz.prog 50 #[.pointer (some ⟨a,0,none⟩),.int .i64 i,.int .i64 n,.bool hd] w
 fun e w'=>e = .returned (.tuple #[(A.makeR i n hd).now.val,.int .i64 (A.makeR i n hd).e])∧Fo.Op F w0 w w' a m LA LM x y (A.makeR i n hd).A M B M2 q:=
 (amake_any a LA A i n hd w h.du.ar hok).mono fun _ _ ⟨h1,h2,h3⟩=>⟨h1,h.parena h2 h3 (A.makeR_n _ _ _).2⟩
theorem Fo.pload (h:Fo F w0 w a m LA LM x y A M B M2 q) (hok:A.Ok) (i j f:Int):Calls Tryz.prog 126 #[.pointer (some ⟨a,0,none⟩),.int .i64 i,.int .i64 j,.int .i64 f] w
 fun e w'=>e = .returned (.tuple #[(A.loadR i j f).now.val,.int .i64 (A.loadR i j f).e])∧Fo.Op F w0 w w' a m LA LM x y (A.loadR i j f).A M B M2 q:=
 (aload_any a LA A i j f w h.du.ar hok).mono fun _ _ ⟨h1,h2,h3⟩=>⟨h1,h.parena h2 h3 (A.loadR_n _ _ _).2⟩
theorem Fo.pstore (h:Fo F w0 w a m LA LM x y A M B M2 q) (hok:A.Ok) (i j f k:Int):Calls Tryz.prog 51 #[.pointer (some ⟨a,0,none⟩),.int .i64 i,.int .i64 j,.int .i64 f,.int .i64 k] w
 fun e w'=>e = .returned (.tuple #[(A.storeR i j f k).was.val,(A.storeR i j f k).now.val,.int .i64 (A.storeR i j f k).e])∧Fo.Op F w0 w w' a m LA LM x y (A.storeR i j f k).A M B M2 q:=
 (astore_any a LA A i j f k w h.du.ar hok).mono fun _ _ ⟨h1,h2,h3⟩=>⟨h1,h.parena h2 h3 (A.storeR_n _ _ _ _).2⟩
theorem Fo.pdrop (h:Fo F w0 w a m LA LM x y A M B M2 q) (i j:Int):Calls Tryz.prog 52 #[.pointer (some ⟨a,0,none⟩),.int .i64 i,.int .i64 j] w
 fun e w'=>e = .returned (.tuple #[(A.dropR i j).now.val,.int .i64 (A.dropR i j).e])∧Fo.Op F w0 w w' a m LA LM x y (A.dropR i j).A M B M2 q:=
 (adrop_any a LA A i j w h.du.ar).mono fun _ _ ⟨h1,h2,h3⟩=>⟨h1,h.parena h2 h3 (A.dropR_n _ _).2⟩
theorem Fo.pput (h:Fo F w0 w a m LA LM x y A M B M2 q) (hok:A.Ok) (i j k:Int):Calls Tryz.prog 130 #[.pointer (some ⟨a,0,none⟩),.int .i64 i,.int .i64 j,.int .i64 k] w
 fun e w'=>e = .returned (.tuple #[(A.putR i j k).was.val,(A.putR i j k).now.val,.int .i64 (A.putR i j k).e])∧Fo.Op F w0 w w' a m LA LM x y (A.putR i j k).A M B M2 q:=
 (aput_any a LA A i j k w h.du.ar hok).mono fun _ _ ⟨h1,h2,h3⟩=>⟨h1,h.parena h2 h3 (A.putR_n _ _ _).2⟩
theorem Fo.pget (h:Fo F w0 w a m LA LM x y A M B M2 q) (hok:A.Ok) (i k:Int):Calls Tryz.prog 132 #[.pointer (some ⟨a,0,none⟩),.int .i64 i,.int .i64 k] w
 fun e w'=>e = .returned (.tuple #[(A.getR i k).now.val,.int .i64 (A.getR i k).e])∧Fo.Op F w0 w w' a m LA LM x y (A.getR i k).A M B M2 q:=
 (aget_any a LA A i k w h.du.ar hok).mono fun _ _ ⟨h1,h2,h3⟩=>⟨h1,h.parena h2 h3 (A.getR_n _ _).2⟩
theorem Fo.pfree (h:Fo F w0 w a m LA LM x y A M B M2 q) (hok:A.Ok) (r:Rf):Calls Tryz.prog 35 #[.pointer (some ⟨a,0,none⟩),.agg #[.int .i64 r.s,.int .u32 r.g]] w
 fun e w'=>e = .returned (.int .i64 (A.freeR r).2)∧Fo.Op F w0 w w' a m LA LM x y (A.freeR r).1 M B M2 q:=
 (afree_any a LA A r w h.du.ar hok).mono fun _ _ ⟨h1,h2,h3⟩=>⟨h1,h.parena h2 h3 (A.freeR_n _).2⟩
theorem Fo.dmake (h:Fo F w0 w a m LA LM x y A M B M2 q) (hF:∀ z,F z→z<w.heap.size) (i n:Int) (hd:Bool):Calls Tryz.prog 125 #[.pointer (some ⟨x,0,none⟩),.int .i64 i,.int .i64 n,.bool hd] w
 fun e w'=>e = .returned (.tuple #[(B.makeR i n hd).now.val,.int .i64 (B.makeR i n hd).e])∧Fo.Op F w0 w w' a m LA LM x y A M (B.makeR i n hd).A M2 q:=by
 obtain⟨LR,h1,h2,h4⟩:=h.doc
 exact (make18 i n hd h2).mono fun _ _ ⟨e1,e2⟩=>⟨e1,h.darena hF (B.makeR_n _ _ _).2 h1 h2 h4 e2⟩
theorem Fo.dload (h:Fo F w0 w a m LA LM x y A M B M2 q) (hF:∀ z,F z→z<w.heap.size) (i j f:Int):Calls Tryz.prog 127 #[.pointer (some ⟨x,0,none⟩),.int .i64 i,.int .i64 j,.int .i64 f] w
 fun e w'=>e = .returned (.tuple #[(B.loadR i j f).now.val,.int .i64 (B.loadR i j f).e])∧Fo.Op F w0 w w' a m LA LM x y A M (B.loadR i j f).A M2 q:=by
 obtain⟨LR,h1,h2,h4⟩:=h.doc
 exact (load18 i j f h2).mono fun _ _ ⟨e1,e2⟩=>⟨e1,h.darena hF (B.loadR_n _ _ _).2 h1 h2 h4 e2⟩
theorem Fo.dstore (h:Fo F w0 w a m LA LM x y A M B M2 q) (hF:∀ z,F z→z<w.heap.size) (i j f k:Int):Calls Tryz.prog 128 #[.pointer (some ⟨x,0,none⟩),.int .i64 i,.int .i64 j,.int .i64 f,.int .i64 k] w
 fun e w'=>e = .returned (.tuple #[(B.storeR i j f k).was.val,(B.storeR i j f k).now.val,.int .i64 (B.storeR i j f k).e])∧Fo.Op F w0 w w' a m LA LM x y A M (B.storeR i j f k).A M2 q:=by
 obtain⟨LR,h1,h2,h4⟩:=h.doc
 exact (store18 i j f k h2).mono fun _ _ ⟨e1,e2⟩=>⟨e1,h.darena hF (B.storeR_n _ _ _ _).2 h1 h2 h4 e2⟩
theorem Fo.ddrop (h:Fo F w0 w a m LA LM x y A M B M2 q) (hF:∀ z,F z→z<w.heap.size) (i j:Int):Calls Tryz.prog 129 #[.pointer (some ⟨x,0,none⟩),.int .i64 i,.int .i64 j] w
 fun e w'=>e = .returned (.tuple #[(B.dropR i j).now.val,.int .i64 (B.dropR i j).e])∧Fo.Op F w0 w w' a m LA LM x y A M (B.dropR i j).A M2 q:=by
 obtain⟨LR,h1,h2,h4⟩:=h.doc
 exact (drop18 i j h2).mono fun _ _ ⟨e1,e2⟩=>⟨e1,h.darena hF (B.dropR_n _ _).2 h1 h2 h4 e2⟩
theorem Fo.dput (h:Fo F w0 w a m LA LM x y A M B M2 q) (hF:∀ z,F z→z<w.heap.size) (i j k:Int):Calls Tryz.prog 131 #[.pointer (some ⟨x,0,none⟩),.int .i64 i,.int .i64 j,.int .i64 k] w
 fun e w'=>e = .returned (.tuple #[(B.putR i j k).was.val,(B.putR i j k).now.val,.int .i64 (B.putR i j k).e])∧Fo.Op F w0 w w' a m LA LM x y A M (B.putR i j k).A M2 q:=by
 obtain⟨LR,h1,h2,h4⟩:=h.doc
 exact (put18 i j k h2).mono fun _ _ ⟨e1,e2⟩=>⟨e1,h.darena hF (B.putR_n _ _ _).2 h1 h2 h4 e2⟩
theorem Fo.dget (h:Fo F w0 w a m LA LM x y A M B M2 q) (hF:∀ z,F z→z<w.heap.size) (i k:Int):Calls Tryz.prog 133 #[.pointer (some ⟨x,0,none⟩),.int .i64 i,.int .i64 k] w
 fun e w'=>e = .returned (.tuple #[(B.getR i k).now.val,.int .i64 (B.getR i k).e])∧Fo.Op F w0 w w' a m LA LM x y A M (B.getR i k).A M2 q:=by
 obtain⟨LR,h1,h2,h4⟩:=h.doc
 exact (get18 i k h2).mono fun _ _ ⟨e1,e2⟩=>⟨e1,h.darena hF (B.getR_n _ _).2 h1 h2 h4 e2⟩
theorem Fo.dfree (h:Fo F w0 w a m LA LM x y A M B M2 q) (hF:∀ z,F z→z<w.heap.size) (r:Rf):Calls Tryz.prog 75 #[.pointer (some ⟨x,0,none⟩),.agg #[.int .i64 r.s,.int .u32 r.g]] w
 fun e w'=>e = .returned (.int .i64 (B.freeR r).2)∧Fo.Op F w0 w w' a m LA LM x y A M (B.freeR r).1 M2 q:=by
 obtain⟨LR,h1,h2,h4⟩:=h.doc
 exact (free18 r h2).mono fun _ _ ⟨e1,e2⟩=>⟨e1,h.darena hF (B.freeR_n _).2 h1 h2 h4 e2⟩
theorem Fo.pstep (h:Fo F w0 w a m LA LM x y A M B M2 q) (hok:M.Ok) (hn:A.H.T.n=M.P.n) (hm:A.many=M.K.many) (hcy:M.K.cy<4611686018427387904):Calls Tryz.prog 28 #[.pointer (some ⟨m,0,none⟩),.pointer (some ⟨a,0,none⟩)] w
 fun e w'=>e = .returned (.int .i64 0)∧Fo.Op F w0 w w' a m LA LM x y A (M.stepR A) B M2 q:=(duo_step_any h.du hok hn hm hcy).mono fun _ _ ⟨h1,h2⟩=>⟨h1,h.pmarker h2⟩
theorem Fo.pack (h:Fo F w0 w a m LA LM x y A M B M2 q) (hn:A.H.T.n=M.P.n) (hm:A.many=M.K.many) (i:Int):Calls Tryz.prog 54 #[.pointer (some ⟨m,0,none⟩),.pointer (some ⟨a,0,none⟩),.int .i64 i] w
 fun e w'=>e = .returned (.tuple #[.bool (M.ackR A i).is,.int .i64 (M.ackR A i).e])∧Fo.Op F w0 w w' a m LA LM x y A (M.ackR A i).M B M2 q:=(duo_ack_any h.du hn hm i).mono fun _ _ ⟨h1,h2⟩=>⟨h1,h.pmarker h2⟩
theorem Fo.pgo (h:Fo F w0 w a m LA LM x y A M B M2 q) (hok:M.Ok) (hcy:M.K.cy<4611686018427387904):Calls Tryz.prog 56 #[.pointer (some ⟨m,0,none⟩)] w
 fun e w'=>e = .returned (.int .i64 M.goR.2)∧Fo.Op F w0 w w' a m LA LM x y A M.goR.1 B M2 q:=(duo_go_any h.du hok hcy).mono fun _ _ ⟨h1,h2⟩=>⟨h1,h.pmarker h2⟩
theorem Fo.pbegin (h:Fo F w0 w a m LA LM x y A M B M2 q):Calls Tryz.prog 53 #[.pointer (some ⟨m,0,none⟩)] w
 fun e w'=>e = .returned (.int .i64 M.beginR.2)∧Fo.Op F w0 w w' a m LA LM x y A M.beginR.1 B M2 q:=(duo_begin_any h.du).mono fun _ _ ⟨h1,h2⟩=>⟨h1,h.pmarker h2⟩
theorem Fo.pmade (h:Fo F w0 w a m LA LM x y A M B M2 q) (r:Rf):Calls Tryz.prog 79 #[.pointer (some ⟨m,0,none⟩),.agg #[.int .i64 r.s,.int .u32 r.g]] w
 fun e w'=>e = .returned (.int .i64 (M.madeR r).2)∧Fo.Op F w0 w w' a m LA LM x y A (M.madeR r).1 B M2 q:=(duo_made_any h.du r).mono fun _ _ ⟨h1,h2⟩=>⟨h1,h.pmarker h2⟩
theorem Fo.pfreed (h:Fo F w0 w a m LA LM x y A M B M2 q) (s:Int):Calls Tryz.prog 36 #[.pointer (some ⟨m,0,none⟩),.int .i64 s] w
 fun e w'=>e = .returned (.int .i64 (M.freedR s).2)∧Fo.Op F w0 w w' a m LA LM x y A (M.freedR s).1 B M2 q:=(duo_freed_any h.du s).mono fun _ _ ⟨h1,h2⟩=>⟨h1,h.pmarker h2⟩
theorem Fo.pwrote (h:Fo F w0 w a m LA LM x y A M B M2 q) (i:Int) (r z:Rf):Calls Tryz.prog 77 #[.pointer (some ⟨m,0,none⟩),.int .i64 i,.agg #[.int .i64 r.s,.int .u32 r.g],.agg #[.int .i64 z.s,.int .u32 z.g]] w
 fun e w'=>e = .returned (.int .i64 (M.wroteR i r z).2)∧Fo.Op F w0 w w' a m LA LM x y A (M.wroteR i r z).1 B M2 q:=(duo_wrote_any h.du i r z).mono fun _ _ ⟨h1,h2⟩=>⟨h1,h.pmarker h2⟩
theorem Fo.dstep (h:Fo F w0 w a m LA LM x y A M B M2 q) (hok:M2.Ok) (hn:B.H.T.n=M2.P.n) (hm:B.many=M2.K.many) (hcy:M2.K.cy<4611686018427387904):Calls Tryz.prog 72 #[.pointer (some ⟨y,0,none⟩),.pointer (some ⟨x,0,none⟩)] w
 fun e w'=>e = .returned (.int .i64 0)∧Fo.Op F w0 w w' a m LA LM x y A M B (M2.stepR B) q:=by
 obtain⟨LR,h1,h2,h4⟩:=h.doc
 exact (step24_ok h.d h2 hok hn hm hcy).mono fun _ _ ⟨e1,e2⟩=>⟨e1,h.dmarker e2⟩
theorem Fo.dack (h:Fo F w0 w a m LA LM x y A M B M2 q) (hn:B.H.T.n=M2.P.n) (hm:B.many=M2.K.many) (i:Int):Calls Tryz.prog 71 #[.pointer (some ⟨y,0,none⟩),.pointer (some ⟨x,0,none⟩),.int .i64 i] w
 fun e w'=>e = .returned (.tuple #[.bool (M2.ackR B i).is,.int .i64 (M2.ackR B i).e])∧Fo.Op F w0 w w' a m LA LM x y A M B (M2.ackR B i).M q:=by
 obtain⟨LR,h1,h2,h4⟩:=h.doc
 exact (ack24R i h.d h2 hn hm).mono fun _ _ ⟨e1,e2⟩=>⟨e1,h.dmarker e2⟩
theorem Fo.dmade (h:Fo F w0 w a m LA LM x y A M B M2 q) (r:Rf):Calls Tryz.prog 80 #[.pointer (some ⟨y,0,none⟩),.agg #[.int .i64 r.s,.int .u32 r.g]] w
 fun e w'=>e = .returned (.int .i64 (M2.madeR r).2)∧Fo.Op F w0 w w' a m LA LM x y A M B (M2.madeR r).1 q:=(made24R r h.d).mono fun _ _ ⟨e1,e2⟩=>⟨e1,h.dmarker e2⟩
theorem Fo.dwrote (h:Fo F w0 w a m LA LM x y A M B M2 q) (i:Int) (r z:Rf):Calls Tryz.prog 78 #[.pointer (some ⟨y,0,none⟩),.int .i64 i,.agg #[.int .i64 r.s,.int .u32 r.g],.agg #[.int .i64 z.s,.int .u32 z.g]] w
 fun e w'=>e = .returned (.int .i64 (M2.wroteR i r z).2)∧Fo.Op F w0 w w' a m LA LM x y A M B (M2.wroteR i r z).1 q:=(wrote24R i r z h.d).mono fun _ _ ⟨e1,e2⟩=>⟨e1,h.dmarker e2⟩
theorem Fo.dbegin (h:Fo F w0 w a m LA LM x y A M B M2 q):Calls Tryz.prog 73 #[.pointer (some ⟨y,0,none⟩)] w
 fun e w'=>e = .returned (.int .i64 M2.beginR.2)∧Fo.Op F w0 w w' a m LA LM x y A M B M2.beginR.1 q:=by
 obtain⟨L,h1,lo⟩:=h.d
 unfold Mk.beginR
 split
 ·rename_i hp
  exact (begin24R h1 hp).mono fun _ _ ⟨e1,e2,cs,e3⟩=>⟨e1,h.dmarker ⟨h1.to lo e2 (fun y hy=>.inr (.inl hy)),_,e3,lo.cs⟩⟩
 ·rename_i hp
  exact (begin24_bad h1 hp).mono fun _ _ ⟨e1,e2⟩=>⟨e1,by subst e2;exact h.dmarker ⟨Keeps.refl _ _,_,h1,lo⟩⟩
theorem Fo.dfreed (h:Fo F w0 w a m LA LM x y A M B M2 q) (s:Int):Calls Tryz.prog 76 #[.pointer (some ⟨y,0,none⟩),.int .i64 s] w
 fun e w'=>e = .returned (.int .i64 (M2.freedR s).2)∧Fo.Op F w0 w w' a m LA LM x y A M B (M2.freedR s).1 q:=by
 obtain⟨L,h1,lo⟩:=h.d
 unfold Mk.freedR
 split
 ·rename_i hp
  exact (freed24_range s h1 hp).mono fun _ _ ⟨e1,e2⟩=>⟨e1,by subst e2;exact h.dmarker ⟨Keeps.refl _ _,_,h1,lo⟩⟩
 ·rename_i hp
  obtain⟨i,rfl⟩:∃ i:Nat,s=i:=⟨s.toNat,by omega⟩
  rw [Int.toNat_natCast]
  exact (freed24_ok i h1 (by omega)).mono fun _ _ ⟨e1,e2,e3⟩=>⟨e1,h.dmarker ⟨h1.to lo e2 (fun y hy=>.inr (.inr (.inr (.inl hy)))),_,e3,lo⟩⟩
theorem Fo.dgo (h:Fo F w0 w a m LA LM x y A M B M2 q) (hok:M2.Ok) (hcy:M2.K.cy<4611686018427387904):Calls Tryz.prog 74 #[.pointer (some ⟨y,0,none⟩)] w
 fun e w'=>e = .returned (.int .i64 M2.goR.2)∧Fo.Op F w0 w w' a m LA LM x y A M B M2.goR.1 q:=by
 obtain⟨L,h1,lo⟩:=h.d
 have hph:=hok.ph
 unfold Mk.goR
 split
 ·rename_i hp
  exact (go24_bad h1 hp).mono fun _ _ ⟨e1,e2⟩=>⟨e1,by subst e2;exact h.dmarker ⟨Keeps.refl _ _,_,h1,lo⟩⟩
 ·split
  ·rename_i hp
   exact (go24_mid h1 hp hcy).mono fun _ _ ⟨e1,e2,cs,e3⟩=>⟨e1,h.dmarker ⟨h1.to lo e2 (fun y hy=>.inr (.inl hy)),_,e3,lo.cs⟩⟩
  ·refine (go24_end (setd M2.B M2.K.many) h1 (by omega) hcy (fun j hj=>?_)).mono fun e w' ⟨e1,e2,L',⟨l1,l2,l3,l4,l5,l6⟩,e3⟩=>⟨e1,h.dmarker ⟨h1.to lo e2 (fun z hz=>?_),L',e3,?_⟩⟩
   ·unfold setd
    rw [if_pos hj]
    exact⟨rfl,rfl,(h1.bf j hj).2,rfl⟩
   ·rcases hz with h | h | h | h
    ·exact .inr (.inl h)
    ·exact .inr (.inr (.inl h))
    ·exact .inr (.inr (.inr (.inr (.inl h))))
    ·exact .inl h
   ·have hw:w0.heap.size≤w.heap.size:=h.du.kp.size
    exact⟨lo.m,by rw [l1];exact lo.c,by rw [l2];exact lo.p,by omega,by rw [l3];exact lo.st,fun j hj=>Nat.le_trans hw (l5 j hj),fun j hj z hz=>absurd hz (l6 j z)⟩
end
end Go.Proofs.YtnlkfbndlngjaaaGreat
namespace Go.Proofs.YtnlkfbndlngjaaaGreat
open Go.RowKit
attribute [local go_sem] Oper.semAt_some
set_option linter.unusedVariables false
set_option linter.unusedSimpArgs false
def pairC (a m x y:Nat):Array Value:=#[.pointer (some ⟨a,0,none⟩),.pointer (some ⟨m,0,none⟩),.pointer (some ⟨x,0,none⟩),.pointer (some ⟨y,0,none⟩)]
structure Pq (w0 w:World) (p a m:Nat) (LA:ArL) (LM:MkL) (x y:Nat) (A:Ar) (M:Mk) (q:Nat):Prop where
 own:w.heap[p]?=some (.cells (pairC a m x y) 63)
 fo:Fo (fun _=>False) w0 w a m LA LM x y A M A M q
 ok:A.Ok
 mo:M.Ok
 hn:A.H.T.n=M.P.n
 hm:A.many=M.K.many
def Nx (w0 w w':World) (p a m:Nat) (LA:ArL) (LM:MkL) (x y:Nat) (M:Mk) (q:Nat):Prop:=
 ∃ A' M',Pq w0 w' p a m LA LM x y A' M' q∧M'.K.cy≤M.K.cy+1∧M'.P.n=M.P.n∧M'.K.many=M.K.many∧Keeps (Ft w w0.heap.size) w w'
structure Mp where
 d:Int
 m:Int
 a:Int
 b:Int
 c:Int
 r:Rf
 z:Rf
def Mp.arr (s:Mp):Array Value:=#[.int .i64 s.d,.int .i64 s.m,.int .i64 s.a,.int .i64 s.b,.int .i64 s.c,.int .i64 s.r.s,.int .u32 s.r.g,.int .i64 s.z.s,.int .u32 s.z.g]
def Rf.arr (r:Rf):Array Value:=#[.int .i64 r.s,.int .u32 r.g]
structure Mw (w0 w W:World) (B p a m:Nat) (LA:ArL) (LM:MkL) (x y:Nat) (s:Mp) (u1 u2 u3 u4:Rf) (A:Ar) (M:Mk) (A2:Ar) (M2:Mk) (q:Nat):Prop where
 fo:Fo (fun z=>B<z∧z≤B+4) w0 W a m LA LM x y A M A2 M2 q
 own:W.heap[p]?=some (.cells (pairC a m x y) 63)
 s0:W.heap[B]?=some (.cells s.arr 66)
 b1:W.heap[B+1]?=some (.cells u1.arr 34)
 b2:W.heap[B+1+1]?=some (.cells u2.arr 34)
 b3:W.heap[B+1+1+1]?=some (.cells u3.arr 34)
 b4:W.heap[B+1+1+1+1]?=some (.cells u4.arr 34)
 lo:w.heap.size≤B
 lo0:w0.heap.size≤w.heap.size
 k:Keeps (Ft w w0.heap.size) w W
section
variable {F:Nat→Prop} {w0 w w' W W':World} {p a m x y q B:Nat} {LA:ArL} {LM:MkL} {A A' A2 A2':Ar} {M M' M2 M2':Mk} {s:Mp} {u1 u2 u3 u4 u:Rf}
theorem Mw.hF (h:Mw w0 w W B p a m LA LM x y s u1 u2 u3 u4 A M A2 M2 q):∀ z,(B<z∧z≤B+4)→z<W.heap.size:=fun z hz=>by have:=lt_block h.b4;omega
theorem Mw.op (h:Mw w0 w W B p a m LA LM x y s u1 u2 u3 u4 A M A2 M2 q) (ho:Fo.Op (fun z=>B<z∧z≤B+4) w0 W W' a m LA LM x y A' M' A2' M2' q):Mw w0 w W' B p a m LA LM x y s u1 u2 u3 u4 A' M' A2' M2' q:=by
 obtain⟨h1,h2⟩:=ho
 exact⟨h1,Ft.block h2 h.own (by decide),Ft.block h2 h.s0 (by decide),Ft.block h2 h.b1 (by decide),Ft.block h2 h.b2 (by decide),Ft.block h2 h.b3 (by decide),Ft.block h2 h.b4 (by decide),h.lo,h.lo0,Ft.trans h.k h2⟩
theorem Mw.quiet (h:Mw w0 w W B p a m LA LM x y s u1 u2 u3 u4 A M A2 M2 q) (hk:Keeps (fun _=>False) W W'):Mw w0 w W' B p a m LA LM x y s u1 u2 u3 u4 A M A2 M2 q:=
 h.op ⟨h.fo.quiet hk,hk.up⟩
theorem Mw.set (h:Mw w0 w W B p a m LA LM x y s u1 u2 u3 u4 A M A2 M2 q) {b:Nat} (hb:B<b∧b≤B+4) (r:Rf):
 Mw w0 w ((W.setCell ⟨b,0,none⟩ (.int .i64 r.s)).setCell ⟨b,1,none⟩ (.int .u32 r.g)) B p a m LA LM x y s (if b=B+1 then r else u1) (if b=B+1+1 then r else u2) (if b=B+1+1+1 then r else u3) (if b=B+1+1+1+1 then r else u4) A M A2 M2 q:=by
 have hk:=keeps_two W b (.int .i64 r.s) (.int .u32 r.g)
 have hq:∃ v:Rf,W.heap[b]?=some (.cells v.arr 34):=by
  have:b=B+1∨b=B+1+1∨b=B+1+1+1∨b=B+1+1+1+1:=by omega
  rcases this with rfl | rfl | rfl | rfl
  ·exact⟨_,h.b1⟩
  ·exact⟨_,h.b2⟩
  ·exact⟨_,h.b3⟩
  ·exact⟨_,h.b4⟩
 obtain⟨v,hq⟩:=hq
 have hn:∀ {z:Nat} {c:Array Value} {t:TypeId},W.heap[z]?=some (.cells c t)→t≠34→((W.setCell ⟨b,0,none⟩ (.int .i64 r.s)).setCell ⟨b,1,none⟩ (.int .u32 r.g)).heap[z]?=some (.cells c t):=fun hz ht=>block_keep hz hk (type_ne hz hq ht)
 have hbx:∀ (i:Nat) (v0:Rf),W.heap[i]?=some (.cells v0.arr 34)→((W.setCell ⟨b,0,none⟩ (.int .i64 r.s)).setCell ⟨b,1,none⟩ (.int .u32 r.g)).heap[i]?=some (.cells (if b=i then r else v0).arr 34):=fun i v0 h0=>by
  by_cases e:b=i
  ·rw [if_pos e];subst e
   exact (set_block (set_block h0 0 _) 1 _).trans rfl
  ·rw [if_neg e]
   exact block_keep h0 hk (fun h=>e h.symm)
 exact⟨h.fo.box hk hq (by have:=h.lo;have:=h.lo0;omega) hb,hn h.own (by decide),hn h.s0 (by decide),hbx _ _ h.b1,hbx _ _ h.b2,hbx _ _ h.b3,hbx _ _ h.b4,h.lo,h.lo0,h.k.trans' hk (fun _ _ h=>h) (fun z hz e=>by have:=h.lo;have e':z=b:=e;omega)⟩
theorem Mw.set1 (h:Mw w0 w W B p a m LA LM x y s u1 u2 u3 u4 A M A2 M2 q) (r:Rf):Mw w0 w ((W.setCell ⟨B+1,0,none⟩ (.int .i64 r.s)).setCell ⟨B+1,1,none⟩ (.int .u32 r.g)) B p a m LA LM x y s r u2 u3 u4 A M A2 M2 q:=by
 have:=h.set (b:=B+1) (by omega) r
 rwa [if_pos rfl,if_neg (by omega),if_neg (by omega),if_neg (by omega)] at this
theorem Mw.set2 (h:Mw w0 w W B p a m LA LM x y s u1 u2 u3 u4 A M A2 M2 q) (r:Rf):Mw w0 w ((W.setCell ⟨B+1+1,0,none⟩ (.int .i64 r.s)).setCell ⟨B+1+1,1,none⟩ (.int .u32 r.g)) B p a m LA LM x y s u1 r u3 u4 A M A2 M2 q:=by
 have:=h.set (b:=B+1+1) (by omega) r
 rwa [if_neg (by omega),if_pos rfl,if_neg (by omega),if_neg (by omega)] at this
theorem Mw.set3 (h:Mw w0 w W B p a m LA LM x y s u1 u2 u3 u4 A M A2 M2 q) (r:Rf):Mw w0 w ((W.setCell ⟨B+1+1+1,0,none⟩ (.int .i64 r.s)).setCell ⟨B+1+1+1,1,none⟩ (.int .u32 r.g)) B p a m LA LM x y s u1 u2 r u4 A M A2 M2 q:=by
 have:=h.set (b:=B+1+1+1) (by omega) r
 rwa [if_neg (by omega),if_neg (by omega),if_pos rfl,if_neg (by omega)] at this
theorem Mw.set4 (h:Mw w0 w W B p a m LA LM x y s u1 u2 u3 u4 A M A2 M2 q) (r:Rf):Mw w0 w ((W.setCell ⟨B+1+1+1+1,0,none⟩ (.int .i64 r.s)).setCell ⟨B+1+1+1+1,1,none⟩ (.int .u32 r.g)) B p a m LA LM x y s u1 u2 u3 r A M A2 M2 q:=by
 have:=h.set (b:=B+1+1+1+1) (by omega) r
 rwa [if_neg (by omega),if_neg (by omega),if_neg (by omega),if_pos rfl] at this
theorem Mw.nx (h:Mw w0 w W B p a m LA LM x y s u1 u2 u3 u4 A' M' A' M' q) (ok:A'.Ok) (mk:M'.Ok) (hn:A'.H.T.n=M'.P.n) (hm:A'.many=M'.K.many) (h1:M'.K.cy≤M.K.cy+1) (h2:M'.P.n=M.P.n) (h3:M'.K.many=M.K.many):Nx w0 w W p a m LA LM x y M q:=by
 obtain⟨LR,e1,e2,_⟩:=h.fo.doc
 exact⟨A',M',⟨h.own,⟨h.fo.du,h.fo.lx,⟨LR,e1,e2,fun _ _ _ _ h=>h⟩,h.fo.d⟩,ok,mk,hn,hm⟩,h1,h2,h3,h.k⟩
theorem five (w:World) (c0 c1 c2 c3 c4:Obj):Keeps (fun _=>False) w (((((w.alloc c0).alloc c1).alloc c2).alloc c3).alloc c4)∧(((((w.alloc c0).alloc c1).alloc c2).alloc c3).alloc c4).heap[w.heap.size]?=some c0∧(((((w.alloc c0).alloc c1).alloc c2).alloc c3).alloc c4).heap[w.heap.size+1]?=some c1∧(((((w.alloc c0).alloc c1).alloc c2).alloc c3).alloc c4).heap[w.heap.size+1+1]?=some c2∧(((((w.alloc c0).alloc c1).alloc c2).alloc c3).alloc c4).heap[w.heap.size+1+1+1]?=some c3∧(((((w.alloc c0).alloc c1).alloc c2).alloc c3).alloc c4).heap[w.heap.size+1+1+1+1]?=some c4:=
 ⟨((((Keeps.refl _ _).alloc _).alloc _).alloc _).alloc _ |>.alloc _,alloc_old (alloc_old (alloc_old (alloc_old alloc_new))),alloc_old (alloc_old (alloc_old (alloc_new' (by simp)))),alloc_old (alloc_old (alloc_new' (by simp))),alloc_old (alloc_new' (by simp)),alloc_new' (by simp)⟩
theorem Pq.mw (h:Pq w0 w p a m LA LM x y A M q) (s:Mp):Mw w0 w (((((w.alloc (.cells s.arr 66)).alloc (.cells Rf.no.arr 34)).alloc (.cells Rf.no.arr 34)).alloc (.cells Rf.no.arr 34)).alloc (.cells Rf.no.arr 34)) w.heap.size p a m LA LM x y s .no .no .no .no A M A M q:=by
 obtain⟨k,q0,q1,q2,q3,q4⟩:=five w (.cells s.arr 66) (.cells Rf.no.arr 34) (.cells Rf.no.arr 34) (.cells Rf.no.arr 34) (.cells Rf.no.arr 34)
 exact⟨(h.fo.setF (fun z hz=>by have hz':w.heap.size<z∧z≤w.heap.size+4:=hz;omega)).quiet k,block_keep h.own k (fun h=>h),q0,q1,q2,q3,q4,Nat.le_refl _,h.fo.du.kp.size,k.up⟩
theorem Mw.cells (h:Mw w0 w W B p a m LA LM x y s u1 u2 u3 u4 A M A2 M2 q):(W.cell? ⟨p,0,none⟩=some (.pointer (some ⟨a,0,none⟩))∧W.cell? ⟨p,1,none⟩=some (.pointer (some ⟨m,0,none⟩))∧W.cell? ⟨p,2,none⟩=some (.pointer (some ⟨x,0,none⟩))∧W.cell? ⟨p,3,none⟩=some (.pointer (some ⟨y,0,none⟩)))∧
 (W.cell? ⟨B,0,none⟩=some (.int .i64 s.d)∧W.cell? ⟨B,1,none⟩=some (.int .i64 s.m)∧W.cell? ⟨B,2,none⟩=some (.int .i64 s.a)∧W.cell? ⟨B,3,none⟩=some (.int .i64 s.b)∧W.cell? ⟨B,4,none⟩=some (.int .i64 s.c))∧
 (W.cell? ⟨B+1,0,none⟩=some (.int .i64 u1.s)∧W.cell? ⟨B+1,1,none⟩=some (.int .u32 u1.g))∧(W.cell? ⟨B+1+1,0,none⟩=some (.int .i64 u2.s)∧W.cell? ⟨B+1+1,1,none⟩=some (.int .u32 u2.g))∧(W.cell? ⟨B+1+1+1,0,none⟩=some (.int .i64 u3.s)∧W.cell? ⟨B+1+1+1,1,none⟩=some (.int .u32 u3.g))∧(W.cell? ⟨B+1+1+1+1,0,none⟩=some (.int .i64 u4.s)∧W.cell? ⟨B+1+1+1+1,1,none⟩=some (.int .u32 u4.g)):=
 ⟨⟨cell_at h.own rfl,cell_at h.own rfl,cell_at h.own rfl,cell_at h.own rfl⟩,⟨cell_at h.s0 rfl,cell_at h.s0 rfl,cell_at h.s0 rfl,cell_at h.s0 rfl,cell_at h.s0 rfl⟩,⟨cell_at h.b1 rfl,cell_at h.b1 rfl⟩,⟨cell_at h.b2 rfl,cell_at h.b2 rfl⟩,⟨cell_at h.b3 rfl,cell_at h.b3 rfl⟩,⟨cell_at h.b4 rfl,cell_at h.b4 rfl⟩⟩
end
end Go.Proofs.YtnlkfbndlngjaaaGreat
