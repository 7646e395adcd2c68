import Derived.Test.YtjfmagccmjdhoaaGreatMgW
set_option maxHeartbeats 4000000
set_option maxRecDepth 100000
namespace Go.Proofs.YtjfmagccmjdhoaaGreat
open Go.RowKit
def GTy (t:TypeId):Prop:=ATy t∨Ty24 t
instance (t:TypeId):Decidable (GTy t):=by unfold GTy;infer_instance
def Gt (w:World) (N y:Nat):Prop:=N≤y∧∃ c t,w.heap[y]?=some (.cells c t)∧GTy t
theorem Gt.trans {N:Nat} {w w1 w2:World} (h1:zA (Gt w N) w w1) (h2:zA (Gt w1 N) w1 w2):zA (Gt w N) w w2:=
 h1.trans' h2 (fun _ _ h=>h) (fun y hy h=>by
  by_cases e:Gt w N y
  ·exact e
  ·obtain⟨hN,c,t,hc,ht⟩:=h
   rw [h1.block y hy e] at hc
   exact⟨hN,c,t,hc,ht⟩)
theorem Gt.block {N z:Nat} {w w':World} {c:Array Value} {t:TypeId} (hk:zA (Gt w N) w w') (hz:w.heap[z]?=some (.cells c t)) (ht:¬ GTy t):w'.heap[z]?=some (.cells c t):=
 zB hz hk (fun ⟨_,c',t',h,h'⟩=>by
  rw [hz] at h
  simp at h
  rw [← h.2] at h'
  exact ht h')
section
variable {F F':Nat→Prop} {N:Nat} {w0 w w' w1 w2:World} {a m x y q:Nat} {LA:ArL} {LM:MkL} {A A' B B':Ar} {M M' M2 M2':Mk} {L:L24} {S:Nat→Prop}
theorem Fo.garena (h:Fo F w0 w a m LA LM x y A M B M2 q) (hF:∀ z,F z→z<w.heap.size) (hB:B'.many=B.many) {LR:L18} (h1:w0.heap.size≤LR.hb) (h2:R18 w x LR B) (h4:∀ k z,k<B.many→(LR.sv k).ownBlock=some z→¬ F z) (hu:Up18 x w.heap.size LR B' w w'):Fo F w0 w' a m LA LM x y A M B' M2 q∧zA (Gt w w0.heap.size) w w':=by
 obtain⟨hk,L',e,h3,h5⟩:=hu
 obtain⟨cx,_,x1,_⟩:=h2.own
 obtain⟨_,_,_,b1⟩:=h2.heap.own
 have ty:∀ y c t,w.heap[y]?=some (.cells c t)→(y=x∨y=LR.hb)→ATy t:=fun y c t hy hs=>by
  rcases hs with rfl | rfl
  ·rw [x1] at hy;simp at hy;rw [← hy.2];decide
  ·rw [b1] at hy;simp at hy;rw [← hy.2];decide
 have hN:∀ z,(z=x∨z=LR.hb)→w0.heap.size≤z:=fun z hz=>by
  rcases hz with rfl | rfl
  ·exact h.lx
  ·exact h1
 refine⟨⟨h.du.other hk hN (fun y c t hy hs=>(ty y c t hy hs).u),h.lx,⟨L',by rw [e];exact h1,h3,fun k z hk' hz hf=>?_⟩,h.d.other hk (fun y c t hy hs=>(ty y c t hy hs).w)⟩,hk.mono (fun z hz hs=>?_)⟩
 ·rcases h5 k z hk' hz with⟨k',h6,h7⟩ | h6
  ·exact h4 k' z (by rw [← hB];exact h6) h7 hf
  ·have:=hF z hf;omega
 ·rcases hs with rfl | rfl
  ·exact⟨h.lx,_,_,x1,by decide⟩
  ·exact⟨h1,_,_,b1,by decide⟩
theorem Fo.gmarker (h:Fo F w0 w a m LA LM x y A M B M2 q) (hd:To24 w0.heap.size w w' y M2' q):Fo F w0 w' a m LA LM x y A M B M2' q∧zA (Gt w w0.heap.size) w w':=by
 obtain⟨LR,h1,h2,h4⟩:=h.doc
 obtain⟨hk,hd⟩:=hd
 refine⟨⟨h.du.other hk (fun y hs=>hs.1) (fun y c t hy hs=>?_),h.lx,⟨LR,h1,h2.keeps hk T24.alien,h4⟩,hd⟩,hk.mono (fun y hy hs=>?_)⟩
 ·obtain⟨_,c',t',hc,ht⟩:=hs
  rw [hy] at hc;simp at hc;rw [hc.2];exact ht.u
 ·obtain⟨h1,c',t',hc,ht⟩:=hs
  exact⟨h1,c',t',hc,.inr ht⟩
def Fo.Og (F:Nat→Prop) (w0 w w':World) (a m:Nat) (LA:ArL) (LM:MkL) (x y:Nat) (A:Ar) (M:Mk) (B:Ar) (M2:Mk) (q:Nat):Prop:=Fo F w0 w' a m LA LM x y A M B M2 q∧zA (Gt w w0.heap.size) w w'
theorem Fo.gmake (h:Fo F w0 w a m LA LM x y A M B M2 q) (hF:∀ z,F z→z<w.heap.size) (i n:Int) (hd:Bool):Calls Tryz.prog 44 #[.pointer (some ⟨x,0,none⟩),.int .i64 i,.int .i64 n,.bool hd] w
 fun e w'=>e = .returned (.tuple #[(B.makeR i n hd).now.val,.int .i64 (B.makeR i n hd).e])∧Fo.Og F w0 w w' a m LA LM x y A M (B.makeR i n hd).A M2 q:=by
 obtain⟨LR,h1,h2,h4⟩:=h.doc
 exact (make18 i n hd h2).mono fun _ _ ⟨e1,e2⟩=>⟨e1,h.garena hF (B.makeR_n _ _ _).2 h1 h2 h4 e2⟩
theorem Fo.gload (h:Fo F w0 w a m LA LM x y A M B M2 q) (hF:∀ z,F z→z<w.heap.size) (i j f:Int):Calls Tryz.prog 47 #[.pointer (some ⟨x,0,none⟩),.int .i64 i,.int .i64 j,.int .i64 f] w
 fun e w'=>e = .returned (.tuple #[(B.loadR i j f).now.val,.int .i64 (B.loadR i j f).e])∧Fo.Og F w0 w w' a m LA LM x y A M (B.loadR i j f).A M2 q:=by
 obtain⟨LR,h1,h2,h4⟩:=h.doc
 exact (load18 i j f h2).mono fun _ _ ⟨e1,e2⟩=>⟨e1,h.garena hF (B.loadR_n _ _ _).2 h1 h2 h4 e2⟩
theorem Fo.gstore (h:Fo F w0 w a m LA LM x y A M B M2 q) (hF:∀ z,F z→z<w.heap.size) (i j f k:Int):Calls Tryz.prog 48 #[.pointer (some ⟨x,0,none⟩),.int .i64 i,.int .i64 j,.int .i64 f,.int .i64 k] w
 fun e w'=>e = .returned (.tuple #[(B.storeR i j f k).was.val,(B.storeR i j f k).now.val,.int .i64 (B.storeR i j f k).e])∧Fo.Og F w0 w w' a m LA LM x y A M (B.storeR i j f k).A M2 q:=by
 obtain⟨LR,h1,h2,h4⟩:=h.doc
 exact (store18 i j f k h2).mono fun _ _ ⟨e1,e2⟩=>⟨e1,h.garena hF (B.storeR_n _ _ _ _).2 h1 h2 h4 e2⟩
theorem Fo.gdrop (h:Fo F w0 w a m LA LM x y A M B M2 q) (hF:∀ z,F z→z<w.heap.size) (i j:Int):Calls Tryz.prog 50 #[.pointer (some ⟨x,0,none⟩),.int .i64 i,.int .i64 j] w
 fun e w'=>e = .returned (.tuple #[(B.dropR i j).now.val,.int .i64 (B.dropR i j).e])∧Fo.Og F w0 w w' a m LA LM x y A M (B.dropR i j).A M2 q:=by
 obtain⟨LR,h1,h2,h4⟩:=h.doc
 exact (drop18 i j h2).mono fun _ _ ⟨e1,e2⟩=>⟨e1,h.garena hF (B.dropR_n _ _).2 h1 h2 h4 e2⟩
theorem Fo.gput (h:Fo F w0 w a m LA LM x y A M B M2 q) (hF:∀ z,F z→z<w.heap.size) (i j k:Int):Calls Tryz.prog 51 #[.pointer (some ⟨x,0,none⟩),.int .i64 i,.int .i64 j,.int .i64 k] w
 fun e w'=>e = .returned (.tuple #[(B.putR i j k).was.val,(B.putR i j k).now.val,.int .i64 (B.putR i j k).e])∧Fo.Og F w0 w w' a m LA LM x y A M (B.putR i j k).A M2 q:=by
 obtain⟨LR,h1,h2,h4⟩:=h.doc
 exact (put18 i j k h2).mono fun _ _ ⟨e1,e2⟩=>⟨e1,h.garena hF (B.putR_n _ _ _).2 h1 h2 h4 e2⟩
theorem Fo.gget (h:Fo F w0 w a m LA LM x y A M B M2 q) (hF:∀ z,F z→z<w.heap.size) (i k:Int):Calls Tryz.prog 52 #[.pointer (some ⟨x,0,none⟩),.int .i64 i,.int .i64 k] w
 fun e w'=>e = .returned (.tuple #[(B.getR i k).now.val,.int .i64 (B.getR i k).e])∧Fo.Og F w0 w w' a m LA LM x y A M (B.getR i k).A M2 q:=by
 obtain⟨LR,h1,h2,h4⟩:=h.doc
 exact (get18 i k h2).mono fun _ _ ⟨e1,e2⟩=>⟨e1,h.garena hF (B.getR_n _ _).2 h1 h2 h4 e2⟩
theorem Fo.gfree (h:Fo F w0 w a m LA LM x y A M B M2 q) (hF:∀ z,F z→z<w.heap.size) (r:Rf):Calls Tryz.prog 202 #[.pointer (some ⟨x,0,none⟩),.agg #[.int .i64 r.s,.int .u32 r.g]] w
 fun e w'=>e = .returned (.int .i64 (B.freeR r).2)∧Fo.Og F w0 w w' a m LA LM x y A M (B.freeR r).1 M2 q:=by
 obtain⟨LR,h1,h2,h4⟩:=h.doc
 exact (free18 r h2).mono fun _ _ ⟨e1,e2⟩=>⟨e1,h.garena hF (B.freeR_n _).2 h1 h2 h4 e2⟩
theorem Fo.gstep (h:Fo F w0 w a m LA LM x y A M B M2 q) (hok:M2.Ok) (hn:B.H.T.n=M2.P.n) (hm:B.many=M2.K.many) (hcy:M2.K.cy<4611686018427387904):Calls Tryz.prog 136 #[.pointer (some ⟨y,0,none⟩),.pointer (some ⟨x,0,none⟩)] w
 fun e w'=>e = .returned (.int .i64 0)∧Fo.Og F w0 w w' a m LA LM x y A M B (M2.stepR B) q:=by
 obtain⟨LR,h1,h2,h4⟩:=h.doc
 exact (step24_ok h.d h2 hok hn hm hcy).mono fun _ _ ⟨e1,e2⟩=>⟨e1,h.gmarker e2⟩
theorem Fo.gack (h:Fo F w0 w a m LA LM x y A M B M2 q) (hn:B.H.T.n=M2.P.n) (hm:B.many=M2.K.many) (i:Int):Calls Tryz.prog 128 #[.pointer (some ⟨y,0,none⟩),.pointer (some ⟨x,0,none⟩),.int .i64 i] w
 fun e w'=>e = .returned (.tuple #[.bool (M2.ackR B i).is,.int .i64 (M2.ackR B i).e])∧Fo.Og F w0 w w' a m LA LM x y A M B (M2.ackR B i).M q:=by
 obtain⟨LR,h1,h2,h4⟩:=h.doc
 exact (ack24R i h.d h2 hn hm).mono fun _ _ ⟨e1,e2⟩=>⟨e1,h.gmarker e2⟩
theorem Fo.gmade (h:Fo F w0 w a m LA LM x y A M B M2 q) (r:Rf):Calls Tryz.prog 46 #[.pointer (some ⟨y,0,none⟩),.agg #[.int .i64 r.s,.int .u32 r.g]] w
 fun e w'=>e = .returned (.int .i64 (M2.madeR r).2)∧Fo.Og F w0 w w' a m LA LM x y A M B (M2.madeR r).1 q:=(made24R r h.d).mono fun _ _ ⟨e1,e2⟩=>⟨e1,h.gmarker e2⟩
theorem Fo.gwrote (h:Fo F w0 w a m LA LM x y A M B M2 q) (i:Int) (r z:Rf):Calls Tryz.prog 49 #[.pointer (some ⟨y,0,none⟩),.int .i64 i,.agg #[.int .i64 r.s,.int .u32 r.g],.agg #[.int .i64 z.s,.int .u32 z.g]] w
 fun e w'=>e = .returned (.int .i64 (M2.wroteR i r z).2)∧Fo.Og F w0 w w' a m LA LM x y A M B (M2.wroteR i r z).1 q:=(wrote24R i r z h.d).mono fun _ _ ⟨e1,e2⟩=>⟨e1,h.gmarker e2⟩
theorem Fo.gbegin (h:Fo F w0 w a m LA LM x y A M B M2 q):Calls Tryz.prog 196 #[.pointer (some ⟨y,0,none⟩)] w
 fun e w'=>e = .returned (.int .i64 M2.beginR.2)∧Fo.Og F w0 w w' a m LA LM x y A M B M2.beginR.1 q:=by
 obtain⟨L,h1,lo⟩:=h.d
 unfold Mk.beginR
 split
 ·rename_i hp
  exact (begin24R h1 hp).mono fun _ _ ⟨e1,e2,cs,e3⟩=>⟨e1,h.gmarker ⟨h1.to lo e2 (fun y hy=>.inr (.inl hy)),_,e3,lo.cs⟩⟩
 ·rename_i hp
  exact (begin24_bad h1 hp).mono fun _ _ ⟨e1,e2⟩=>⟨e1,by subst e2;exact h.gmarker ⟨zA.refl _ _,_,h1,lo⟩⟩
theorem Fo.gfreed (h:Fo F w0 w a m LA LM x y A M B M2 q) (s:Int):Calls Tryz.prog 203 #[.pointer (some ⟨y,0,none⟩),.int .i64 s] w
 fun e w'=>e = .returned (.int .i64 (M2.freedR s).2)∧Fo.Og F w0 w w' a m LA LM x y A M B (M2.freedR s).1 q:=by
 obtain⟨L,h1,lo⟩:=h.d
 unfold Mk.freedR
 split
 ·rename_i hp
  exact (freed24_range s h1 hp).mono fun _ _ ⟨e1,e2⟩=>⟨e1,by subst e2;exact h.gmarker ⟨zA.refl _ _,_,h1,lo⟩⟩
 ·rename_i hp
  obtain⟨i,rfl⟩:∃ i:Nat,s=i:=⟨s.toNat,by omega⟩
  rw [Int.toNat_natCast]
  exact (freed24_ok i h1 (by omega)).mono fun _ _ ⟨e1,e2,e3⟩=>⟨e1,h.gmarker ⟨h1.to lo e2 (fun y hy=>.inr (.inr (.inr (.inl hy)))),_,e3,lo⟩⟩
theorem Fo.ggo (h:Fo F w0 w a m LA LM x y A M B M2 q) (hok:M2.Ok) (hcy:M2.K.cy<4611686018427387904):Calls Tryz.prog 132 #[.pointer (some ⟨y,0,none⟩)] w
 fun e w'=>e = .returned (.int .i64 M2.goR.2)∧Fo.Og F w0 w w' a m LA LM x y A M B M2.goR.1 q:=by
 obtain⟨L,h1,lo⟩:=h.d
 have hph:=hok.ph
 unfold Mk.goR
 split
 ·rename_i hp
  exact (go24_bad h1 hp).mono fun _ _ ⟨e1,e2⟩=>⟨e1,by subst e2;exact h.gmarker ⟨zA.refl _ _,_,h1,lo⟩⟩
 ·split
  ·rename_i hp
   exact (go24_mid h1 hp hcy).mono fun _ _ ⟨e1,e2,cs,e3⟩=>⟨e1,h.gmarker ⟨h1.to lo e2 (fun y hy=>.inr (.inl hy)),_,e3,lo.cs⟩⟩
  ·refine (go24_end (setd M2.B M2.K.many) h1 (by omega) hcy (fun j hj=>?_)).mono fun e w' ⟨e1,e2,L',⟨l1,l2,l3,l4,l5,l6⟩,e3⟩=>⟨e1,h.gmarker ⟨h1.to lo e2 (fun z hz=>?_),L',e3,?_⟩⟩
   ·unfold setd
    rw [if_pos hj]
    exact⟨rfl,rfl,(h1.bf j hj).2,rfl⟩
   ·rcases hz with h | h | h | h
    ·exact .inr (.inl h)
    ·exact .inr (.inr (.inl h))
    ·exact .inr (.inr (.inr (.inr (.inl h))))
    ·exact .inl h
   ·have hw:w0.heap.size≤w.heap.size:=h.du.kp.size
    exact⟨lo.m,by rw [l1];exact lo.c,by rw [l2];exact lo.p,by omega,by rw [l3];exact lo.st,fun j hj=>Nat.le_trans hw (l5 j hj),fun j hj z hz=>absurd hz (l6 j z)⟩
end
section
variable {F F':Nat→Prop} {w0 w w':World} {a m x y qq b:Nat} {LA:ArL} {LM:MkL} {A:Ar} {M:Mk} {s:Sys} {S:Sw}
theorem Fo.sub {B:Ar} {M2:Mk} (h:Fo F w0 w a m LA LM x y A M B M2 qq) (hF:∀ z,F' z→F z):Fo F' w0 w a m LA LM x y A M B M2 qq:=by
 obtain⟨LR,h1,h2,h4⟩:=h.doc
 exact⟨h.du,h.lx,⟨LR,h1,h2,fun k z hk hz hf=>h4 k z hk hz (hF z hf)⟩,h.d⟩
theorem Fo.addF {B:Ar} {M2:Mk} (h:Fo F w0 w a m LA LM x y A M B M2 qq) (hF:∀ z,F' z→F z∨w.heap.size≤z):Fo F' w0 w a m LA LM x y A M B M2 qq:=by
 obtain⟨LR,h1,h2,h4⟩:=h.doc
 exact⟨h.du,h.lx,⟨LR,h1,h2,fun k z hk hz hf=>by
  rcases hF z hf with e | e
  ·exact h4 k z hk hz e
  ·have:=h2.svlt hk hz;omega⟩,h.d⟩
theorem DwAt.gt {N:Nat} (h:DwAt w b S) (hk:zA (Gt w N) w w'):DwAt w' b S:=Gt.block hk h (by decide)
theorem Refs.gt {N:Nat} {v:Value} {l:List Rf} (h:Refs w v l) (hk:zA (Gt w N) w w'):Refs w' v l:=by
 rcases h with h | ⟨g,cap,cur,e,h2,h3⟩
 ·exact .inl h
 ·exact .inr ⟨g,cap,cur,e,Gt.block hk h2 (by decide),h3⟩
theorem gt_or {N:Nat} {w1 w2:World} (h1:zA (fun z=>z=b∨Gt w N z) w w1) (h2:zA (Gt w1 N) w1 w2):zA (fun z=>z=b∨Gt w N z) w w2:=
 h1.trans' h2 (fun _ _ h=>h) (fun z hz h=>by
  by_cases e:z=b∨Gt w N z
  ·exact e
  ·obtain⟨h0,c,t,hc,ht⟩:=h
   exact .inr ⟨h0,c,t,by rw [← h1.block z hz e];exact hc,ht⟩)
theorem dsw_stepF (h:Fo F w0 w a m LA LM x y A M s.A s.M qq) (hF:∀ z,F z→z<w.heap.size) (hs:DwAt w b S) (hb:w0.heap.size≤b) (hsz:s.M.P.n=S.size) (h1:1≤S.size) (h2:S.size≤256) (hok:s.Ok) (hph:s.M.K.ph=5) (he:S.next<S.size) (hcn:S.n≤S.next):
 Calls Tryz.prog 134 #[.pointer (some ⟨b,0,none⟩),.pointer (some ⟨x,0,none⟩),.pointer (some ⟨y,0,none⟩)] w fun e w'=>e = .returned (.tuple #[(S.stepR s).r.val,.bool (S.stepR s).is,.int .i64 0])∧Fo F w0 w' a m LA LM x y A M (S.stepR s).s.A (S.stepR s).s.M qq∧DwAt w' b (S.stepR s).S∧zA (fun z=>z=b∨Gt w w0.heap.size z) w w':=by
 have HB:=zC hb
 have hd0:=(Fo.du h).kp
 have hlb:=zF hs
 have HMK0:=zC (fun W (hd:FD w0 W a m LA LM x y A M s qq)=>hd.mk S.next (by omega))
 have hw:FD w0 w a m LA LM x y A M s qq:=Fo.weak h
 have HFL:=zC hF
 have H0:=zC (fun W (hk:Kz w W)=>Fo.quiet (Fo.addF (F':=fun z=>F z∨z=w.heap.size) h (fun z e=>e.imp id (fun e=>Nat.le_of_eq (Eq.symm e)))) hk)
 have HS:=zC hs
 have HOK:=zC hok
 obtain⟨n,hn⟩:∃ n,S.size=n:=⟨_,rfl⟩
 have HAN:=zC (show s.A.H.T.n=n from by rw [hok.n,hsz,hn])
 have HMN:=zC (show s.M.P.n=n from by rw [hsz,hn])
 have hn1:1≤n:=by omega
 have hpr:IntKind.i64.wrap ((n:Int) - 1)=((n - 1:Nat):Int):=by rw [IntWalk.i64_in _ (by omega)];omega
 have HSZ:=zC (fun W (hk:Kz w W)=>(hw.quiet hk).sizes)
 rw [HAN.out] at HSZ
 have HM1:=zC (fun W (hk:Kz w W)=>(hw.quiet hk).mk (n - 1) (by rw [HMN.out];omega))
 have HM2:=zC (fun W (hk:Kz w W)=>(hw.quiet hk).mk_out (n:Int) (.inr (by rw [HMN.out];exact Int.le_refl _)))
 have HPH:=zC (fun W (hk:Kz w W)=>show Calls Tryz.prog 129 #[.pointer (some ⟨y,0,none⟩)] W fun e w'=>e = .returned (.int .i64 5)∧w'=W from by have:=(hw.quiet hk).ph;rw [hph] at this;exact this)
 have HQ:=zC (fun W (hk:Kz w W)=>show DwAt W b S from zB HS.out hk (fun h=>h))
 have HC:=zC (fun W (hk:Kz w W)=>qB (HQ.out W hk))
 rw [hn] at HC
 clear h hw hF hs hok hsz hph
 go_in
 go_wp2_with fail
 refine zQ (HSZ.out _ ((zA.refl _ _).alloc _)) fun w1 k1=>?_
 have K1:=zC (((zA.refl (fun _=>False) w).alloc _).trans k1)
 have HR1:=zC (zB (zE (w:=w)) k1 (fun h=>h))
 obtain⟨c0,c1,c2,cl⟩:=HC.out _ K1.out
 clear k1
 go_wp2_with fail
 refine zP ((HM1.out _ K1.out)) ?_
 go_wp2_with fail
 refine zP ((HM2.out _ K1.out)) ?_
 have HDN:=zC (dsw_done (HQ.out _ K1.out))
 rw [hn] at HDN
 go_wp2_with fail
 refine zQ HDN.out fun wd kd=>?_
 have KD:=zC (K1.out.trans kd);have HRD:=zC (zB HR1.out kd (fun h=>h))
 clear K1 HR1 kd c0 c1 c2 cl HDN
 obtain⟨c0,c1,c2,cl⟩:=HC.out _ KD.out
 have hd1:((S.next:Int) == (n:Int))=false:=by simp;omega
 have hbf:=zL (HQ.out _ KD.out)
 have bf1:=hbf 1
 clear hbf
 go_wp2_with fail
 refine zP ((HPH.out _ KD.out)) ?_
 obtain⟨c0',c1',c2',cl'⟩:=HC.out _ KD.out
 obtain⟨w2,hw2⟩:∃ w2,wd.setCell ⟨b,1,none⟩ (.int .i64 ((S.next:Int)+1))=w2:=⟨_,rfl⟩
 have k2:zA (fun z=>z=b) wd w2:=by rw [← hw2];exact zJ _ _ _ _
 have HDW2:=zC (show DwAt w2 b ⟨S.size,S.next+1,S.n⟩ from by rw [← hw2];exact (zH (HQ.out _ KD.out) 1 _).trans (by simp))
 have HF2:=zC (Fo.own (H0.out _ KD.out) (HQ.out _ KD.out) HB.out k2)
 have HD2:=zC (show FD w0 w2 a m LA LM x y A M s qq from HF2.out.weak)
 have HR2:=zC (zB HRD.out k2 (fun e=>by have e':w.heap.size=b:=e;omega))
 have HK2:=zC (show zA (fun z=>z=b∨Gt w w0.heap.size z) w w2 from KD.out.up.trans (k2.mono (fun _ _ e=>.inl e)))
 go_wp2_with fail
 try rw [hw2]
 clear hw2 k2 c0 c1 c2 cl c0' c1' c2' cl' bf1
 refine (HD2.out.heap).mono ?_
 rintro e w3 ⟨hb3,ht3,rfl,k3,_,_,hh3⟩
 have K3:=zC k3;have HH3:=zC hh3
 clear k3 hh3
 go_wp2_with fail
 refine (all14 HH3.out).mono ?_
 rintro e w4 ⟨v,rfl,hr4,k4⟩
 have K4:=zC (K3.out.trans k4)
 obtain⟨pa,ca,rfl⟩:=hr4.refs.slice
 have HR4:=zC hr4.refs
 have hlen:=tk_len s.A.H.T
 obtain⟨l,hl⟩:∃ l,s.A.H.T.tk=l:=⟨_,rfl⟩
 rw [hl] at HR4 hlen ⊢
 have hl256:l.length≤256:=by have:=HAN.out;omega
 have HL:=zC hl
 clear k4 hr4 hl hlen
 obtain⟨mk,hmk⟩:∃ mk,(s.M.P.c S.next != 0)=mk:=⟨_,rfl⟩
 have HMK:=zC (fun W (hk:Kz w2 W)=>HMK0.out W (HD2.out.quiet hk))
 rw [hmk] at HMK
 have HMV:=zC hmk
 clear hmk
 go_wp2_with fail
 refine zP ((HMK.out _ K4.out)) ?_
 go_wp2_with fail
 go_loopw [19] (fun ix wr=>∃ i:Nat,ix = .int .i64 i∧i≤l.length∧(mk=false→∀ j r,j<i→l[j]?=some r→r.s≠(S.next:Int))∧Hid (wr=w4)) (fun ix _=>l.length - (intOf ix).toNat)
 case atStart=>exact⟨0,rfl,Nat.zero_le _,fun _ j r hj=>absurd hj (Nat.not_lt_zero _),zC rfl⟩
 case round=>
  obtain⟨i,rfl,hi,hno,hw⟩:=hrel
  obtain rfl:=hw.out.symm
  clear hw
  have hi0:(0:Int)≤i:=by omega
  by_cases hlt:i<l.length
  ·have hlt':(i:Int)<(l.length:Int):=by omega
   obtain⟨r,hr⟩:∃ r,l[i]?=some r:=⟨_,List.getElem?_eq_getElem hlt⟩
   obtain⟨g,rfl,hg,g0,g1⟩:=HR4.out.cell.2 i r hr
   by_cases hm:r.s=(S.next:Int)∧mk=false
   ·obtain⟨hrs,rfl⟩:=hm
    have hrs':(r.s == (S.next:Int))=true:=by simp [hrs]
    obtain⟨i0,e1,e2,e3,e4⟩:=tk_of (T:=s.A.H.T) (r:=r) (by rw [HL.out];exact List.mem_of_getElem? hr)
    have hii:i0=S.next:=by omega
    subst hii
    obtain⟨rs,rg⟩:=r
    dsimp only at hrs hrs' e4 g0 g1
    subst hrs;subst e4
    have HST:=zC (show S.stepR s=⟨⟨S.size,S.next+1,S.n+1⟩,s.free S.next,⟨(S.next:Int),s.A.H.T.gn S.next⟩,true⟩ by
     have hmv:=HMV.out
     unfold Sw.stepR
     rw [if_neg (by rintro (h | h);exact absurd hmv (by simp [h]);exact h e3)])
    have hz4:w.heap.size<w4.heap.size:=Nat.lt_of_lt_of_le (zF HR2.out) K4.out.size
    have HFR:=zC (Fo.gfree (HF2.out.quiet K4.out) (fun z e=>e.elim (fun e=>by have:=HFL.out z e;omega) (fun e=>by have e':z=w.heap.size:=e;omega)) (⟨(S.next:Int),s.A.H.T.gn S.next⟩:Rf))
    clear hno
    go_wp2_with fail
    refine HFR.out.mono ?_
    rintro e w5 ⟨rfl,hd5,k5⟩
    have HD5:=zC hd5;have K5:=zC k5
    clear hd5 k5 HFR
    go_wp2_with fail
    have HFD:=zC (Fo.gfreed HD5.out (S.next:Int))
    refine HFD.out.mono ?_
    rintro e w6 ⟨rfl,hd6,k6⟩
    have HD6:=zC hd6;have K6:=zC (Gt.trans K5.out k6)
    clear hd6 k6 HFD K5 HD5 g0 g1 hg
    have HDW6:=zC ((show DwAt w4 b ⟨S.size,S.next+1,S.n⟩ from zB HDW2.out K4.out (fun h=>h)).gt K6.out)
    obtain⟨d0,d1,d2,dl⟩:=qB HDW6.out
    have df:=zL HDW6.out 2
    obtain⟨w7,hw7⟩:∃ w7,w6.setCell ⟨b,2,none⟩ (.int .i64 ((S.n:Int)+1))=w7:=⟨_,rfl⟩
    have k7:zA (fun z=>z=b) w6 w7:=by rw [← hw7];exact zJ _ _ _ _
    have HDW7:=zC (show DwAt w7 b ⟨S.size,S.next+1,S.n+1⟩ from by rw [← hw7];exact (zH HDW6.out 2 _).trans (by simp))
    have HF7:=zC (Fo.own HD6.out HDW6.out HB.out k7)
    have hr7:=zB (Gt.block K6.out (zB HR2.out K4.out (fun h=>h)) (by decide)) k7 (fun e=>by have e':w.heap.size=b:=e;omega)
    have HR7:=zC hr7
    obtain⟨g',hg',hgl',g0,g1⟩:=((HR4.out.gt K6.out).dw HDW6.out k7).cell.2 i _ hr
    obtain rfl:g'=g:=by simpa using hg'.symm
    obtain⟨x0,x1,xf,xl⟩:=zK hr7
    have x0f:=xf 0;have x1f:=xf 1
    have K7:=zC (show zA (fun z=>z=b∨Gt w w0.heap.size z) w w7 from (gt_or (HK2.out.trans K4.out.up) K6.out).trans (k7.mono (fun _ _ e=>.inl e)))
    clear hr7 xf k7
    go_wp2_with fail
    try rw [hw7]
    obtain⟨w8,hw8⟩:∃ w8,(w7.setCell ⟨w.heap.size,0,none⟩ (.int .i64 (S.next:Int))).setCell ⟨w.heap.size,1,none⟩ (.int .u32 (s.A.H.T.gn S.next))=w8:=⟨_,rfl⟩
    have k8:zA (fun z=>z=w.heap.size) w7 w8:=by rw [← hw8];exact (zJ _ _ _ _).trans (zJ _ _ _ _)
    have hq8:w8.heap[w.heap.size]?=some (.cells #[.int .i64 (S.next:Int),.int .u32 (s.A.H.T.gn S.next)] 51):=by rw [← hw8];exact (zH (zH HR7.out 0 _) 1 _).trans rfl
    have HF8:=zC (Fo.box HF7.out k8 HR7.out hd0.size (.inr rfl))
    obtain⟨v0,v1,_,_⟩:=zK hq8
    try rw [hw8]
    refine bodyPost_ret_by (v:=.tuple #[(S.stepR s).r.val,.bool (S.stepR s).is,.int .i64 0]) (by rw [HST.out];simp [results,Tryz.results134,go_sem,Rf.val, *]) rfl ⟨rfl,?_,?_,?_⟩
    ·rw [HST.out];exact HF8.out.sub (fun _ h=>.inl h)
    ·rw [HST.out];exact zB HDW7.out k8 (fun e=>by have e':b=w.heap.size:=e;omega)
    ·exact K7.out.trans' k8 (fun _ _ h=>h) (fun z hz e=>by have e':z=w.heap.size:=e;omega)
   ·by_cases hrs:r.s=(S.next:Int)
    ·have hmk:mk=true:=by cases mk;exact absurd ⟨hrs,rfl⟩ hm;rfl
     subst hmk
     have hrs':(r.s == (S.next:Int))=true:=by simp [hrs]
     clear hno
     go_wp2_with fail
     exact⟨⟨i+1,by go_num,by omega,fun e=>(by cases e),(by first | exact zC rfl | exact zC trivial)⟩,by simp [intOf];omega⟩
    ·have hrs':(r.s == (S.next:Int))=false:=by simp [hrs]
     have HNO:=zC (show mk=false→∀ j r',j<i+1→l[j]?=some r'→r'.s≠(S.next:Int) from fun e j r' hj hr'=>by
      by_cases hji:j=i
      ·subst hji
       rw [hr] at hr'
       obtain rfl:=Option.some.inj hr'
       exact hrs
      ·exact hno e j r' (by omega) hr')
     clear hno
     go_wp2_with fail
     exact⟨⟨i+1,by go_num,by omega,HNO.out,(by first | exact zC rfl | exact zC trivial)⟩,by simp [intOf];omega⟩
  ·have hnl:¬ (i:Int)<(l.length:Int):=by omega
   have HST:=zC (show S.stepR s=⟨⟨S.size,S.next+1,S.n⟩,s,.no,false⟩ by
    have hmv:=HMV.out
    unfold Sw.stepR
    refine if_pos ?_
    cases mk
    ·refine .inr (fun h1=>?_)
     have hm:=tk_mem (T:=s.A.H.T) (i:=S.next) (by rw [HAN.out];omega) h1
     rw [HL.out] at hm
     obtain⟨j,hj⟩:=List.getElem?_of_mem hm
     have hjl:j<l.length:=(List.getElem?_eq_some_iff.1 hj).1
     exact hno rfl j _ (by omega) hj rfl
    ·exact .inl (by simpa using hmv))
   obtain⟨x0,x1,xf,xl⟩:=zK (zB HR2.out K4.out (fun h=>h))
   have x0f:=xf 0;have x1f:=xf 1
   clear xf hno
   go_wp2_with fail
   obtain⟨w8,hw8⟩:∃ w8,(w4.setCell ⟨w.heap.size,0,none⟩ (.int .i64 0)).setCell ⟨w.heap.size,1,none⟩ (.int .u32 0)=w8:=⟨_,rfl⟩
   have hr4':=zB HR2.out K4.out (fun h=>h)
   have k8:zA (fun z=>z=w.heap.size) w4 w8:=by rw [← hw8];exact (zJ _ _ _ _).trans (zJ _ _ _ _)
   have hq8:w8.heap[w.heap.size]?=some (.cells #[.int .i64 0,.int .u32 0] 51):=by rw [← hw8];exact (zH (zH hr4' 0 _) 1 _).trans rfl
   have HF8:=zC (Fo.box (HF2.out.quiet K4.out) k8 hr4' hd0.size (.inr rfl))
   obtain⟨v0,v1,_,_⟩:=zK hq8
   try rw [hw8]
   refine bodyPost_ret_by (v:=.tuple #[(S.stepR s).r.val,.bool (S.stepR s).is,.int .i64 0]) (by rw [HST.out];simp [results,Tryz.results134,go_sem,Rf.val,Rf.no, *]) rfl ⟨rfl,?_,?_,?_⟩
   ·rw [HST.out];exact HF8.out.sub (fun _ h=>.inl h)
   ·rw [HST.out];exact zB (zB HDW2.out K4.out (fun h=>h)) k8 (fun e=>by have e':b=w.heap.size:=e;omega)
   ·exact (HK2.out.trans K4.out.up).trans' k8 (fun _ _ h=>h) (fun z hz e=>by have e':z=w.heap.size:=e;omega)
end
end Go.Proofs.YtjfmagccmjdhoaaGreat
