import Derived.Test.YtnlkfbndlngjaaaGreatMgN
import Derived.Test.YtnlkfbndlngjaaaGreatMgO
set_option maxHeartbeats 4000000
set_option maxRecDepth 100000
namespace Go.Proofs.YtnlkfbndlngjaaaGreat
open Go.RowKit
structure Duo (w0 w:World) (a m:Nat) (LA:ArL) (LM:MkL) (A:Ar) (M:Mk):Prop where
 ar:ArIn w a LA A
 mm:MkIn w m LM M
 kp:Keeps (fun _=>False) w0 w
 sep:∃ l1 h1 l2 h2,w0.heap.size≤l1∧w0.heap.size≤l2∧(h1≤l2∨h2≤l1)∧LA.Btw a A.many l1 h1∧LM.Btw m M.K.many l2 h2
theorem Duo.same {w0 w w':World} {a m:Nat} {LA:ArL} {LM:MkL} {A:Ar} {M:Mk} (h:Duo w0 w a m LA LM A M) (hk:Keeps (fun _=>False) w w'):Duo w0 w' a m LA LM A M:=
 ⟨h.ar.keeps0 hk,h.mm.keeps0 hk,h.kp.trans hk,h.sep⟩
theorem Duo.arena {w0 w w':World} {a m:Nat} {LA:ArL} {LM:MkL} {A A':Ar} {M:Mk} {S:Nat→Prop} (h:Duo w0 w a m LA LM A M) (hk:Keeps S w w') (hS:∀ y,S y→y=LA.b∨y=LA.t∨∃ k,k<A.many∧y=LA.ss k) (ha:ArIn w' a LA A') (hm:A'.many=A.many):Duo w0 w' a m LA LM A' M:=by
 obtain⟨h1,h2,h3,l1,u1,l2,u2,e1,e2,e3,ba,bm⟩:=h
 have hr:∀ y,S y→l1≤y∧y<u1:=by
  intro y hy
  rcases hS y hy with rfl | rfl | ⟨k,hk,rfl⟩
  ·exact ba.b
  ·exact ba.t
  ·exact ba.ss k hk
 refine⟨ha,h2.keeps hk ?_ ?_ ?_ ?_ ?_ ?_,h3.trans' hk (fun _ _ h=>h) (fun y hy h=>by have:=(hr y h).1;omega),l1,u1,l2,u2,e1,e2,e3,by rw [hm];exact ba,bm⟩
 ·intro h;have:=hr _ h;have:=bm.m;omega
 ·intro h;have:=hr _ h;have:=bm.c;omega
 ·intro h;have:=hr _ h;have:=bm.p;omega
 ·intro h;have:=hr _ h;have:=bm.s;omega
 ·intro h;have:=hr _ h;have:=bm.rb;omega
 ·intro j hj h;have:=hr _ h;have:=bm.bb j hj;omega
theorem Duo.hsep {w0 w:World} {a m:Nat} {LA:ArL} {LM:MkL} {A:Ar} {M:Mk} {S:Nat→Prop} (h:Duo w0 w a m LA LM A M) (hS:∀ y,S y→LM.foot M.K.many y) {W W':World} (hA:ArIn W a LA A) (hk:Keeps S W W'):ArIn W' a LA A:=by
 obtain⟨h1,h2,h3,l1,u1,l2,u2,e1,e2,e3,ba,bm⟩:=h
 have hr:∀ y,S y→l2≤y∧y<u2:=by
  intro y hy
  rcases hS y hy with rfl | rfl | rfl | ⟨k,hk,rfl⟩
  ·exact bm.c
  ·exact bm.p
  ·exact bm.s
  ·exact bm.bb k hk
 refine hA.keeps hk ?_ ?_ ?_ ?_ ?_ ?_
 ·intro h;have:=hr _ h;have:=ba.a;omega
 ·intro h;have:=hr _ h;have:=ba.o;omega
 ·intro h;have:=hr _ h;have:=ba.b;omega
 ·intro h;have:=hr _ h;have:=ba.t;omega
 ·intro h;have:=hr _ h;have:=ba.g;omega
 ·intro j hj h;have:=hr _ h;have:=ba.ss j hj;omega
theorem Duo.marker {w0 w w':World} {a m:Nat} {LA:ArL} {LM:MkL} {A:Ar} {M M':Mk} {S:Nat→Prop} (h:Duo w0 w a m LA LM A M) (hk:Keeps S w w') (hS:∀ y,S y→LM.foot M.K.many y) (hm:MkIn w' m LM M') (hK:M'.K.many=M.K.many):Duo w0 w' a m LA LM A M':=by
 have ha:=h.hsep hS h.ar hk
 obtain⟨h1,h2,h3,l1,u1,l2,u2,e1,e2,e3,ba,bm⟩:=h
 refine⟨ha,hm,h3.trans' hk (fun _ _ h=>h) (fun y hy h=>?_),l1,u1,l2,u2,e1,e2,e3,ba,by rw [hK];exact bm⟩
 rcases hS y h with rfl | rfl | rfl | ⟨k,hk,rfl⟩
 ·have:=bm.c.1;omega
 ·have:=bm.p.1;omega
 ·have:=bm.s.1;omega
 ·have:=(bm.bb k hk).1;omega
theorem Duo.new {w0 w1 w2:World} {a m:Nat} {LM:MkL} {A:Ar} {M:Mk} (k1:Keeps (fun _=>False) w0 w1) (ha:ArAt w1 a w0.heap.size w1.heap.size A) (k2:Keeps (fun _=>False) w1 w2) (hm:MkIn w2 m LM M) (bm:LM.Btw m M.K.many w1.heap.size w2.heap.size):
 ∃ LA,Duo w0 w2 a m LA LM A M:=by
 obtain⟨LA,ha,ba⟩:=ha
 exact⟨LA,ha.keeps0 k2,hm,k1.trans k2,_,_,_,_,Nat.le_refl _,k1.size,.inl (Nat.le_refl _),ba,bm⟩
section
variable {w0 w:World} {a m:Nat} {LA:ArL} {LM:MkL} {A:Ar} {M:Mk}
theorem duo_make (h:Duo w0 w a m LA LM A M) (k:Nat) (n:Int) (hd:Bool) (i:Nat) (g:Int) (r:List (Nat × Int)) (hm:k<A.many) (hk:okNew n hd) (hi:A.H.T.inn 0 A.H.T.n=(i,g) :: r) (hr:(A.rt k).n<32) (hg:1≤g) (hg1:g≤4294967295):
 Calls Tryz.prog 50 #[.pointer (some ⟨a,0,none⟩),.int .i64 k,.int .i64 n,.bool hd] w
  fun e w'=>e = .returned (.tuple #[.agg #[.int .i64 i,.int .u32 g],.int .i64 0])∧Duo w0 w' a m LA LM (A.made k i g (Ob.new n hd)) M:=by
 refine (amake_ok a LA A k n hd i g r w h.ar hm hk hi hr hg hg1).mono ?_
 rintro e w' ⟨rfl,hk1,ha⟩
 exact⟨rfl,h.arena hk1 (fun y hy=>by rcases hy with h | h | h;exact .inl h;exact .inr (.inl h);exact .inr (.inr ⟨k,hm,h⟩)) ha rfl⟩
theorem duo_store (h:Duo w0 w a m LA LM A M) (k i f j o:Nat) (g:Int) (v:Rf) (hm:k<A.many) (hi:i<(A.rt k).n) (hj:j<(A.rt k).n) (hr:(A.rt k).f i=⟨o,g⟩) (hvv:(A.rt k).f j=v)
 (hc:ckV A.H.T o g=0) (hf:(f:Int)<(A.H.ob o).n) (hv:ckV A.H.T v.s v.g=0) (hb:v.bad=false):
 Calls Tryz.prog 51 #[.pointer (some ⟨a,0,none⟩),.int .i64 k,.int .i64 i,.int .i64 f,.int .i64 j] w
  fun e w'=>e = .returned (.tuple #[((A.H.ob o).fs f).val,v.val,.int .i64 0])∧Duo w0 w' a m LA LM { A with H:=A.H.setF o f v } M:=by
 refine (astore_ok a LA A k i f j o g v w h.ar hm hi hj hr hvv hc hf hv hb).mono ?_
 rintro e w' ⟨rfl,hk1,ha⟩
 exact⟨rfl,h.arena hk1 (fun y hy=>.inl hy) ha rfl⟩
theorem duo_drop (h:Duo w0 w a m LA LM A M) (k i:Nat) (hm:k<A.many) (hi:i<(A.rt k).n):
 Calls Tryz.prog 52 #[.pointer (some ⟨a,0,none⟩),.int .i64 k,.int .i64 i] w fun e w'=>e = .returned (.tuple #[((A.rt k).f i).val,.int .i64 0])∧Duo w0 w' a m LA LM (A.setRt k ((A.rt k).drop i)) M:=by
 refine (adrop_ok a LA A k i w h.ar hm hi).mono ?_
 rintro e w' ⟨rfl,hk1,ha⟩
 exact⟨rfl,h.arena hk1 (fun y hy=>.inr (.inr ⟨k,hm,hy⟩)) ha rfl⟩
theorem duo_begin (h:Duo w0 w a m LA LM A M) (hp:M.K.ph=0):
 Calls Tryz.prog 53 #[.pointer (some ⟨m,0,none⟩)] w fun e w'=>e = .returned (.int .i64 0)∧Duo w0 w' a m LA LM A { M with K:=M.K.to 1 }:=by
 refine (mbegin_ok m LM M w h.mm hp).mono ?_
 rintro e w' ⟨rfl,hk1,ha⟩
 exact⟨rfl,h.marker hk1 (fun y hy=>.inl hy) ha rfl⟩
theorem duo_ack1 (h:Duo w0 w a m LA LM A M) (hn:A.H.T.n=M.P.n) (hm:A.many=M.K.many) (i:Nat) (hi:i<M.K.many) (hp:M.K.ph=1∨M.K.ph=2∧M.K.seen i=true):
 Calls Tryz.prog 54 #[.pointer (some ⟨m,0,none⟩),.pointer (some ⟨a,0,none⟩),.int .i64 i] w fun e w'=>e = .returned (.tuple #[.bool (!M.K.seen i),.int .i64 0])∧Duo w0 w' a m LA LM A { M with K:=M.K.ack i }:=by
 refine (mack_plain m a i LM M LA A w h.mm h.ar hn hm hi hp).mono ?_
 rintro e w' ⟨rfl,hk1,ha⟩
 exact⟨rfl,h.marker hk1 (fun y hy=>.inl hy) ha rfl⟩
theorem duo_ack2 (h:Duo w0 w a m LA LM A M) (hn:A.H.T.n=M.P.n) (hm:A.many=M.K.many) (i:Nat) (hi:i<M.K.many) (hp:M.K.ph=2) (hs:M.K.seen i=false):
 Calls Tryz.prog 54 #[.pointer (some ⟨m,0,none⟩),.pointer (some ⟨a,0,none⟩),.int .i64 i] w fun e w'=>e = .returned (.tuple #[.bool true,.int .i64 0])∧Duo w0 w' a m LA LM A (Mk.shade { M with K:=M.K.ack i } ((hres A.H (A.rt i).l).map (·.s))):=by
 refine (mack_roots m a i LM M LA A w h.mm h.ar hn hm hi hp hs (fun {W W'} hA hk=>h.hsep (fun y hy=>.inl hy) hA hk)).mono ?_
 rintro e w' ⟨rfl,hk1,ha⟩
 exact⟨rfl,h.marker hk1 (fun y hy=>by rcases hy with h | h | h;exact .inl h;exact .inr (.inl h);exact .inr (.inr (.inl h))) ha rfl⟩
theorem duo_go4 (h:Duo w0 w a m LA LM A M) (hp:M.K.ph=4) (hcy:M.K.cy<4611686018427387904):
 Calls Tryz.prog 56 #[.pointer (some ⟨m,0,none⟩)] w fun e w'=>e = .returned (.int .i64 0)∧Duo w0 w' a m LA LM A { M with K:=M.K.go }:=by
 refine (mgo_mid m LM M w h.mm hp hcy).mono ?_
 rintro e w' ⟨rfl,hk1,ha⟩
 exact⟨rfl,h.marker hk1 (fun y hy=>.inl hy) ha rfl⟩
theorem duo_go5 (h:Duo w0 w a m LA LM A M) (hp:M.K.ph=5) (hcy:M.K.cy<4611686018427387904) (hb0:∀ j,j<M.K.many→(M.B j).n=0):
 Calls Tryz.prog 56 #[.pointer (some ⟨m,0,none⟩)] w fun e w'=>e = .returned (.int .i64 0)∧Duo w0 w' a m LA LM A M.ended:=by
 refine (mgo_end m LM M w h.mm hp hcy hb0).mono ?_
 rintro e w' ⟨rfl,hk1,ha⟩
 exact⟨rfl,h.marker hk1 (fun y hy=>hy) ha rfl⟩
theorem duo_marked (h:Duo w0 w a m LA LM A M) (i:Nat) (hi:i<M.P.n):
 Calls Tryz.prog 34 #[.pointer (some ⟨m,0,none⟩),.int .i64 i] w fun e w'=>e = .returned (.tuple #[.bool (!(M.P.c i == 0)),.int .i64 0])∧Duo w0 w' a m LA LM A M:=by
 refine (mmarked_ok m LM M i w h.mm hi).mono ?_
 rintro e w' ⟨rfl,hk1⟩
 exact⟨rfl,h.same hk1⟩
theorem duo_shake0 (h:Duo w0 w a m LA LM A M) (hn:A.H.T.n=M.P.n) (hm:A.many=M.K.many) (hp:M.K.ph=1) (hr:M.K.ready=false):
 Calls Tryz.prog 28 #[.pointer (some ⟨m,0,none⟩),.pointer (some ⟨a,0,none⟩)] w fun e w'=>e = .returned (.int .i64 0)∧Duo w0 w' a m LA LM A M:=by
 refine mstep_of m a 1 166 LM M LA A _ w h.mm h.ar hn hm hp (by intro w;unfold stepsV;kernel_rfl) (enters_of Tryz.func166 (by kernel_rfl) rfl) ?_
 intro W hk
 have hW:=h.same hk
 refine (mshake_wait m a LM M W hW.mm hr).mono ?_
 rintro e w' ⟨rfl,hk'⟩
 have hd:=hW.same hk'
 exact⟨rfl,hd,(cells6 hd.mm.own).2.2.1⟩
theorem duo_shake (h:Duo w0 w a m LA LM A M) (hn:A.H.T.n=M.P.n) (hm:A.many=M.K.many) (hg:A.gl=fun _=>.no) (hp:M.K.ph=1) (hr:M.K.all=true) (hcy:M.K.cy<4611686018427387904):
 Calls Tryz.prog 28 #[.pointer (some ⟨m,0,none⟩),.pointer (some ⟨a,0,none⟩)] w fun e w'=>e = .returned (.int .i64 0)∧Duo w0 w' a m LA LM A { M with K:=M.K.go }:=by
 refine mstep_of m a 1 166 LM M LA A _ w h.mm h.ar hn hm hp (by intro w;unfold stepsV;kernel_rfl) (enters_of Tryz.func166 (by kernel_rfl) rfl) ?_
 intro W hk
 have hW:=h.same hk
 refine (mshake_ok m a LM M LA A W hW.mm hW.ar hn hg hp hr hcy (fun {W W'} hA hk=>h.hsep (fun y hy=>.inl hy) hA hk)).mono ?_
 rintro e w' ⟨rfl,hk',hm'⟩
 have hd:=hW.marker hk' (fun y hy=>by rcases hy with h | h | h;exact .inl h;exact .inr (.inl h);exact .inr (.inr (.inl h))) hm' rfl
 exact⟨rfl,hd,(cells6 hd.mm.own).2.2.1⟩
theorem duo_roots (h:Duo w0 w a m LA LM A M) (hn:A.H.T.n=M.P.n) (hm:A.many=M.K.many) (hp:M.K.ph=2) (hr:M.K.all=true) (hcy:M.K.cy<4611686018427387904):
 Calls Tryz.prog 28 #[.pointer (some ⟨m,0,none⟩),.pointer (some ⟨a,0,none⟩)] w fun e w'=>e = .returned (.int .i64 0)∧Duo w0 w' a m LA LM A { M with K:=M.K.go }:=by
 refine mstep_of m a 2 167 LM M LA A _ w h.mm h.ar hn hm hp (by intro w;unfold stepsV;kernel_rfl) (enters_of Tryz.func167 (by kernel_rfl) rfl) ?_
 intro W hk
 have hW:=h.same hk
 refine (mroots_ok m a LM M W hW.mm hp hr hcy).mono ?_
 rintro e w' ⟨rfl,hk',hm'⟩
 have hd:=hW.marker hk' (fun y hy=>.inl hy) hm' rfl
 exact⟨rfl,hd,(cells6 hd.mm.own).2.2.1⟩
theorem duo_scan (h:Duo w0 w a m LA LM A M) (hn:A.H.T.n=M.P.n) (hm:A.many=M.K.many) (i:Nat) (hb0:∀ j,j<M.K.many→(M.B j).n=0) (hp:M.K.ph=3)
 (hs0:0<M.S.n) (hsi:M.S.f (M.S.n - 1)=i) (hi:i<A.H.T.n) (hst:A.H.T.st i=1) (hc:M.P.c i=1):
 Calls Tryz.prog 28 #[.pointer (some ⟨m,0,none⟩),.pointer (some ⟨a,0,none⟩)] w fun e w'=>e = .returned (.int .i64 0)∧Duo w0 w' a m LA LM A (Mk.scan { M with S:=M.S.pop } A.H i):=by
 refine mstep_of m a 3 168 LM M LA A _ w h.mm h.ar hn hm hp (by intro w;unfold stepsV;kernel_rfl) (enters_of Tryz.func168 (by kernel_rfl) rfl) ?_
 intro W hk
 have hW:=h.same hk
 refine (mtrace_scan m a i LM M LA A W hW.mm hW.ar hn hb0 hs0 hsi hi hst hc (fun {W W'} hA hk=>h.hsep (fun y hy=>hy) hA hk)).mono ?_
 rintro e w' ⟨rfl,hk',hm'⟩
 have hd:=hW.marker hk' (fun y hy=>hy) hm' rfl
 exact⟨rfl,hd,(cells6 hd.mm.own).2.2.1⟩
theorem duo_end (h:Duo w0 w a m LA LM A M) (hn:A.H.T.n=M.P.n) (hm:A.many=M.K.many) (hb0:∀ j,j<M.K.many→(M.B j).n=0) (hp:M.K.ph=3)
 (hs0:M.S.n=0) (hgr:M.P.gr M.P.n=[]) (hcy:M.K.cy<4611686018427387904):
 Calls Tryz.prog 28 #[.pointer (some ⟨m,0,none⟩),.pointer (some ⟨a,0,none⟩)] w fun e w'=>e = .returned (.int .i64 0)∧Duo w0 w' a m LA LM A { M with K:=M.K.go }:=by
 refine mstep_of m a 3 168 LM M LA A _ w h.mm h.ar hn hm hp (by intro w;unfold stepsV;kernel_rfl) (enters_of Tryz.func168 (by kernel_rfl) rfl) ?_
 intro W hk
 have hW:=h.same hk
 refine (mtrace_end m a LM M W hW.mm hb0 hs0 hgr hp hcy).mono ?_
 rintro e w' ⟨rfl,hk',hm'⟩
 have hd:=hW.marker hk' (fun y hy=>hy) hm' rfl
 exact⟨rfl,hd,(cells6 hd.mm.own).2.2.1⟩
end
end Go.Proofs.YtnlkfbndlngjaaaGreat
namespace Go.Proofs.YtnlkfbndlngjaaaGreat
open Go.RowKit
def wA1:Ar:=(Ar.new 4 1 1).made 0 0 1 (Ob.new 1 false)
def wA2:Ar:=wA1.made 0 1 1 (Ob.new 0 false)
def wA3:Ar:={ wA2 with H:=wA2.H.setF 0 0 ⟨1,1⟩ }
def wA4:Ar:=wA3.setRt 0 ((wA3.rt 0).drop 1)
def wA5:Ar:=wA4.made 0 2 1 (Ob.new 0 false)
def wA6:Ar:=wA5.setRt 0 ((wA5.rt 0).drop 1)
def wM0:Mk:=Mk.new 4 1 1 1
def wM1:Mk:={ wM0 with K:=wM0.K.to 1 }
def wM2:Mk:={ wM1 with K:=wM1.K.ack 0 }
def wM3:Mk:={ wM2 with K:=wM2.K.go }
def wM4:Mk:=Mk.shade { wM3 with K:=wM3.K.ack 0 } ((hres wA6.H (wA6.rt 0).l).map (·.s))
def wM5:Mk:={ wM4 with K:=wM4.K.ack 0 }
def wM6:Mk:={ wM5 with K:=wM5.K.go }
def wM7:Mk:=Mk.scan { wM6 with S:=wM6.S.pop } wA6.H 0
def wM8:Mk:=Mk.scan { wM7 with S:=wM7.S.pop } wA6.H 1
def wM9:Mk:={ wM8 with K:=wM8.K.go }
def wM10:Mk:={ wM9 with K:=wM9.K.go }
def wM11:Mk:=wM10.ended
theorem wB_ (M:Mk) (h:M.B=wM0.B) (j:Nat) (_:j<M.K.many):(M.B j).n=0:=by rw [h];rfl
theorem wf1:(Ar.new 4 1 1).H.T.inn 0 (Ar.new 4 1 1).H.T.n=(0,1) :: [(1,1),(2,1),(3,1)]:=rfl
theorem wf2:wA1.H.T.inn 0 wA1.H.T.n=(1,1) :: [(2,1),(3,1)]:=rfl
theorem wf5:wA4.H.T.inn 0 wA4.H.T.n=(2,1) :: [(3,1)]:=rfl
theorem wf3:ckV wA2.H.T 0 1=0∧ckV wA2.H.T 1 1=0:=⟨rfl,rfl⟩
end Go.Proofs.YtnlkfbndlngjaaaGreat
namespace Go.Proofs.YtnlkfbndlngjaaaGreat
open Go.RowKit
def wS:Nat→Mk
 | 0=>wM5
 | 1=>wM6
 | 2=>wM7
 | 3=>wM8
 | _=>wM9
theorem wS_step {w0 w:World} {a m:Nat} {LA:ArL} {LM:MkL} (j:Nat) (hj:j<4) (h:Duo w0 w a m LA LM wA6 (wS j)):
 Calls Tryz.prog 28 #[.pointer (some ⟨m,0,none⟩),.pointer (some ⟨a,0,none⟩)] w fun e w'=>e = .returned (.int .i64 0)∧Duo w0 w' a m LA LM wA6 (wS (j+1)):=by
 match j,hj with
 | 0,_=>exact duo_roots (M:=wM5) h rfl rfl rfl rfl (by decide)
 | 1,_=>exact duo_scan (M:=wM6) h rfl rfl 0 (fun j hj=>wB_ wM6 rfl j hj) rfl (by decide) rfl (by decide) rfl rfl
 | 2,_=>exact duo_scan (M:=wM7) h rfl rfl 1 (fun j hj=>wB_ wM7 rfl j hj) rfl (by decide) rfl (by decide) rfl rfl
 | 3,_=>exact duo_end (M:=wM8) h rfl rfl (fun j hj=>wB_ wM8 rfl j hj) rfl rfl rfl (by decide)
theorem works24 (w:World):Calls Tryz.prog 20 #[] w fun e w'=>e = .returned (.bool true)∧Keeps (fun _=>False) w w':=by
 go_enter Tryz.func20,Tryz.ntmps20
 go_wp2_with fail
 refine (anew_ok 4 1 1 w (by omega) (by omega) (by omega) (by omega) (by omega) (by omega)).mono ?_
 rintro e w1 ⟨a,rfl,k1,ha⟩
 have HK1:=hid k1;have HA:=hid ha
 clear k1 ha
 go_wp2_with fail
 refine (mnew_ok 4 1 1 1 w1 (by omega) (by omega) (by omega) (by omega) (by omega) (by omega) (by omega) (by omega)).mono ?_
 rintro e w2 ⟨rfl,k2,LM,hm,bm⟩
 obtain⟨LA,hd⟩:=Duo.new HK1.out HA.out k2 hm bm
 obtain⟨m,hmm⟩:∃ m,w1.heap.size=m:=⟨_,rfl⟩
 rw [hmm] at hd ⊢
 have H0:=hid (show Duo w w2 a m LA LM (Ar.new 4 1 1) wM0 from hd)
 clear hd k2 hm bm hmm HA HK1
 go_wp2_with fail
 refine (duo_make H0.out 0 1 false 0 1 _ (by decide) ⟨by decide,by decide,fun h=>by cases h⟩ wf1 (by decide) (by decide) (by decide)).mono ?_
 rintro e w3 ⟨rfl,hd⟩
 have H1:=hid (show Duo w w3 a m LA LM wA1 wM0 from hd)
 clear hd H0
 go_wp2_with fail
 refine (duo_make H1.out 0 0 false 1 1 _ (by decide) ⟨by decide,by decide,fun h=>by cases h⟩ wf2 (by decide) (by decide) (by decide)).mono ?_
 rintro e w4 ⟨rfl,hd⟩
 have H2:=hid (show Duo w w4 a m LA LM wA2 wM0 from hd)
 clear hd H1
 go_wp2_with fail
 refine (duo_store H2.out 0 0 0 1 0 1 ⟨1,1⟩ (by decide) (by decide) (by decide) rfl rfl wf3.1 (by decide) wf3.2 (by decide)).mono ?_
 rintro e w5 ⟨rfl,hd⟩
 have H3:=hid (show Duo w w5 a m LA LM wA3 wM0 from hd)
 clear hd H2
 go_wp2_with fail
 refine (duo_drop H3.out 0 1 (by decide) (by decide)).mono ?_
 rintro e w6 ⟨rfl,hd⟩
 have H4:=hid (show Duo w w6 a m LA LM wA4 wM0 from hd)
 clear hd H3
 go_wp2_with fail
 refine (duo_make H4.out 0 0 false 2 1 _ (by decide) ⟨by decide,by decide,fun h=>by cases h⟩ wf5 (by decide) (by decide) (by decide)).mono ?_
 rintro e w7 ⟨rfl,hd⟩
 have H5:=hid (show Duo w w7 a m LA LM wA5 wM0 from hd)
 clear hd H4
 go_wp2_with fail
 refine (duo_drop H5.out 0 1 (by decide) (by decide)).mono ?_
 rintro e w8 ⟨rfl,hd⟩
 have H6:=hid (show Duo w w8 a m LA LM wA6 wM0 from hd)
 clear hd H5
 go_wp2_with fail
 refine (duo_begin H6.out rfl).mono ?_
 rintro e w9 ⟨rfl,hd⟩
 have H7:=hid (show Duo w w9 a m LA LM wA6 wM1 from hd)
 clear hd H6
 go_wp2_with fail
 refine (duo_shake0 H7.out rfl rfl rfl rfl).mono ?_
 rintro e w10 ⟨rfl,hd⟩
 have H8:=hid (show Duo w w10 a m LA LM wA6 wM1 from hd)
 clear hd H7
 go_wp2_with fail
 refine (show Calls Tryz.prog 27 _ _ (fun e w'=>e = .returned (.int .i64 1)∧w'=w10) from mphase m LM wM1 w10 H8.out.mm).mono ?_
 rintro e w' ⟨rfl,h'⟩
 obtain rfl:=h'.symm
 go_wp2_with fail
 refine (show Calls Tryz.prog 54 _ _ (fun e w'=>e = .returned (.tuple #[.bool true,.int .i64 0])∧Duo w w' a m LA LM wA6 wM2) from duo_ack1 H8.out rfl rfl 0 (by decide) (.inl rfl)).mono ?_
 rintro e w11 ⟨rfl,hd⟩
 have H9:=hid (show Duo w w11 a m LA LM wA6 wM2 from hd)
 clear hd H8
 go_wp2_with fail
 refine (duo_shake H9.out rfl rfl rfl rfl rfl (by decide)).mono ?_
 rintro e w12 ⟨rfl,hd⟩
 have H10:=hid (show Duo w w12 a m LA LM wA6 wM3 from hd)
 clear hd H9
 go_wp2_with fail
 refine (duo_ack2 H10.out rfl rfl 0 (by decide) rfl rfl).mono ?_
 rintro e w13 ⟨rfl,hd⟩
 have H11:=hid (show Duo w w13 a m LA LM wA6 wM4 from hd)
 clear hd H10
 go_wp2_with fail
 refine (show Calls Tryz.prog 54 _ _ (fun e w'=>e = .returned (.tuple #[.bool false,.int .i64 0])∧Duo w w' a m LA LM wA6 wM5) from duo_ack1 H11.out rfl rfl 0 (by decide) (.inr ⟨rfl,rfl⟩)).mono ?_
 rintro e w14 ⟨rfl,hd⟩
 have H12:=hid (show Duo w w14 a m LA LM wA6 wM5 from hd)
 clear hd H11
 go_wp2_with fail
 refine (show Calls Tryz.prog 27 _ _ (fun e w'=>e = .returned (.int .i64 2)∧w'=w14) from mphase m LM wM5 w14 H12.out.mm).mono ?_
 rintro e w' ⟨rfl,h'⟩
 obtain rfl:=h'.symm
 go_wp2_with fail
 go_loopw [11] (fun ix wr=>∃ j:Nat,j≤4∧ix = .int .i64 j∧Duo w wr a m LA LM wA6 (wS j)) (fun ix _=>4 - (intOf ix).toNat)
 case atStart=>exact⟨0,by omega,rfl,H12.out⟩
 case round=>
  obtain⟨j,hj,rfl,hd⟩:=hrel
  have HD:=hid hd
  clear hd H12
  by_cases hlt:j<4
  ·have hlt':(j:Int)<4:=by omega
   have hj0:(0:Int)≤j:=by omega
   go_wp2_with fail
   refine (wS_step j hlt HD.out).mono ?_
   rintro e w15 ⟨rfl,hd⟩
   have HE:=hid hd
   clear hd HD
   go_wp2_with fail
   exact⟨⟨j+1,by omega,by go_num,HE.out⟩,by simp [intOf];omega⟩
  ·obtain rfl:j=4:=by omega
   have hlt':¬ ((4:Nat):Int)<4:=by omega
   have H16:=hid (show Duo w wr a m LA LM wA6 wM9 from HD.out)
   clear HD
   go_wp2_with fail
   refine (show Calls Tryz.prog 34 _ _ (fun e w'=>e = .returned (.tuple #[.bool true,.int .i64 0])∧Duo w w' a m LA LM wA6 wM9) from duo_marked H16.out 0 (by decide)).mono ?_
   rintro e w17 ⟨rfl,hd⟩
   have H17:=hid hd
   clear hd H16
   go_wp2_with fail
   refine (show Calls Tryz.prog 34 _ _ (fun e w'=>e = .returned (.tuple #[.bool true,.int .i64 0])∧Duo w w' a m LA LM wA6 wM9) from duo_marked H17.out 1 (by decide)).mono ?_
   rintro e w18 ⟨rfl,hd⟩
   have H18:=hid hd
   clear hd H17
   go_wp2_with fail
   refine (show Calls Tryz.prog 34 _ _ (fun e w'=>e = .returned (.tuple #[.bool false,.int .i64 0])∧Duo w w' a m LA LM wA6 wM9) from duo_marked H18.out 2 (by decide)).mono ?_
   rintro e w19 ⟨rfl,hd⟩
   have H19:=hid hd
   clear hd H18
   go_wp2_with fail
   refine (show Calls Tryz.prog 27 _ _ (fun e w'=>e = .returned (.int .i64 4)∧w'=w19) from mphase m LM wM9 w19 H19.out.mm).mono ?_
   rintro e w' ⟨rfl,h'⟩
   obtain rfl:=h'.symm
   go_wp2_with fail
   refine (show Calls Tryz.prog 55 _ _ (fun e w'=>e = .returned (.bool true)∧w'=w19) from mended m LM wM9 w19 H19.out.mm).mono ?_
   rintro e w' ⟨rfl,h'⟩
   obtain rfl:=h'.symm
   go_wp2_with fail
   refine (duo_go4 H19.out rfl (by decide)).mono ?_
   rintro e w20 ⟨rfl,hd⟩
   have H20:=hid (show Duo w w20 a m LA LM wA6 wM10 from hd)
   clear hd H19
   go_wp2_with fail
   refine (duo_go5 H20.out rfl (by decide) (fun j hj=>wB_ wM10 rfl j hj)).mono ?_
   rintro e w21 ⟨rfl,hd⟩
   have H21:=hid (show Duo w w21 a m LA LM wA6 wM11 from hd)
   clear hd H20
   go_wp2_with fail
   refine (show Calls Tryz.prog 27 _ _ (fun e w'=>e = .returned (.int .i64 0)∧w'=w21) from mphase m LM wM11 w21 H21.out.mm).mono ?_
   rintro e w' ⟨rfl,h'⟩
   obtain rfl:=h'.symm
   go_wp2_with fail
   refine (show Calls Tryz.prog 57 _ _ (fun e w'=>e = .returned (.int .i64 1)∧w'=w21) from mcycles m LM wM11 w21 H21.out.mm).mono ?_
   rintro e w' ⟨rfl,h'⟩
   obtain rfl:=h'.symm
   go_wp2_with fail
   go_ret
   exact⟨rfl,H21.out.kp⟩
end Go.Proofs.YtnlkfbndlngjaaaGreat
