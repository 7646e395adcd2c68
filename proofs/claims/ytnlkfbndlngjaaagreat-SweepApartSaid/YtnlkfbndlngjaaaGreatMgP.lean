import Derived.Test.YtnlkfbndlngjaaaGreatMgO
namespace Go.Proofs.YtnlkfbndlngjaaaGreat
open Go.RowKit
structure Duo (w0 w:World) (a m:Nat) (LA:ArL) (LM:MkL) (A:Ar) (M:Mk):Prop where
 ar:ArIn w a LA A
 mm:MkIn w m LM M
 kp:Keeps (fun _=>False) w0 w
 sep:∃ l1 h1 l2 h2,w0.heap.size≤l1∧w0.heap.size≤l2∧(h1≤l2∨h2≤l1)∧LA.Btw a A.many l1 h1∧LM.Btw m M.K.many l2 h2
theorem Duo.same {w0 w w':World} {a m:Nat} {LA:ArL} {LM:MkL} {A:Ar} {M:Mk} (h:Duo w0 w a m LA LM A M) (hk:Keeps (fun _=>False) w w'):Duo w0 w' a m LA LM A M:=
 ⟨h.ar.keeps0 hk,h.mm.keeps0 hk,h.kp.trans hk,h.sep⟩
theorem Duo.arena {w0 w w':World} {a m:Nat} {LA:ArL} {LM:MkL} {A A':Ar} {M:Mk} {S:Nat→Prop} (h:Duo w0 w a m LA LM A M) (hk:Keeps S w w') (hS:∀ y,S y→y=LA.b∨y=LA.t∨∃ k,k<A.many∧y=LA.ss k) (ha:ArIn w' a LA A') (hm:A'.many=A.many):Duo w0 w' a m LA LM A' M:=by
 obtain⟨h1,h2,h3,l1,u1,l2,u2,e1,e2,e3,ba,bm⟩:=h
 have hr:∀ y,S y→l1≤y∧y<u1:=by
  intro y hy
  rcases hS y hy with rfl | rfl | ⟨k,hk,rfl⟩
  ·exact ba.b
  ·exact ba.t
  ·exact ba.ss k hk
 refine⟨ha,h2.keeps hk ?_ ?_ ?_ ?_ ?_ ?_,h3.trans' hk (fun _ _ h=>h) (fun y hy h=>by have:=(hr y h).1;omega),l1,u1,l2,u2,e1,e2,e3,by rw [hm];exact ba,bm⟩
 ·intro h;have:=hr _ h;have:=bm.m;omega
 ·intro h;have:=hr _ h;have:=bm.c;omega
 ·intro h;have:=hr _ h;have:=bm.p;omega
 ·intro h;have:=hr _ h;have:=bm.s;omega
 ·intro h;have:=hr _ h;have:=bm.rb;omega
 ·intro j hj h;have:=hr _ h;have:=bm.bb j hj;omega
theorem Duo.hsep {w0 w:World} {a m:Nat} {LA:ArL} {LM:MkL} {A:Ar} {M:Mk} {S:Nat→Prop} (h:Duo w0 w a m LA LM A M) (hS:∀ y,S y→LM.foot M.K.many y) {W W':World} (hA:ArIn W a LA A) (hk:Keeps S W W'):ArIn W' a LA A:=by
 obtain⟨h1,h2,h3,l1,u1,l2,u2,e1,e2,e3,ba,bm⟩:=h
 have hr:∀ y,S y→l2≤y∧y<u2:=by
  intro y hy
  rcases hS y hy with rfl | rfl | rfl | ⟨k,hk,rfl⟩
  ·exact bm.c
  ·exact bm.p
  ·exact bm.s
  ·exact bm.bb k hk
 refine hA.keeps hk ?_ ?_ ?_ ?_ ?_ ?_
 ·intro h;have:=hr _ h;have:=ba.a;omega
 ·intro h;have:=hr _ h;have:=ba.o;omega
 ·intro h;have:=hr _ h;have:=ba.b;omega
 ·intro h;have:=hr _ h;have:=ba.t;omega
 ·intro h;have:=hr _ h;have:=ba.g;omega
 ·intro j hj h;have:=hr _ h;have:=ba.ss j hj;omega
theorem Duo.marker {w0 w w':World} {a m:Nat} {LA:ArL} {LM:MkL} {A:Ar} {M M':Mk} {S:Nat→Prop} (h:Duo w0 w a m LA LM A M) (hk:Keeps S w w') (hS:∀ y,S y→LM.foot M.K.many y) (hm:MkIn w' m LM M') (hK:M'.K.many=M.K.many):Duo w0 w' a m LA LM A M':=by
 have ha:=h.hsep hS h.ar hk
 obtain⟨h1,h2,h3,l1,u1,l2,u2,e1,e2,e3,ba,bm⟩:=h
 refine⟨ha,hm,h3.trans' hk (fun _ _ h=>h) (fun y hy h=>?_),l1,u1,l2,u2,e1,e2,e3,ba,by rw [hK];exact bm⟩
 rcases hS y h with rfl | rfl | rfl | ⟨k,hk,rfl⟩
 ·have:=bm.c.1;omega
 ·have:=bm.p.1;omega
 ·have:=bm.s.1;omega
 ·have:=(bm.bb k hk).1;omega
theorem Duo.new {w0 w1 w2:World} {a m:Nat} {LM:MkL} {A:Ar} {M:Mk} (k1:Keeps (fun _=>False) w0 w1) (ha:ArAt w1 a w0.heap.size w1.heap.size A) (k2:Keeps (fun _=>False) w1 w2) (hm:MkIn w2 m LM M) (bm:LM.Btw m M.K.many w1.heap.size w2.heap.size):
 ∃ LA,Duo w0 w2 a m LA LM A M:=by
 obtain⟨LA,ha,ba⟩:=ha
 exact⟨LA,ha.keeps0 k2,hm,k1.trans k2,_,_,_,_,Nat.le_refl _,k1.size,.inl (Nat.le_refl _),ba,bm⟩
section
variable {w0 w:World} {a m:Nat} {LA:ArL} {LM:MkL} {A:Ar} {M:Mk}
end
end Go.Proofs.YtnlkfbndlngjaaaGreat
namespace Go.Proofs.YtnlkfbndlngjaaaGreat
open Go.RowKit
theorem wf1:(Ar.new 4 1 1).H.T.inn 0 (Ar.new 4 1 1).H.T.n=(0,1) :: [(1,1),(2,1),(3,1)]:=rfl
end Go.Proofs.YtnlkfbndlngjaaaGreat
namespace Go.Proofs.YtnlkfbndlngjaaaGreat
open Go.RowKit
end Go.Proofs.YtnlkfbndlngjaaaGreat
