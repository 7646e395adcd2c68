import Derived.Test.YtnlkfbndlngjaaaGreatKqA
namespace Go.Proofs.YtnlkfbndlngjaaaGreat
open Go.RowKit
set_option linter.unusedVariables false
set_option linter.unusedSimpArgs false
def Sys.swp (s:Sys):Nat→Sys
 | 0=>s
 | i+1=>((Sw.mk 0 i 0).stepR (s.swp i)).s
def Sys.swn (s:Sys):Nat→Nat
 | 0=>0
 | i+1=>s.swn i+if ((Sw.mk 0 i 0).stepR (s.swp i)).is=true then 1 else 0
theorem stepR_of (n k c:Nat) (s:Sys):((Sw.mk n k c).stepR s).s=((Sw.mk 0 k 0).stepR s).s∧((Sw.mk n k c).stepR s).S=⟨n,k+1,c+if ((Sw.mk 0 k 0).stepR s).is=true then 1 else 0⟩∧((Sw.mk n k c).stepR s).is=((Sw.mk 0 k 0).stepR s).is:=by
 unfold Sw.stepR
 dsimp only
 split
 ·exact⟨rfl,rfl,rfl⟩
 ·exact⟨rfl,rfl,rfl⟩
theorem swp_step (s:Sys) (n i:Nat):((Sw.mk n i (s.swn i)).stepR (s.swp i)).s=s.swp (i+1)∧((Sw.mk n i (s.swn i)).stepR (s.swp i)).S=⟨n,i+1,s.swn (i+1)⟩:=
 ⟨(stepR_of n i _ _).1,(stepR_of n i _ _).2.1⟩
theorem free_st {s:Sys} (h:s.Ok) {i:Nat} (hi:i<s.A.H.T.n) (hs:s.A.H.T.st i=1) (hc:s.M.P.c i=0):(s.free i).M=s.M∧(s.free i).A.H.T.st i≠1∧∀ j,j≠i→(s.free i).A.H.T.st j=s.A.H.T.st j:=by
 refine⟨?_,?_,?_⟩
 ·have hp:s.M.P.put i 0=s.M.P:=by
   unfold Pt.put
   have:updf s.M.P.c i 0=s.M.P.c:=by
    funext j
    by_cases ej:j=i
    ·subst ej;rw [updf_same,hc]
    ·rw [updf_ne _ _ ej]
   rw [this]
  rw [Sys.free_M (s:=s) (by rw [← h.n];exact hi),hp]
 ·have e:(s.free i).A.H.T=s.A.H.T.give i:=by
   show (s.A.H.freeR ⟨i,s.A.H.T.gn i⟩).1.T=_
   unfold Hp.freeR
   rw [if_neg (by rw [Decidable.not_not];exact ckV_tk hi hs)]
   show s.A.H.T.give (Int.toNat (i:Int))=_
   rw [Int.toNat_natCast]
  rw [e]
  unfold Tb.give Tb.put
  split <;> simp [upd]
 ·intro j hj
  have e:(s.free i).A.H.T=s.A.H.T.give i:=by
   show (s.A.H.freeR ⟨i,s.A.H.T.gn i⟩).1.T=_
   unfold Hp.freeR
   rw [if_neg (by rw [Decidable.not_not];exact ckV_tk hi hs)]
   show s.A.H.T.give (Int.toNat (i:Int))=_
   rw [Int.toNat_natCast]
  rw [e]
  unfold Tb.give Tb.put
  split <;> simp [upd,hj]
structure Swept (s:Sys) (i:Nat):Prop where
 ok:(s.swp i).Ok
 M:(s.swp i).M=s.M
 many:(s.swp i).A.many=s.A.many
 n:(s.swp i).A.H.T.n=s.A.H.T.n
 gone:∀ j,j<i→s.M.P.c j≠0∨(s.swp i).A.H.T.st j≠1
 cnt:s.swn i≤i
theorem swept {s:Sys} (h:s.Ok):∀ i,i≤s.M.P.n→Swept s i
 | 0,_=>⟨h,rfl,rfl,rfl,fun j hj=>by omega,Nat.le_refl _⟩
 | i+1,hi=>by
  have ih:=swept h i (by omega)
  have hcnt:s.swn (i+1)≤i+1:=by
   have:=ih.cnt
   show s.swn i+(if _ then 1 else 0)≤_
   split <;> omega
  by_cases hc:(s.swp i).M.P.c i≠0∨(s.swp i).A.H.T.st i≠1
  ·have e:s.swp (i+1)=s.swp i:=by
    show ((Sw.mk 0 i 0).stepR (s.swp i)).s=_
    unfold Sw.stepR;dsimp only;rw [if_pos hc]
   refine⟨e ▸ ih.ok,e ▸ ih.M,e ▸ ih.many,e ▸ ih.n,fun j hj=>?_,hcnt⟩
   rw [e]
   rcases Nat.lt_succ_iff_lt_or_eq.1 hj with hj | rfl
   ·exact ih.gone j hj
   ·rw [← ih.M];exact hc
  ·have e:s.swp (i+1)=(s.swp i).free i:=by
    show ((Sw.mk 0 i 0).stepR (s.swp i)).s=_
    unfold Sw.stepR;dsimp only;rw [if_neg hc]
   have h0:(s.swp i).M.P.c i=0:=Decidable.not_not.1 (fun hx=>hc (.inl hx))
   have h1:(s.swp i).A.H.T.st i=1:=Decidable.not_not.1 (fun hx=>hc (.inr hx))
   have hin:i<(s.swp i).A.H.T.n:=by rw [ih.n,h.n];omega
   obtain⟨f1,f2,f3⟩:=free_st ih.ok hin h1 h0
   have fn:=Ar.freeR_n (s.swp i).A ⟨i,(s.swp i).A.H.T.gn i⟩
   refine⟨e ▸ ih.ok.free (by rw [← ih.ok.n];exact hin) h0,?_,?_,?_,fun j hj=>?_,hcnt⟩
   ·rw [e,f1,ih.M]
   ·rw [e];exact fn.2.trans ih.many
   ·rw [e];exact fn.1.trans ih.n
   ·rw [e]
    rcases Nat.lt_succ_iff_lt_or_eq.1 hj with hj | rfl
    ·rw [f3 j (by omega)];exact ih.gone j hj
    ·exact .inr f2
theorem Swept.chk {s:Sys} {n i:Nat} (h:Swept s i) (hok:s.Ok) (hn:s.M.P.n=n) (hp:s.M.K.ph=5) (hi:i<n) (c:Nat):(Sw.mk n i c).chk (s.swp i).A (s.swp i).M=0:=by
 unfold Sw.chk
 have h1:=h.n;have h2:=hok.n
 rw [h.M]
 dsimp only
 rw [if_neg (by omega),if_neg (by omega)]
theorem swp_again {s:Sys} (h:s.Ok) {k:Nat} (hk:k≤s.M.P.n):∀ i,i≤k→(s.swp k).swp i=s.swp k∧(s.swp k).swn i=0
 | 0,_=>⟨rfl,rfl⟩
 | i+1,hi=>by
  obtain⟨e1,e2⟩:=swp_again h hk i (by omega)
  have hs:=swept h k hk
  have hc:=hs.gone i (by omega)
  rw [← hs.M] at hc
  constructor
  ·show ((Sw.mk 0 i 0).stepR ((s.swp k).swp i)).s=_
   rw [e1];unfold Sw.stepR;dsimp only;rw [if_pos hc]
  ·show (s.swp k).swn i+(if ((Sw.mk 0 i 0).stepR ((s.swp k).swp i)).is=true then 1 else 0)=0
   rw [e1,e2];unfold Sw.stepR;dsimp only;rw [if_pos hc];rfl
theorem swp_rest {s:Sys} (h:s.Ok) {k:Nat} (hk:k≤s.M.P.n):∀ d,(s.swp k).swp (k+d)=s.swp (k+d)∧s.swn k+(s.swp k).swn (k+d)=s.swn (k+d)
 | 0=>by
  obtain⟨e1,e2⟩:=swp_again h hk k (Nat.le_refl _)
  exact⟨e1,by show s.swn k+(s.swp k).swn k=_;rw [e2];rfl⟩
 | d+1=>by
  obtain⟨e1,e2⟩:=swp_rest h hk d
  constructor
  ·show ((Sw.mk 0 (k+d) 0).stepR ((s.swp k).swp (k+d))).s=((Sw.mk 0 (k+d) 0).stepR (s.swp (k+d))).s
   rw [e1]
  ·show s.swn k+((s.swp k).swn (k+d)+(if ((Sw.mk 0 (k+d) 0).stepR ((s.swp k).swp (k+d))).is=true then 1 else 0))=s.swn (k+d)+(if ((Sw.mk 0 (k+d) 0).stepR (s.swp (k+d))).is=true then 1 else 0)
   rw [e1,← e2];omega
theorem swp_end {s:Sys} (h:s.Ok) {k:Nat} (hk:k≤s.M.P.n):(s.swp k).swp s.M.P.n=s.swp s.M.P.n∧s.swn k+(s.swp k).swn s.M.P.n=s.swn s.M.P.n:=by
 have:=swp_rest h hk (s.M.P.n - k)
 rwa [show k+(s.M.P.n - k)=s.M.P.n by omega] at this
structure TrioIn (w0 w:World) (N Z a m b:Nat) (LA:ArL) (LM:MkL) (s:Sys) (S:Sw):Prop where
 tr:Trio w0 w a m b LA LM s S
 la:LA.Btw a s.A.many N Z
 lm:LM.Btw m s.M.K.many N Z
 b1:N≤b
 b2:b<Z
theorem TrioIn.foot {w0 w:World} {N Z a m b:Nat} {LA:ArL} {LM:MkL} {s:Sys} {S:Sw} (h:TrioIn w0 w N Z a m b LA LM s S) (y:Nat) (hy:y=b∨foot2 LA LM s y):N≤y∧y<Z:=by
 have h1:=h.b1;have h2:=h.b2
 obtain⟨_,p2,p3,p4,p5,p6⟩:=h.la
 obtain⟨_,q2,q3,q4,q5,q6⟩:=h.lm
 rcases hy with rfl | (hy | hy)
 ·exact⟨h1,h2⟩
 ·rcases hy with rfl | rfl | rfl | ⟨k,hk,rfl⟩
  ·exact p3
  ·exact p4
  ·exact p5
  ·exact p6 k hk
 ·rcases hy with rfl | rfl | rfl | ⟨k,hk,rfl⟩
  ·exact q2
  ·exact q3
  ·exact q4
  ·exact q6 k hk
theorem TrioIn.other {w0 w w':World} {N Z a m b:Nat} {LA:ArL} {LM:MkL} {s:Sys} {S:Sw} {F:Nat→Prop} (h:TrioIn w0 w N Z a m b LA LM s S) (hk:Keeps F w w') (hF:∀ y,F y→y<N∨Z≤y) (hF0:∀ y,F y→w0.heap.size≤y):TrioIn w0 w' N Z a m b LA LM s S:=by
 have nf:∀ y,N≤y∧y<Z→¬ F y:=fun y hy hf=>by have:=hF y hf;omega
 obtain⟨⟨⟨ha,hm,hkp,hsep⟩,hs,hb⟩,la,lm,b1,b2⟩:=h
 refine⟨⟨⟨ha.keeps hk (nf _ la.a) (nf _ la.o) (nf _ la.b) (nf _ la.t) (nf _ la.g) (fun k hk=>nf _ (la.ss k hk)),hm.keeps hk (nf _ lm.m) (nf _ lm.c) (nf _ lm.p) (nf _ lm.s) (nf _ lm.rb) (fun k hk=>nf _ (lm.bb k hk)),?_,hsep⟩,hs.keeps hk (nf _ ⟨b1,b2⟩),hb⟩,la,lm,b1,b2⟩
 exact hkp.trans' hk (fun _ _ h=>h) (fun y hy hf=>by have:=hF0 y hf;omega)
theorem Trio.within {w0 w:World} {a m b:Nat} {LA:ArL} {LM:MkL} {s:Sys} {S:Sw} (h:Trio w0 w a m b LA LM s S):TrioIn w0 w w0.heap.size w.heap.size a m b LA LM s S:=by
 have h2:=h
 obtain⟨⟨ha,hm,hkp,l1,h1,l2,h2,g1,g2,_,ba,bm⟩,hs,hb⟩:=h2
 have ha2:=ha.btw;have hm2:=hm.btw
 have hbl:=lt_block hs.own
 refine⟨h,⟨?_,?_,?_,?_,?_,fun k hk=>?_⟩,⟨?_,?_,?_,?_,?_,fun k hk=>?_⟩,hb,hbl⟩
 ·exact⟨Nat.le_trans g1 ba.a.1,ha2.a.2⟩
 ·exact⟨Nat.le_trans g1 ba.o.1,ha2.o.2⟩
 ·exact⟨Nat.le_trans g1 ba.b.1,ha2.b.2⟩
 ·exact⟨Nat.le_trans g1 ba.t.1,ha2.t.2⟩
 ·exact⟨Nat.le_trans g1 ba.g.1,ha2.g.2⟩
 ·exact⟨Nat.le_trans g1 (ba.ss k hk).1,(ha2.ss k hk).2⟩
 ·exact⟨Nat.le_trans g2 bm.m.1,hm2.m.2⟩
 ·exact⟨Nat.le_trans g2 bm.c.1,hm2.c.2⟩
 ·exact⟨Nat.le_trans g2 bm.p.1,hm2.p.2⟩
 ·exact⟨Nat.le_trans g2 bm.s.1,hm2.s.2⟩
 ·exact⟨Nat.le_trans g2 bm.rb.1,hm2.rb.2⟩
 ·exact⟨Nat.le_trans g2 (bm.bb k hk).1,(hm2.bb k hk).2⟩
theorem TrioIn.step {w0 w:World} {N Z a m b:Nat} {LA:ArL} {LM:MkL} {s:Sys} {n i:Nat} (h:TrioIn w0 w N Z a m b LA LM (s.swp i) ⟨n,i,s.swn i⟩) (hok:s.Ok) (hn:s.M.P.n=n) (hp:s.M.K.ph=5) (hi:i<n):
 Calls Tryz.prog 8 #[.pointer (some ⟨b,0,none⟩),.pointer (some ⟨a,0,none⟩),.pointer (some ⟨m,0,none⟩)] w fun e w'=>∃ (r:Rf) (is:Bool),e = .returned (.tuple #[r.val,.bool is,.int .i64 0])∧TrioIn w0 w' N Z a m b LA LM (s.swp (i+1)) ⟨n,i+1,s.swn (i+1)⟩∧Keeps (fun y=>N≤y∧y<Z) w w':=by
 have hs:=swept hok i (by omega)
 have hs2:=swept hok (i+1) (by omega)
 refine (trio_step h.tr hs.ok (hs.chk hok hn hp hi _)).mono ?_
 rintro e w' ⟨rfl,ht,hk⟩
 obtain⟨e1,e2⟩:=swp_step s n i
 rw [e1,e2] at ht
 refine⟨_,_,rfl,⟨ht,?_,?_,h.b1,h.b2⟩,hk.mono (fun y _ hy=>h.foot y hy)⟩
 ·rw [hs2.many,← hs.many];exact h.la
 ·rw [hs2.M,← hs.M];exact h.lm
theorem TrioIn.mk' {w0 W:World} {N Z a m b l1 h1 l2 h2:Nat} {LA:ArL} {LM:MkL} {s:Sys} {S:Sw} (ha:ArIn W a LA s.A) (hm:MkIn W m LM s.M) (hs:SwAt W b S) (hk:Keeps (fun _=>False) w0 W) (la:LA.Btw a s.A.many l1 h1) (lm:LM.Btw m s.M.K.many l2 h2)
 (hd:h1≤l2∨h2≤l1) (n1:N≤l1) (n2:N≤l2) (z1:h1≤Z) (z2:h2≤Z) (b1:N≤b) (b2:b<Z) (h0:w0.heap.size≤N):TrioIn w0 W N Z a m b LA LM s S:=by
 have ua:∀ x,l1≤x∧x<h1→N≤x∧x<Z:=fun x hx=>by omega
 have um:∀ x,l2≤x∧x<h2→N≤x∧x<Z:=fun x hx=>by omega
 exact⟨⟨⟨ha,hm,hk,l1,h1,l2,h2,Nat.le_trans h0 n1,Nat.le_trans h0 n2,hd,la,lm⟩,hs,Nat.le_trans h0 b1⟩,⟨ua _ la.a,ua _ la.o,ua _ la.b,ua _ la.t,ua _ la.g,fun k hk=>ua _ (la.ss k hk)⟩,⟨um _ lm.m,um _ lm.c,um _ lm.p,um _ lm.s,um _ lm.rb,fun k hk=>um _ (lm.bb k hk)⟩,b1,b2⟩
theorem TrioIn.same {w0 w w':World} {N Z a m b:Nat} {LA:ArL} {LM:MkL} {s:Sys} {S:Sw} (h:TrioIn w0 w N Z a m b LA LM s S) (hk:Keeps (fun _=>False) w w'):TrioIn w0 w' N Z a m b LA LM s S:=
 h.other hk (fun _ h=>h.elim) (fun _ h=>h.elim)
end Go.Proofs.YtnlkfbndlngjaaaGreat
namespace Go.Proofs.YtnlkfbndlngjaaaGreat
open Go.RowKit
set_option linter.unusedVariables false
inductive Mo where
 | make (k:Nat) (n:Int) (h:Bool)
 | load (k:Nat) (i f:Int)
 | store (k:Nat) (i f j:Int)
 | drop (k:Nat) (i:Int)
 | put (k:Nat) (i g:Int)
 | get (k:Nat) (g:Int)
def Mo.who:Mo→Nat
 | .make k _ _=>k
 | .load k _ _=>k
 | .store k _ _ _=>k
 | .drop k _=>k
 | .put k _ _=>k
 | .get k _=>k
def Mo.doR (x:Mo) (s:Sys):Sys:=
 match x with
 | .make k n h=>⟨(s.A.makeR k n h).A,if (s.A.makeR k n h).e=0 then (s.M.madeR (s.A.makeR k n h).now).1 else s.M⟩
 | .load k i f=>⟨(s.A.loadR k i f).A,s.M⟩
 | .store k i f j=>Sys.told (s.A.storeR k i f j) s k
 | .drop k i=>⟨(s.A.dropR k i).A,s.M⟩
 | .put k i g=>Sys.told (s.A.putR k i g) s k
 | .get k g=>⟨(s.A.getR k g).A,s.M⟩
theorem Mo.next (x:Mo) {s:Sys} (h:s.Ok):Sys.Next s (x.doR s):=by
 cases x with
 | make k n hd=>
  unfold Mo.doR
  dsimp only
  split
  ·obtain⟨g1,b1⟩:=gs_made h.g (s.A.makeR k n hd).now
   obtain⟨k1,k2⟩:=s.M.madeR_K (s.A.makeR k n hd).now
   have hn:=s.A.makeR_n k n hd
   exact⟨⟨h.a.makeR _ _ _,h.m.madeR _,(hn.1.trans h.n).trans k2.symm,(hn.2.trans h.k).trans (congrArg Ck.many k1).symm,g1⟩,k1,k2,b1⟩
  ·exact h.arena (h.a.makeR _ _ _) (s.A.makeR_n _ _ _)
 | load k i f=>exact h.arena (h.a.loadR _ _ _) (s.A.loadR_n _ _ _)
 | store k i f j=>exact h.told (h.a.storeR _ _ _ _) (s.A.storeR_n _ _ _ _) _
 | drop k i=>exact h.arena (h.a.dropR _ _) (s.A.dropR_n _ _)
 | put k i g=>exact h.told (h.a.putR _ _ _) (s.A.putR_n _ _ _) _
 | get k g=>exact h.arena (h.a.getR _ _) (s.A.getR_n _ _)
theorem Mo.did (x:Mo) {s:Sys} (hok:s.Ok) (h:Safe s) (hk:x.who<s.A.many):∃ N,Did s (x.doR s) N:=by
 cases x with
 | make k n hd=>obtain⟨N,h1,_⟩:=did_makeR hok h (k:=k) hk n hd;exact⟨N,h1⟩
 | load k i f=>exact⟨_,did_loadR hok h _ _ _⟩
 | store k i f j=>exact⟨_,(did_storeR hok h (k:=k) hk _ _ _).1⟩
 | drop k i=>exact⟨_,did_drop h _ _⟩
 | put k i g=>exact⟨_,(did_putR hok h (k:=k) hk _ _).1⟩
 | get k g=>exact⟨_,did_getR h _ _⟩
theorem Mo.safe (x:Mo) {s:Sys} (hok:s.Ok) (h:Safe s) (hk:x.who<s.A.many):Safe (x.doR s):=by
 obtain⟨N,hd⟩:=x.did hok h hk
 exact hd.safe h
theorem Mo.many (x:Mo) {s:Sys} (h:s.Ok):(x.doR s).A.many=s.A.many:=by
 have:=x.next h
 rw [this.ok.k,this.K,h.k]
end Go.Proofs.YtnlkfbndlngjaaaGreat
namespace Go.Proofs.YtnlkfbndlngjaaaGreat
open Go.RowKit
set_option linter.unusedVariables false
set_option linter.unusedSimpArgs false
structure Cyc where
 S:Sw
 at':Nat
 begun:Nat
 asked:Bool
structure Col where
 s:Sys
 C:Cyc
structure CyRes where
 c:Col
 r:Rf
 is:Bool
def Col.begin (c:Col):Col:=⟨c.s.begun,{ c.C with asked:=false,begun:=c.C.begun+1 }⟩
def Sys.lostAt (s:Sys) (i:Nat):Rf × Bool:=
 if s.M.P.c i≠0∨s.A.H.T.st i≠1 then (.no,false) else (⟨i,s.A.H.T.gn i⟩,(s.A.H.ob i).h)
def Col.discover (c:Col):Col:=
 if c.C.at'+1=c.s.M.P.n then ⟨⟨c.s.A,c.s.M.goR.1⟩,{ c.C with at':=c.C.at'+1,S:=⟨c.C.S.size,0,0⟩ }⟩
 else ⟨c.s,{ c.C with at':=c.C.at'+1 }⟩
def Col.sweep (c:Col):Col:=
 if (c.C.S.stepR c.s).S.next=(c.C.S.stepR c.s).S.size then ⟨⟨(c.C.S.stepR c.s).s.A,(c.C.S.stepR c.s).s.M.goR.1⟩,{ c.C with S:=(c.C.S.stepR c.s).S }⟩
 else ⟨(c.C.S.stepR c.s).s,{ c.C with S:=(c.C.S.stepR c.s).S }⟩
def Col.mark (c:Col):Col:=⟨c.s.step,if c.s.step.M.K.ph=4 then { c.C with at':=0 } else c.C⟩
def Col.stepR (c:Col) (room:Bool):CyRes:=
 if c.s.M.K.ph=0 then ⟨if c.C.asked=true then c.begin else c,.no,false⟩
 else if c.s.M.K.ph=4 then
  if (c.s.lostAt c.C.at').2=true then (if room=true then ⟨c.discover,(c.s.lostAt c.C.at').1,true⟩ else ⟨c,.no,false⟩) else ⟨c.discover,.no,false⟩
 else if c.s.M.K.ph=5 then ⟨c.sweep,.no,false⟩
 else ⟨c.mark,.no,false⟩
structure Col.Ok (c:Col):Prop where
 s:c.s.Ok
 safe:Safe c.s
 sz:c.C.S.size=c.s.M.P.n
 a4:c.s.M.K.ph=4→c.C.at'<c.s.M.P.n
 a5:c.s.M.K.ph=5→c.C.S.next<c.s.M.P.n
 sn:∀ i,c.s.M.K.seen i=true→i<c.s.M.K.many
 bg:c.C.begun=c.s.M.K.cy+if c.s.M.K.ph=0 then 0 else 1
def Col.Like (c d:Col):Prop:=d.s.M.K.many=c.s.M.K.many∧d.s.M.P.n=c.s.M.P.n∧d.s.A.many=c.s.A.many
theorem stepR_K {M:Mk} (hok:M.Ok) (hg:Gs M.P M.S) (A:Ar) (hp:M.K.ph=1∨M.K.ph=2∨M.K.ph=3):(M.stepR A).K=M.K∨(M.stepR A).K=M.K.go:=by
 unfold Mk.stepR
 split
 ·split
  ·exact .inr rfl
  ·exact .inl rfl
 split
 ·split
  ·exact .inr rfl
  ·exact .inl rfl
 split
 ·obtain⟨_,_,g3⟩:=gs_trace (H:=A.H) hok hg
  rcases g3 with⟨h,_⟩ | ⟨h,_⟩
  ·exact .inr h
  ·exact .inl h
 ·exact .inl rfl
theorem goR_4 {M:Mk} (h:M.K.ph=4):M.goR.1={ M with K:=M.K.go }:=by
 unfold Mk.goR;rw [if_neg (by omega),if_pos h]
theorem goR_5 {M:Mk} (h:M.K.ph=5):M.goR.1=M.endedR:=by
 unfold Mk.goR;rw [if_neg (by omega),if_neg (by omega)]
theorem Sys.Ok.go4 {s:Sys} (h:s.Ok) (hp:s.M.K.ph=4):(Sys.mk s.A s.M.goR.1).Ok:=by
 rw [goR_4 hp]
 exact⟨h.a,h.m.go,h.n,h.k,h.g⟩
theorem Sys.Ok.go5 {s:Sys} (h:s.Ok) (hp:s.M.K.ph=5):(Sys.mk s.A s.M.goR.1).Ok:=by
 have hm:=h.m.goR
 rw [goR_5 hp] at hm ⊢
 exact⟨h.a,hm,h.n,h.k,⟨fun j hj=>by exact absurd hj (Nat.not_lt_zero _),fun j k hj=>by exact absurd hj (Nat.not_lt_zero _)⟩⟩
theorem Sys.Ok.begun {s:Sys} (h:s.Ok):s.begun.Ok:=by
 unfold Sys.begun Mk.beginR
 split
 ·exact⟨h.a,h.m.withK rfl (by show 1≤5;decide),h.n,h.k,h.g⟩
 ·exact h
theorem safe_freeS {s:Sys} (hok:s.Ok) (h:Safe s) (hp:4≤s.M.K.ph) {i:Nat} (hin:i<s.A.H.T.n) (w1:s.A.H.T.st i=1) (w2:s.M.P.c i=0):Safe (s.free i)∧∀ r,Rch (s.free i).A r→Rch s.A r:=by
 have hck:ckV s.A.H.T (i:Int) (s.A.H.T.gn i)=0:=ckV_tk hin w1
 have hfr:(s.free i).A.H=s.A.H.free i:=by
  show (s.A.H.freeR ⟨i,s.A.H.T.gn i⟩).1=_
  unfold Hp.freeR
  rw [if_neg (by show ¬ ckV s.A.H.T (i:Int) (s.A.H.T.gn i)≠0;rw [hck];exact fun h=>h rfl)]
  show s.A.H.free (i:Int).toNat=_
  rw [Int.toNat_natCast]
 have hst:∀ j,(s.free i).A.H.T.st j=if j=i then (if s.A.H.T.gn i<4294967295 then 0 else 2) else s.A.H.T.st j:=fun j=>by
  rw [hfr];show (s.A.H.T.give i).st j=_
  unfold Tb.give
  split <;> rfl
 have hgn:∀ j,(s.free i).A.H.T.gn j=if j=i then (if s.A.H.T.gn i<4294967295 then s.A.H.T.gn i+1 else s.A.H.T.gn i) else s.A.H.T.gn j:=fun j=>by
  rw [hfr];show (s.A.H.T.give i).gn j=_
  unfold Tb.give
  split <;> rfl
 have hMe:=(free_st hok hin w1 w2).1
 have hsf:=safe_free (A':=(s.free i).A) h hp w2 (Ar.freeR_n _ _).2 rfl rfl (fun j hj=>by rw [hfr];exact updf_ne _ _ hj) (by rw [hfr];exact Tb.give_n _ _) (fun j hj=>by rw [hst,if_neg hj]) (fun j hj=>by rw [hgn,if_neg hj]) (by rw [hst,if_pos rfl];split <;> decide)
 have e2:s.free i=⟨(s.free i).A,s.M⟩:=by
  conv=>lhs;rw [show s.free i=⟨(s.free i).A,(s.free i).M⟩ from rfl,hMe]
 exact⟨by rw [e2];exact hsf.1,hsf.2⟩
theorem Sw.step_safe {S:Sw} {s:Sys} (hok:s.Ok) (h:Safe s) (hp:4≤s.M.K.ph) (hn:S.next<s.M.P.n):Safe (S.stepR s).s∧(S.stepR s).s.M=s.M∧(S.stepR s).s.A.many=s.A.many:=by
 unfold Sw.stepR
 split
 ·exact⟨h,rfl,rfl⟩
 ·rename_i hc
  have h0:s.M.P.c S.next=0:=Decidable.not_not.1 (fun hx=>hc (.inl hx))
  have h1:s.A.H.T.st S.next=1:=Decidable.not_not.1 (fun hx=>hc (.inr hx))
  have hin:S.next<s.A.H.T.n:=by rw [hok.n];exact hn
  exact⟨(safe_freeS hok h hp hin h1 h0).1,(free_st hok hin h1 h0).1,(Ar.freeR_n _ _).2⟩
theorem Col.begin_ok {c:Col} (h:c.Ok) (hp:c.s.M.K.ph=0):c.begin.Ok∧c.Like c.begin∧c.begin.s.M.K.ph=1:=by
 have e:c.s.M.beginR.1={ c.s.M with K:=c.s.M.K.to 1 }:=by unfold Mk.beginR;rw [if_pos hp]
 have hK:c.begin.s.M.K=c.s.M.K.to 1:=by show c.s.M.beginR.1.K=_;rw [e]
 have hph:c.begin.s.M.K.ph=1:=by rw [hK];rfl
 have hP:c.begin.s.M.P=c.s.M.P:=by show c.s.M.beginR.1.P=_;rw [e]
 refine⟨⟨h.s.begun,safe_begin h.safe,?_,fun h4=>by omega,fun h5=>by omega,fun i hi=>?_,?_⟩,⟨by rw [hK];rfl,by rw [hP],rfl⟩,hph⟩
 ·rw [hP];exact h.sz
 ·rw [hK] at hi;cases hi
 ·rw [if_neg (by omega),hK]
  have:=h.bg
  rw [if_pos hp] at this
  show c.C.begun+1=c.s.M.K.cy+1
  omega
theorem Col.mark_ok {c:Col} (h:c.Ok) (hp:c.s.M.K.ph=1∨c.s.M.K.ph=2∨c.s.M.K.ph=3):c.mark.Ok∧c.Like c.mark∧(c.mark.s.M.K.ph=c.s.M.K.ph∨c.mark.s.M.K.ph=c.s.M.K.ph+1)∧c.mark.C.S=c.C.S∧c.mark.C.begun=c.C.begun∧c.mark.C.asked=c.C.asked∧c.mark.s.M.K.cy=c.s.M.K.cy∧(c.mark.s.M.K.ph=4→c.mark.C.at'=0):=by
 obtain⟨o1,o2,o3⟩:=Sys.step_next h.s
 have hK:=stepR_K h.s.m h.s.g c.s.A hp
 have hcy:c.s.step.M.K.cy=c.s.M.K.cy:=Mk.stepR_cy c.s.M c.s.A (by omega)
 have hph:c.s.step.M.K.ph=c.s.M.K.ph∨c.s.step.M.K.ph=c.s.M.K.ph+1:=by
  show (c.s.M.stepR c.s.A).K.ph=c.s.M.K.ph∨(c.s.M.stepR c.s.A).K.ph=c.s.M.K.ph+1
  rcases hK with e | e <;> rw [e]
  ·exact .inl rfl
  ·right;show (c.s.M.K.ph+1) % 6=_;omega
 have hC:c.mark.C.S=c.C.S∧c.mark.C.begun=c.C.begun∧c.mark.C.asked=c.C.asked∧(c.s.step.M.K.ph=4→c.mark.C.at'=0):=by
  unfold Col.mark;dsimp only;split
  ·exact⟨rfl,rfl,rfl,fun _=>rfl⟩
  ·rename_i hn;exact⟨rfl,rfl,rfl,fun h=>absurd h hn⟩
 have o2':c.s.step.M.K.many=c.s.M.K.many:=o2
 have o3':c.s.step.M.P.n=c.s.M.P.n:=o3
 refine⟨⟨o1,safe_step h.s h.safe,?_,fun h4=>?_,fun h5=>?_,fun i hi=>?_,?_⟩,⟨o2,o3,rfl⟩,hph,hC.1,hC.2.1,hC.2.2.1,hcy,hC.2.2.2⟩
 ·rw [hC.1,h.sz];exact o3.symm
 ·rw [hC.2.2.2 h4]
  exact o1.m.n1
 ·have h5':c.s.step.M.K.ph=5:=h5
  omega
 ·have hi':(c.s.M.stepR c.s.A).K.seen i=true:=hi
  show i<c.s.step.M.K.many
  rw [o2']
  rcases hK with e | e
  ·rw [e] at hi';exact h.sn i hi'
  ·rw [e] at hi';cases hi'
 ·rw [hC.2.1,h.bg]
  have e1:c.mark.s.M.K.cy=c.s.M.K.cy:=hcy
  have e2:c.mark.s.M.K.ph=c.s.M.K.ph∨c.mark.s.M.K.ph=c.s.M.K.ph+1:=hph
  rw [e1,if_neg (by omega),if_neg (by omega)]
theorem Col.discover_ok {c:Col} (h:c.Ok) (hp:c.s.M.K.ph=4):c.discover.Ok∧c.Like c.discover∧c.discover.C.begun=c.C.begun∧c.discover.C.asked=c.C.asked∧c.discover.s.A=c.s.A∧c.discover.s.M.P=c.s.M.P∧c.discover.s.M.K.cy=c.s.M.K.cy
 ∧((c.C.at'+1=c.s.M.P.n∧c.discover.s.M.K.ph=5∧c.discover.C.S=⟨c.C.S.size,0,0⟩)∨(c.C.at'+1<c.s.M.P.n∧c.discover.s.M.K.ph=4∧c.discover.C.at'=c.C.at'+1)):=by
 have h4:=h.a4 hp
 unfold Col.discover
 by_cases e:c.C.at'+1=c.s.M.P.n
 ·rw [if_pos e]
  have hg:=goR_4 hp
  have hok:=h.s.go4 hp
  have hsf:=safe_go h.s h.safe
  have hph:c.s.M.goR.1.K.ph=5:=by rw [hg];show (c.s.M.K.ph+1) % 6=5;omega
  have hcy:c.s.M.goR.1.K.cy=c.s.M.K.cy:=by rw [hg];show (if c.s.M.K.ph=5 then _ else _)=_;rw [if_neg (by omega)]
  have hmy:c.s.M.goR.1.K.many=c.s.M.K.many:=by rw [hg];rfl
  have hP:c.s.M.goR.1.P=c.s.M.P:=by rw [hg]
  have hse:∀ i,c.s.M.goR.1.K.seen i=false:=fun i=>by rw [hg];rfl
  have n1:=h.s.m.n1
  refine⟨⟨hok,hsf,?_,fun hx=>?_,fun _=>?_,fun i hi=>?_,?_⟩,⟨hmy,by dsimp only;rw [hP],rfl⟩,rfl,rfl,rfl,hP,hcy,.inl ⟨e,hph,rfl⟩⟩
  ·dsimp only;rw [hP];exact h.sz
  ·dsimp only at hx;omega
  ·dsimp only;rw [hP];omega
  ·dsimp only at hi;rw [hse] at hi;cases hi
  ·dsimp only
   have:=h.bg
   rw [if_neg (by omega)] at this ⊢
   rw [hcy];exact this
 ·rw [if_neg e]
  refine⟨⟨h.s,h.safe,h.sz,fun _=>by dsimp only;omega,h.a5,h.sn,h.bg⟩,⟨rfl,rfl,rfl⟩,rfl,rfl,rfl,rfl,rfl,.inr ⟨by omega,hp,rfl⟩⟩
theorem Col.sweep_ok {c:Col} (h:c.Ok) (hp:c.s.M.K.ph=5):c.sweep.Ok∧c.Like c.sweep∧c.sweep.C.begun=c.C.begun∧c.sweep.C.asked=c.C.asked∧c.sweep.s.A=(c.C.S.stepR c.s).s.A
 ∧((c.C.S.next+1=c.s.M.P.n∧c.sweep.s.M.K.ph=0∧c.sweep.s.M.K.cy=c.s.M.K.cy+1)∨(c.C.S.next+1<c.s.M.P.n∧c.sweep.s.M.K.ph=5∧c.sweep.C.S.next=c.C.S.next+1∧c.sweep.s.M.K.cy=c.s.M.K.cy∧c.sweep.s.M.P=c.s.M.P)):=by
 have h5:=h.a5 hp
 obtain⟨s1,s2,s3,s4,s5⟩:=Sw.step_all h.s h5
 obtain⟨t1,t2,t3⟩:=Sw.step_safe h.s h.safe (by omega) h5
 unfold Col.sweep
 obtain⟨R,hR⟩:∃ R,c.C.S.stepR c.s=R:=⟨_,rfl⟩
 rw [hR] at s1 s2 s3 s4 s5 t1 t2 t3 ⊢
 have hpR:R.s.M.K.ph=5:=by rw [s2];exact hp
 by_cases e:R.S.next=R.S.size
 ·rw [if_pos e]
  have hg:=goR_5 hpR
  have hok:=s1.go5 hpR
  have hsf:=safe_go s1 t1
  have hK:R.s.M.goR.1.K=R.s.M.K.go:=by rw [hg];rfl
  have hph:R.s.M.goR.1.K.ph=0:=by rw [hK];show (R.s.M.K.ph+1) % 6=0;omega
  have hcy:R.s.M.goR.1.K.cy=c.s.M.K.cy+1:=by rw [hK];show (if R.s.M.K.ph=5 then R.s.M.K.cy+1 else _)=_;rw [if_pos hpR,s2]
  have hn:R.s.M.goR.1.P.n=c.s.M.P.n:=by rw [hg];exact s3
  have hse:∀ i,R.s.M.goR.1.K.seen i=false:=fun i=>by rw [hK];rfl
  have hmy:R.s.M.goR.1.K.many=c.s.M.K.many:=by rw [hK];show R.s.M.K.many=_;rw [s2]
  refine⟨⟨hok,hsf,?_,fun hx=>?_,fun hx=>?_,fun i hi=>?_,?_⟩,⟨hmy,hn,t3⟩,rfl,rfl,rfl,.inl ⟨?_,hph,hcy⟩⟩
  ·dsimp only;rw [hn,s4];exact h.sz
  ·dsimp only at hx;omega
  ·dsimp only at hx;omega
  ·dsimp only at hi;rw [hse] at hi;cases hi
  ·dsimp only
   have:=h.bg
   rw [if_neg (by omega)] at this
   rw [if_pos hph,hcy,this]
  ·have:=h.sz;omega
 ·rw [if_neg e]
  have hlt:c.C.S.next+1<c.s.M.P.n:=by have:=h.sz;omega
  refine⟨⟨s1,t1,?_,fun hx=>?_,fun _=>?_,fun i hi=>?_,?_⟩,⟨by dsimp only;rw [s2],s3,t3⟩,rfl,rfl,rfl,.inr ⟨hlt,hpR,s5,by dsimp only;rw [s2],by dsimp only;rw [t2]⟩⟩
  ·dsimp only;rw [s3,s4];exact h.sz
  ·dsimp only at hx;omega
  ·dsimp only;omega
  ·dsimp only at hi ⊢;rw [s2] at hi ⊢;exact h.sn i hi
  ·dsimp only;rw [s2];exact h.bg
theorem Col.Like.refl (c:Col):c.Like c:=⟨rfl,rfl,rfl⟩
theorem Col.Like.trans {c d e:Col} (h:c.Like d) (k:d.Like e):c.Like e:=⟨k.1.trans h.1,k.2.1.trans h.2.1,k.2.2.trans h.2.2⟩
theorem Col.step_ok {c:Col} (h:c.Ok) (room:Bool):(c.stepR room).c.Ok∧c.Like (c.stepR room).c:=by
 have hp:=h.s.m.ph
 unfold Col.stepR
 split
 ·rename_i h0
  dsimp only
  split
  ·exact⟨(Col.begin_ok h h0).1,(Col.begin_ok h h0).2.1⟩
  ·exact⟨h,Col.Like.refl c⟩
 split
 ·rename_i h4
  have:=Col.discover_ok h h4
  split
  ·split
   ·exact⟨this.1,this.2.1⟩
   ·exact⟨h,Col.Like.refl c⟩
  ·exact⟨this.1,this.2.1⟩
 split
 ·rename_i h5
  have:=Col.sweep_ok h h5
  exact⟨this.1,this.2.1⟩
 ·have:=Col.mark_ok h (by omega)
  exact⟨this.1,this.2.1⟩
def Col.acks (c:Col) (k:Nat):Col:=⟨c.s.acks k,c.C⟩
def Col.round (c:Col):CyRes:=(c.acks c.s.M.K.many).stepR true
end Go.Proofs.YtnlkfbndlngjaaaGreat
namespace Go.Proofs.YtnlkfbndlngjaaaGreat
open Go.RowKit
set_option linter.unusedVariables false
set_option linter.unusedSimpArgs false
set_option linter.unusedSectionVars false
section
variable {w0 w w':World} {a m b c:Nat} {LA:ArL} {LM:MkL} {k:Col}
end
end Go.Proofs.YtnlkfbndlngjaaaGreat
namespace Go.Proofs.YtnlkfbndlngjaaaGreat
open Go.RowKit
set_option linter.unusedVariables false
set_option linter.unusedSimpArgs false
set_option linter.unusedSectionVars false
variable {w0 w w':World} {a m b c:Nat} {LA:ArL} {LM:MkL} {k:Col}
end Go.Proofs.YtnlkfbndlngjaaaGreat
namespace Go.Proofs.YtnlkfbndlngjaaaGreat
open Go.RowKit
set_option linter.unusedVariables false
set_option linter.unusedSimpArgs false
set_option linter.unusedSectionVars false
variable {w0 w w':World} {a m b c:Nat} {LA:ArL} {LM:MkL} {k:Col}
end Go.Proofs.YtnlkfbndlngjaaaGreat
