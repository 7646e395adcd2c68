import Derived.Test.YtjfmagccmjdhoaaGreatCkE
set_option maxRecDepth 100000
namespace Go.Proofs.YtjfmagccmjdhoaaGreat
open Go.RowKit
def QTy (t:TypeId):Prop:=PTy t∨t=70∨t=145∨t=37
instance (t:TypeId):Decidable (QTy t):=by unfold QTy;infer_instance
theorem QTy.w {t:TypeId} (h:QTy t):¬ WTy t:=by
 rcases h with h | rfl | rfl | rfl
 ·exact h.w
 all_goals decide
section
variable {F F' S:Nat→Prop} {w0 w w':World} {p a m b c x y qq u z t a' m':Nat} {LA:ArL} {LM LM':MkL} {A A' B:Ar} {M M' M2:Mk} {k k' k2 k2':Col} {f f' f2 f2':List Rf}
def Qs (F S:Nat→Prop) (w:World):Prop:=∀ v c t,w.heap[v]?=some (.cells c t)→S v→QTy t∨t=51∧F v
theorem Qs.no (h:Qs F S w) {v:Nat} {c:Array Value} {t:TypeId} (hv:w.heap[v]?=some (.cells c t)) (h1:¬ QTy t) (h2:t≠51):¬ S v:=fun hs=>by
 rcases h _ _ _ hv hs with e | ⟨e,_⟩
 ·exact h1 e
 ·exact h2 e
theorem Fo.prog (h:Fo F w0 w a m LA LM x y A M B M2 qq) (hd:Duo w0 w' a m' LA LM' A' M') (hk:zA S w w') (hS:Qs F S w):Fo F w0 w' a m' LA LM' x y A' M' B M2 qq:=by
 obtain⟨LR,h1,h2,h4⟩:=h.doc
 refine⟨hd,h.lx,⟨LR,h1,?_,h4⟩,h.d.other hk (fun v c t hv hs=>?_)⟩
 ·obtain⟨c,cap,x1,x2⟩:=h2.own
  obtain⟨cr,r1,r2⟩:=h2.row
  obtain⟨_,_,_,a1⟩:=h2.heap.own
  obtain⟨_,a2,_⟩:=h2.heap.row
  refine⟨⟨c,cap,zB x1 hk (hS.no x1 (by decide) (by decide)),x2⟩,h2.heap.keeps hk (hS.no a1 (by decide) (by decide)) (hS.no a2 (by decide) (by decide)),⟨cr,zB r1 hk (hS.no r1 (by decide) (by decide)),r2⟩,fun j hj=>(h2.st j hj).keeps hk (fun v hv hs=>?_),h2.ok⟩
  rcases (h2.st j hj).r with⟨e,_⟩ | ⟨g,cap,cur,e,hg,_⟩
  ·rw [e] at hv;cases hv
  ·rw [e] at hv
   obtain rfl:g=v:=Option.some.inj hv
   rcases hS _ _ _ hg hs with q | ⟨_,q⟩
   ·revert q;decide
   ·exact h4 j g hj (by rw [e];rfl) q
 ·rcases hS _ _ _ hv hs with q | ⟨rfl,_⟩
  ·exact q.w
  ·decide
theorem Dc.prog (h:Dc F w0 w a m LA LM x y A M qq u z k) (hd:Duo w0 w' a m' LA LM' A' M') (hk:zA S w w') (hS:Qs F S w):Dc F w0 w' a m' LA LM' x y A' M' qq u z k:=
 ⟨Fo.prog h.fd hd hk hS,zB h.sw hk (hS.no h.sw (by decide) (by decide)),h.hb,zB h.cy hk (hS.no h.cy (by decide) (by decide)),h.hz,fun v hv=>Nat.lt_of_lt_of_le (h.lt v hv) hk.size⟩
theorem Tn.prog (h:Tn F w0 w a m LA LM x y A M qq u z t k f) (hd:Duo w0 w' a m' LA LM' A' M') (hk:zA S w w') (hS:Qs F S w) (hr:∀ v g,w.cell? ⟨t,2,none⟩=some v→v.ownBlock=some g→¬ S g):Tn F w0 w' a m' LA LM' x y A' M' qq u z t k f:=by
 obtain⟨hdc,⟨v,h1,h2,h3⟩,ht⟩:=h
 exact⟨hdc.prog hd hk hS,⟨v,zB h1 hk (hS.no h1 (by decide) (by decide)),h2.keeps hk (fun g _ _ hg=>hr v g (zD h1 rfl) hg),h3⟩,ht⟩
structure Bth (w0 w:World) (p a m b c:Nat) (LA:ArL) (LM:MkL) (x y qq u z t:Nat) (k:Col) (f:List Rf) (k2:Col) (f2:List Rf):Prop where
 pr:Pair w0 w p a m b c LA LM k f
 ex:∃ F,Tn F w0 w a m LA LM x y k.s.A k.s.M qq u z t k2 f2∧∀ v g,w.cell? ⟨p,2,none⟩=some v→v.ownBlock=some g→F g
 sep:∀ v q g,w.cell? ⟨p,2,none⟩=some v→w.cell? ⟨t,2,none⟩=some q→v.ownBlock=some g→q.ownBlock≠some g
theorem Pair.c2r (h:Pair w0 w p a m b c LA LM k f):∃ v,w.cell? ⟨p,2,none⟩=some v∧∀ g,v.ownBlock=some g→g<w.heap.size∧∃ cc,w.heap[g]?=some (.cells cc 51):=by
 obtain⟨_,⟨v,h1,h2⟩,_⟩:=h
 refine⟨v,zD h1 rfl,fun g hg=>?_⟩
 rcases h2.2 with⟨rfl,_⟩ | ⟨g',cap,cur,rfl,_,hb,_⟩
 ·cases hg
 ·obtain rfl:g'=g:=Option.some.inj hg
  exact⟨zF hb,_,hb⟩
theorem Quad.fty (h:Quad w0 w a m b c LA LM k) {v:Nat} {cc:Array Value} {tt:TypeId} (hv:w.heap[v]?=some (.cells cc tt)) (hf:zV LA LM b c k.s v):QTy tt:=by
 have e:∀ {v':Nat} {c':Array Value} {t':TypeId},w.heap[v']?=some (.cells c' t')→v=v'→tt=t':=fun h1 e=>by
  subst e;rw [hv] at h1;simp at h1;exact h1.2
 rcases hf with hf | hf | hf | hf
 ·exact .inr (.inl (e h.own hf))
 ·exact .inr (.inr (.inl (e h.tr.sw.own hf)))
 ·exact .inl (ty_of (Duo.ar h.tr.both |>.blk hf) hv)
 ·exact .inl (ty_of (Duo.mm h.tr.both |>.blk hf) hv)
theorem Bth.prog (h:Bth w0 w p a m b c LA LM x y qq u z t k f k2 f2) (hp:Pair w0 w' p a m b c LA LM k' f') (hk:PKeep w w' p (zV LA LM b c k.s)):Bth w0 w' p a m b c LA LM x y qq u z t k' f' k2 f2:=by
 obtain⟨F,ht,hF⟩:=h.ex
 obtain⟨v,v',e1,e2,hkk,e4⟩:=hk
 obtain⟨vr,er,hvr⟩:=h.pr.c2r
 obtain rfl:v=vr:=by rw [e1] at er;exact Option.some.inj er
 obtain⟨_,⟨_,hown,_⟩,_⟩:=id h.pr
 have hS:Qs F (fun g=>(zV LA LM b c k.s g∨g=p)∨v.ownBlock=some g) w:=fun g cc tt hg hs=>by
  rcases hs with (hs | rfl) | hs
  ·exact .inl (h.pr.q.fty hg hs)
  ·rw [hown] at hg;simp at hg
   exact .inl (.inr (.inr (.inr hg.2.symm)))
  ·obtain⟨_,cc',hcc⟩:=hvr g hs
   rw [hcc] at hg;simp at hg
   exact .inr ⟨hg.2.symm,hF v g e1 hs⟩
 obtain⟨vq,eq,hq⟩:=ht.c2
 obtain⟨_,⟨vt,htown,_⟩,_⟩:=id ht
 have ht':=ht.prog (Quad.tr hp.q).both hkk hS (fun q g hq1 hq2 hs=>by
  rw [eq] at hq1
  obtain rfl:=Option.some.inj hq1
  obtain⟨_,cc,hcc⟩:=hq g hq2
  rcases hs with (hs | rfl) | hs
  ·have:=h.pr.q.fty hcc hs;revert this;decide
  ·rw [hown] at hcc;simp at hcc
  ·exact h.sep v vq g e1 eq hs hq2)
 have htw:w'.cell? ⟨t,2,none⟩=some vq:=by
  have h1:=zB htown hkk (hS.no htown (by decide) (by decide))
  have h2:=zD (i:=2) htown rfl
  rw [eq] at h2
  rw [Option.some.inj h2]
  exact zD h1 rfl
 refine⟨hp,⟨fun g=>F g∨v'.ownBlock=some g,⟨⟨?_,ht'.dc.sw,ht'.dc.hb,ht'.dc.cy,ht'.dc.hz,fun g hg=>?_⟩,?_,ht'.ht⟩,fun v2 g h1 h2=>?_⟩,fun v2 q g h1 h2 h3 h4=>?_⟩
 ·
  refine Fo.prog (Fo.addF (F':=fun g=>F g∨v'.ownBlock=some g) ht.dc.fd (fun g hg=>?_)) (Quad.tr hp.q).both hkk (fun g cc tt hg hs=>(hS g cc tt hg hs).imp id (fun h=>⟨h.1,.inl h.2⟩))
  rcases hg with hg | hg
  ·exact .inl hg
  ·rcases e4 with e4 | e4
   ·exact .inl (hF v g e1 (e4 ▸ hg))
   ·exact .inr (e4 g hg)
 ·rcases hg with hg | hg
  ·exact ht'.dc.lt g hg
  ·obtain⟨v3,e3,h3⟩:=hp.c2r
   rw [e2] at e3
   obtain rfl:=Option.some.inj e3
   exact (h3 g hg).1
 ·obtain⟨v3,h1,h2,h3⟩:=ht'.ex
  exact⟨v3,h1,h2,fun g hg=>.inl (h3 g hg)⟩
 ·rw [e2] at h1
  obtain rfl:=Option.some.inj h1
  exact .inr h2
 ·rw [e2] at h1
  obtain rfl:=Option.some.inj h1
  rw [htw] at h2
  obtain rfl:=Option.some.inj h2
  rcases e4 with e4 | e4
  ·exact h.sep v vq g e1 eq (e4 ▸ h3) h4
  ·have:=e4 g h3
   obtain⟨_,cc,hcc⟩:=hq g h4
   have:=zF hcc
   omega
theorem Bth.docu (h:Bth w0 w p a m b c LA LM x y qq u z t k f k2 f2) (hF0:Tn F w0 w a m LA LM x y k.s.A k.s.M qq u z t k2 f2) (hFp:∀ v g,w.cell? ⟨p,2,none⟩=some v→v.ownBlock=some g→F g) (hsub:∀ g,F g→F' g) (ht:Tn F' w0 w' a m LA LM x y k.s.A k.s.M qq u z t k2' f2') (hk:TKeep w w' w0.heap.size t):Bth w0 w' p a m b c LA LM x y qq u z t k f k2' f2':=by
 obtain⟨v,v',e1,e2,hkk,e4⟩:=hk
 obtain⟨vp,ep,hvp⟩:=h.pr.c2r
 obtain⟨hq,⟨vo,hown,hrow⟩,hpl⟩:=id h.pr
 obtain⟨_,⟨vt,htown,htrow,_⟩,_⟩:=id hF0
 obtain⟨vq,eq,hvq⟩:=hF0.c2
 obtain rfl:v=vq:=by rw [e1] at eq;exact Option.some.inj eq
 obtain rfl:vp=vo:=by rw [zD hown rfl] at ep;exact (Option.some.inj ep).symm
 have no:∀ {g:Nat} {cc:Array Value} {tt:TypeId},w.heap[g]?=some (.cells cc tt)→¬ DTy tt→tt≠66→tt≠51→¬ ((Dt w w0.heap.size g∨g=t)∨v.ownBlock=some g):=fun {g cc tt} hg n1 n2 n3 hs=>by
  rcases hs with (⟨_,c',t',hc,ht'⟩ | rfl) | hs
  ·rw [hg] at hc;simp at hc;rw [← hc.2] at ht';exact n1 ht'
  ·rw [htown] at hg;simp at hg;exact n2 hg.2.symm
  ·obtain⟨_,c',hc⟩:=hvq g hs
   rw [hg] at hc;simp at hc;exact n3 hc.2
 have hp':w'.heap[p]?=some _:=zB hown hkk (no hown (by decide) (by decide) (by decide))
 refine⟨⟨⟨⟨ht.dc.fd.du,hq.tr.sw.keeps hkk (no hq.tr.sw.own (by decide) (by decide) (by decide)),hq.tr.hb⟩,zB hq.own hkk (no hq.own (by decide) (by decide) (by decide)),hq.hc⟩,⟨vp,hp',hrow.keeps hkk (fun g _ _ hg hs=>?_)⟩,hpl⟩,⟨F',ht,fun v2 g h1 h2=>?_⟩,fun v2 q g h1 h2 h3 h4=>?_⟩
 ·obtain⟨_,cc,hcc⟩:=hvp g hg
  rcases hs with (⟨_,c',t',hc,ht'⟩ | rfl) | hs
  ·rw [hcc] at hc;simp at hc;rw [← hc.2] at ht';revert ht';decide
  ·rw [htown] at hcc;simp at hcc
  ·exact h.sep vp v g (zD hown rfl) e1 hg hs
 ·rw [zD hp' rfl] at h1
  obtain rfl:=Option.some.inj h1
  exact hsub g (hFp _ g (zD hown rfl) h2)
 ·rw [zD hp' rfl] at h1
  obtain rfl:=Option.some.inj h1
  rw [e2] at h2
  obtain rfl:=Option.some.inj h2
  rcases e4 with e4 | e4
  ·exact h.sep _ v g (zD hown rfl) e1 h3 (e4 ▸ h4)
  ·have:=e4 g h4
   have:=(hvp g h3).1
   omega
theorem Bth.quiet (h:Bth w0 w p a m b c LA LM x y qq u z t k f k2 f2) (hk:Kz w w'):Bth w0 w' p a m b c LA LM x y qq u z t k f k2 f2:=by
 obtain⟨F,ht,hF⟩:=h.ex
 exact h.docu ht hF (fun _ h=>h) (ht.quiet hk) (ht.keep hk.up)
structure OldC (w:World) (N0 m c:Nat) (LM:MkL) (k:Col):Prop where
 mi:MkIn w m LM k.s.M
 bt:∃ lo,LM.Btw m k.s.M.K.many lo N0
 own:∃ b,w.heap[c]?=some (.cells (cyArr m b k.s.M.P.n k.s.M.K.many k.C) 70)
 lt:c<N0
def ETy (t:TypeId):Prop:=t=182∨t=268∨t=201∨t=204∨t=37∨t=66∨t=51∨Ty24 t∨ATy t∨t=130∨t=220
instance (t:TypeId):Decidable (ETy t):=by unfold ETy;infer_instance
variable {N0:Nat}
theorem OldC.keeps (h:OldC w N0 m c LM k) (hk:zA S w w') (hS:∀ v cc tt,w.heap[v]?=some (.cells cc tt)→S v→N0≤v∨ETy tt):OldC w' N0 m c LM k:=by
 obtain⟨lo,hb⟩:=h.bt
 obtain⟨b,ho⟩:=h.own
 have no:∀ {v:Nat} {cc:Array Value} {tt:TypeId},w.heap[v]?=some (.cells cc tt)→v<N0→¬ ETy tt→¬ S v:=fun hv h1 h2 hs=>by
  rcases hS _ _ _ hv hs with e | e
  ·omega
  ·exact h2 e
 obtain⟨cur,r1,_⟩:=h.mi.row
 obtain⟨cp,p1,_⟩:=h.mi.pt
 obtain⟨cs,s1,_⟩:=h.mi.st
 exact⟨h.mi.keeps hk (no h.mi.own hb.m.2 (by decide)) (no h.mi.clk.own hb.c.2 (by decide)) (no p1 hb.p.2 (by decide)) (no s1 hb.s.2 (by decide)) (no r1 hb.rb.2 (by decide)) (fun j hj=>by
  obtain⟨_,hs,_⟩:=h.mi.bf j hj
  exact no hs (hb.bb j hj).2 (by decide)),h.bt,⟨b,zB ho hk (no ho h.lt (by decide))⟩,h.lt⟩
theorem oldvalid (h:OldC w N0 m c LM k):Calls Tryz.prog 25 #[.pointer (some ⟨c,0,none⟩)] w fun e w'=>e = .returned (.bool true)∧w'=w:=by
 obtain⟨b,ho⟩:=h.own
 obtain⟨c0,c1,c2,c3,c4,c5,c6,cl⟩:=qD ho
 clear h ho
 go_in
 go_wp2_with fail
 go_ret
 exact⟨rfl,rfl⟩
theorem oldphase (h:OldC w N0 m c LM k):Calls Tryz.prog 9 #[.pointer (some ⟨c,0,none⟩)] w fun e w'=>e = .returned (.int .i64 k.s.M.K.ph)∧w'=w:=by
 have HV:=zC (oldvalid h)
 have HP:=zC (mphase m LM k.s.M w h.mi)
 obtain⟨b,ho⟩:=h.own
 obtain⟨c0,c1,c2,c3,c4,c5,c6,cl⟩:=qD ho
 clear h ho
 go_in
 go_wp2_with fail
 refine zP HV.out ?_
 go_wp2_with fail
 refine zP HP.out ?_
 go_wp2_with fail
 go_ret
 exact⟨rfl,rfl⟩
theorem oldended (h:OldC w N0 m c LM k):Calls Tryz.prog 11 #[.pointer (some ⟨c,0,none⟩)] w fun e w'=>e = .returned (.int .i64 k.s.M.K.cy)∧w'=w:=by
 have HV:=zC (oldvalid h)
 have HP:=zC (mcycles m LM k.s.M w h.mi)
 obtain⟨b,ho⟩:=h.own
 obtain⟨c0,c1,c2,c3,c4,c5,c6,cl⟩:=qD ho
 clear h ho
 go_in
 go_wp2_with fail
 refine zP HV.out ?_
 go_wp2_with fail
 refine zP HP.out ?_
 go_wp2_with fail
 go_ret
 exact⟨rfl,rfl⟩
theorem oldbegun (h:OldC w N0 m c LM k):Calls Tryz.prog 10 #[.pointer (some ⟨c,0,none⟩)] w fun e w'=>e = .returned (.int .i64 k.C.begun)∧w'=w:=by
 have HV:=zC (oldvalid h)
 obtain⟨b,ho⟩:=h.own
 obtain⟨c0,c1,c2,c3,c4,c5,c6,cl⟩:=qD ho
 clear h ho
 go_in
 go_wp2_with fail
 refine zP HV.out ?_
 go_wp2_with fail
 go_ret
 exact⟨rfl,rfl⟩
def Late (LM:MkL) (m many b c N0:Nat):Prop:=(∃ hi,LM.Btw m many N0 hi)∧N0≤b∧N0≤c
theorem OldC.prog {mo co:Nat} {LO:MkL} {ko:Col} (h:OldC w N0 mo co LO ko) (h2:Bth w0 w p a m b c LA LM x y qq u z t k f k2 f2) (hl:Late LM m k.s.M.K.many b c N0) (hk:PKeep w w' p (zV LA LM b c k.s)):OldC w' N0 mo co LO ko:=by
 obtain⟨v,v',e1,e2,hkk,e4⟩:=hk
 obtain⟨vr,er,hvr⟩:=h2.pr.c2r
 obtain rfl:v=vr:=by rw [e1] at er;exact Option.some.inj er
 obtain⟨_,⟨_,hown,_⟩,_⟩:=id h2.pr
 obtain⟨⟨hi,hb⟩,l1,l2⟩:=hl
 refine h.keeps hkk (fun g cc tt hg hs=>?_)
 have e:∀ {v':Nat} {c':Array Value} {t':TypeId},w.heap[v']?=some (.cells c' t')→g=v'→tt=t':=fun h1 e=>by
  subst e;rw [hg] at h1;simp at h1;exact h1.2
 have ar:=Duo.ar h2.pr.q.tr.both
 rcases hs with ((hs | hs | hs | hs) | hs) | hs
 ·left;omega
 ·left;omega
 ·right
  rcases hs with hs | hs | hs | ⟨j,hj,hs⟩
  ·obtain⟨_,h1,_⟩:=ar.heap.own;exact .inl (e h1 hs)
  ·obtain⟨_,h1,_⟩:=ar.heap.tab;exact .inr (.inl (e h1 hs))
  ·obtain⟨_,h1,_⟩:=ar.gl;exact .inr (.inr (.inl (e h1 hs)))
  ·obtain⟨_,h1,_⟩:=ar.st j hj;exact .inr (.inr (.inr (.inl (e h1 hs))))
 ·left
  rcases hs with hs | hs | hs | ⟨j,hj,hs⟩
  ·have:=hb.c;omega
  ·have:=hb.p;omega
  ·have:=hb.s;omega
  ·have:=hb.bb j hj;omega
 ·right;rw [e hown hs];decide
 ·right
  obtain⟨_,c',hc⟩:=hvr g hs
  rw [e hc rfl];decide
theorem DTy.e {tt:TypeId} (h:DTy tt):ETy tt:=by
 rcases h with (h | h) | h | h
 ·exact .inr (.inr (.inr (.inr (.inr (.inr (.inr (.inr (.inl h))))))))
 ·exact .inr (.inr (.inr (.inr (.inr (.inr (.inr (.inl h)))))))
 ·exact .inr (.inr (.inr (.inr (.inr (.inr (.inr (.inr (.inr (.inl h)))))))))
 ·exact .inr (.inr (.inr (.inr (.inr (.inr (.inr (.inr (.inr (.inr h)))))))))
theorem OldC.docu {mo co:Nat} {LO:MkL} {ko:Col} (h:OldC w N0 mo co LO ko) (ht:Tn F w0 w a m LA LM x y A M qq u z t k f) (hk:TKeep w w' w0.heap.size t):OldC w' N0 mo co LO ko:=by
 obtain⟨v,v',e1,e2,hkk,e4⟩:=hk
 obtain⟨vq,eq,hvq⟩:=ht.c2
 obtain rfl:v=vq:=by rw [e1] at eq;exact Option.some.inj eq
 obtain⟨_,⟨vt,htown,_⟩,_⟩:=id ht
 refine h.keeps hkk (fun g cc tt hg hs=>.inr ?_)
 rcases hs with (⟨_,c',t',hc,ht'⟩ | rfl) | hs
 ·rw [hg] at hc;simp at hc;rw [hc.2];exact ht'.e
 ·rw [htown] at hg;simp at hg;rw [← hg.2];decide
 ·obtain⟨_,c',hc⟩:=hvq g hs
  rw [hg] at hc;simp at hc;rw [hc.2];decide
end
end Go.Proofs.YtjfmagccmjdhoaaGreat
namespace Go.Proofs.YtjfmagccmjdhoaaGreat
open Go.RowKit
section
variable {F F' S:Nat→Prop} {w0 w w' w1:World} {p a m b c x y qq u z t m' b' c':Nat} {LA:ArL} {LM LM':MkL} {k k2:Col} {f f2:List Rf}
theorem Bth.copied (h:Bth w0 w p a m b c LA LM x y qq u z t k f k2 f2) (hk:Kz w w1) (hm:MkIn w1 m' LM' k.s.M) (hb:LM'.Btw m' k.s.M.K.many w.heap.size w1.heap.size) (hs:SwAt w1 b' k.C.S) (lb:w.heap.size≤b') (hc:w1.heap[c']?=some (.cells (cyArr m' b' k.s.M.P.n k.s.M.K.many k.C) 70)) (lc:w.heap.size≤c'):
 Bth w0 (w1.setCell ⟨p,1,none⟩ (.pointer (some ⟨c',0,none⟩))) p a m' b' c' LA LM' x y qq u z t k f k2 f2∧OldC (w1.setCell ⟨p,1,none⟩ (.pointer (some ⟨c',0,none⟩))) w.heap.size m c LM k∧Late LM' m' k.s.M.K.many b' c' w.heap.size:=by
 have h1:=h.quiet hk
 obtain⟨hq,⟨v,hown,hrow⟩,hpl⟩:=id h1.pr
 have hwi:=Trio.within h.pr.q.tr
 have hw0:=h.pr.kp.size
 have hQ:Quad w0 w1 a m' b' c' LA LM' k:=⟨⟨⟨Duo.ar hq.tr.both,hm,Duo.kp hq.tr.both,w0.heap.size,w.heap.size,w.heap.size,w1.heap.size,Nat.le_refl _,hw0,.inl (Nat.le_refl _),hwi.la,hb⟩,hs,Nat.le_trans hw0 lb⟩,hc,Nat.le_trans hw0 lc⟩
 have kp:zA (fun v=>v=p) w1 (w1.setCell ⟨p,1,none⟩ (.pointer (some ⟨c',0,none⟩))):=zJ _ _ _ _
 have hp2:=(zH hown 1 (.pointer (some ⟨c',0,none⟩))).trans rfl
 have hQ2:=hQ.oth hown kp hpl (by decide) (by decide) (by decide) (by decide) (by decide) (by decide) (by decide) (by decide) (by decide) (by decide) (by decide) (by decide) (by decide) (by decide)
 obtain⟨F,ht,hF⟩:=h1.ex
 have hS:Qs F (fun v=>v=p) w1:=fun g cc tt hg e=>by
  have e':g=p:=e
  subst e'
  rw [hown] at hg;simp at hg
  exact .inl (.inr (.inr (.inr hg.2.symm)))
 obtain⟨vq,eq,hvq⟩:=ht.c2
 obtain⟨_,⟨vt,htown,_⟩,_⟩:=id ht
 have ht2:=ht.prog hQ2.tr.both kp hS (fun q g e1 e2 e=>by
  have e':g=p:=e
  rw [eq] at e1
  obtain rfl:=Option.some.inj e1
  obtain⟨_,cc,hcc⟩:=hvq g e2
  rw [e',hown] at hcc
  simp at hcc)
 have htw:=zB htown kp (hS.no htown (by decide) (by decide))
 refine⟨⟨⟨hQ2,⟨v,hp2,hrow.keeps kp (fun g _ _ hg e=>hrow.not_pair hown (by have e':g=p:=e;rw [← e'];exact hg))⟩,hpl⟩,⟨F,ht2,fun v2 g e1 e2=>hF v2 g ?_ e2⟩,fun v2 q g e1 e2 e3=>h1.sep v2 q g ?_ ?_ e3⟩,?_,⟨⟨_,hb⟩,lb,lc⟩⟩
 ·rw [zD (i:=2) hp2 rfl] at e1
  rw [← e1];exact zD hown rfl
 ·rw [zD (i:=2) hp2 rfl] at e1
  rw [← e1];exact zD hown rfl
 ·rw [zD (i:=2) htw rfl] at e2
  rw [← e2];exact zD htown rfl
 ·have ho:OldC w1 w.heap.size m c LM k:=⟨Duo.mm hq.tr.both,⟨_,hwi.lm⟩,⟨b,hq.own⟩,zF h.pr.q.own⟩
  refine ho.keeps kp (fun g cc tt hg e=>.inr ?_)
  have e':g=p:=e
  subst e'
  rw [hown] at hg;simp at hg
  rw [← hg.2];decide
end
end Go.Proofs.YtjfmagccmjdhoaaGreat
