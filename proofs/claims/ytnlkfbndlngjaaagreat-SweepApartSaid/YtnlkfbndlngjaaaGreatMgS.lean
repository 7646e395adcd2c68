import Derived.Test.YtnlkfbndlngjaaaGreatMgR
set_option maxHeartbeats 1000000
set_option maxRecDepth 100000
namespace Go.Proofs.YtnlkfbndlngjaaaGreat
def blkN (c:Nat→Int):Nat→Nat
 | 0=>0
 | n+1=>blkN c n+if c n=2 then 1 else 0
theorem blkN_le (c:Nat→Int) (n:Nat):blkN c n≤n:=by
 induction n with
 | zero=>exact Nat.le_refl _
 | succ n ih=>unfold blkN;split <;> omega
theorem blkN_mono {c d:Nat→Int} {n:Nat} (h:∀ j,c j=2→d j=2):blkN c n≤blkN d n:=by
 induction n with
 | zero=>exact Nat.le_refl _
 | succ n ih=>
  unfold blkN
  by_cases e:c n=2
  ·rw [if_pos e,if_pos (h n e)];omega
  ·rw [if_neg e];omega
theorem blkN_lt {c d:Nat→Int} {n i:Nat} (h:∀ j,c j=2→d j=2) (hi:i<n) (h1:c i≠2) (h2:d i=2):blkN c n<blkN d n:=by
 induction n with
 | zero=>omega
 | succ n ih=>
  unfold blkN
  by_cases e:i=n
  ·subst e
   rw [if_neg h1,if_pos h2]
   have:=blkN_mono (n:=i) h
   omega
  ·have:=ih (by omega)
   by_cases e2:c n=2
   ·rw [if_pos e2,if_pos (h n e2)];omega
   ·rw [if_neg e2];omega
structure Gs (P:Pt) (S:Sq):Prop where
 grey:∀ j,j<S.n→P.c (S.f j).toNat=1
 inj:∀ j k,j<S.n→k<S.n→(S.f j).toNat=(S.f k).toNat→j=k
def Off (S:Sq) (i:Nat):Prop:=∀ j,j<S.n→(S.f j).toNat≠i
theorem Gs.shd {P:Pt} {S:Sq} (h:Gs P S) (i:Nat):Gs (shd P S i).1 (shd P S i).2:=by
 unfold YtnlkfbndlngjaaaGreat.shd
 split
 ·rename_i hc
  have ne:∀ j,j<S.n→(S.f j).toNat≠i:=fun j hj e=>by have:=h.grey j hj;rw [e,hc] at this;cases this
  have g1:∀ j,j<S.n→(P.put i 1).c (S.f j).toNat=1:=fun j hj=>by
   show updf P.c i 1 (S.f j).toNat=1
   rw [updf_ne _ _ (ne j hj)];exact h.grey j hj
  split
  ·exact⟨g1,h.inj⟩
  ·refine⟨fun j hj=>?_,fun j k hj hk e=>?_⟩
   ·have hj':j<S.n+1:=hj
    show (P.put i 1).c (updf S.f S.n (i:Int) j).toNat=1
    by_cases e:j=S.n
    ·rw [e,updf_same];show updf P.c i 1 i=1;rw [updf_same]
    ·rw [updf_ne _ _ e];exact g1 j (by omega)
   ·have hj':j<S.n+1:=hj
    have hk':k<S.n+1:=hk
    have e':(updf S.f S.n (i:Int) j).toNat=(updf S.f S.n (i:Int) k).toNat:=e
    by_cases ej:j=S.n
    ·by_cases ek:k=S.n
     ·omega
     ·rw [ej,updf_same,updf_ne _ _ ek] at e'
      exact absurd e'.symm (ne k (by omega))
    ·by_cases ek:k=S.n
     ·rw [ek,updf_same,updf_ne _ _ ej] at e'
      exact absurd e' (ne j (by omega))
     ·rw [updf_ne _ _ ej,updf_ne _ _ ek] at e'
      exact h.inj j k (by omega) (by omega) e'
 ·exact h
theorem Off.shd {P:Pt} {S:Sq} {k:Nat} (h:Off S k) (hk:P.c k≠0) (i:Nat):Off (shd P S i).2 k:=by
 unfold YtnlkfbndlngjaaaGreat.shd
 split
 ·rename_i hc
  split
  ·exact h
  ·intro j hj
   have hj':j<S.n+1:=hj
   show (updf S.f S.n (i:Int) j).toNat≠k
   by_cases e:j=S.n
   ·rw [e,updf_same]
    intro e2
    have:i=k:=by simpa using e2
    subst this
    exact hk hc
   ·rw [updf_ne _ _ e];exact h j (by omega)
 ·exact h
theorem shd_keep (P:Pt) (S:Sq) (i k:Nat) (h:P.c k≠0):(shd P S i).1.c k=P.c k:=by
 unfold YtnlkfbndlngjaaaGreat.shd
 split
 ·rename_i hc
  show updf P.c i 1 k=P.c k
  by_cases e:k=i
  ·subst e;exact absurd hc h
  ·rw [updf_ne _ _ e]
 ·rfl
theorem shds_keep (l:List Int) (PS:Pt × Sq) (k:Nat) (h:PS.1.c k≠0):(shds PS l).1.c k=PS.1.c k:=by
 induction l generalizing PS with
 | nil=>rfl
 | cons x l ih=>exact (ih _ (by rw [shd_keep _ _ _ _ h];exact h)).trans (shd_keep _ _ _ _ h)
theorem Gs.shds {l:List Int} {PS:Pt × Sq} (h:Gs PS.1 PS.2):Gs (shds PS l).1 (shds PS l).2:=by
 induction l generalizing PS with
 | nil=>exact h
 | cons x l ih=>exact ih (PS:=YtnlkfbndlngjaaaGreat.shd PS.1 PS.2 x.toNat) (h.shd x.toNat)
theorem Off.shds {l:List Int} {PS:Pt × Sq} {k:Nat} (h:Off PS.2 k) (hk:PS.1.c k≠0):Off (shds PS l).2 k:=by
 induction l generalizing PS with
 | nil=>exact h
 | cons x l ih=>exact ih (PS:=YtnlkfbndlngjaaaGreat.shd PS.1 PS.2 x.toNat) (h.shd hk x.toNat) (by rw [shd_keep _ _ _ _ hk];exact hk)
theorem Gs.put {P:Pt} {S:Sq} {i:Nat} (h:Gs P S) (hi:Off S i) (x:Int):Gs (P.put i x) S:=
 ⟨fun j hj=>by show updf P.c i x (S.f j).toNat=1;rw [updf_ne _ _ (hi j hj)];exact h.grey j hj,h.inj⟩
theorem Gs.born {P:Pt} {S:Sq} (h:Gs P S) (i:Nat):Gs (P.born i) S:=by
 unfold Pt.born
 split
 ·rename_i hc
  exact h.put (fun j hj e=>by have:=h.grey j hj;rw [e,hc] at this;cases this) 2
 ·exact h
theorem Gs.pop {P:Pt} {S:Sq} (h:Gs P S):Gs P S.pop:=
 ⟨fun j hj=>h.grey j (by have:j<S.n - 1:=hj;omega),fun j k hj hk=>h.inj j k (by have:j<S.n - 1:=hj;omega) (by have:k<S.n - 1:=hk;omega)⟩
theorem Gs.popOff {P:Pt} {S:Sq} (h:Gs P S):Off S.pop (S.f (S.n - 1)).toNat:=by
 intro j hj e
 have hj':j<S.n - 1:=hj
 have:=h.inj j (S.n - 1) (by omega) (by omega) e
 omega
def Blk (P P':Pt):Prop:=∀ j,P.c j=2→P'.c j=2
theorem Blk.refl (P:Pt):Blk P P:=fun _ h=>h
theorem Blk.trans {P Q R:Pt} (h:Blk P Q) (k:Blk Q R):Blk P R:=fun j e=>k j (h j e)
theorem Blk.shds (l:List Int) (PS:Pt × Sq):Blk PS.1 (shds PS l).1:=fun j h=>by rw [shds_keep l PS j (by rw [h];decide)];exact h
theorem Blk.put (P:Pt) (i:Nat):Blk P (P.put i 2):=fun j h=>by
 show updf P.c i 2 j=2
 by_cases e:j=i
 ·rw [e,updf_same]
 ·rw [updf_ne _ _ e];exact h
theorem Blk.born (P:Pt) (i:Nat):Blk P (P.born i):=by
 unfold Pt.born
 split
 ·exact Blk.put P i
 ·exact Blk.refl P
theorem gs_drains {M:Mk} (h:Gs M.P M.S) (k:Nat):Gs (M.drains k).P (M.drains k).S∧Blk M.P (M.drains k).P:=by
 induction k with
 | zero=>exact⟨h,Blk.refl _⟩
 | succ k ih=>exact⟨Gs.shds (PS:=((M.drains k).P,(M.drains k).S)) ih.1,ih.2.trans (Blk.shds _ ((M.drains k).P,(M.drains k).S))⟩
theorem gs_scanAt {M:Mk} {H:Hp} {i:Nat} (h:Gs M.P M.S) (ho:Off M.S i) (hc:M.P.c i=1):Gs (M.scanAt H i).P (M.scanAt H i).S∧Blk M.P (M.scanAt H i).P∧(M.scanAt H i).P.c i=2:=by
 have put2:∀ P:Pt,(P.put i 2).c i=2:=fun P=>updf_same _ _ _
 unfold Mk.scanAt
 split
 ·refine⟨?_,?_,put2 _⟩
  ·exact Gs.put (Gs.shds (PS:=(M.P,M.S)) h) (Off.shds (PS:=(M.P,M.S)) ho (by show M.P.c i≠0;rw [hc];decide)) 2
  ·exact (Blk.shds _ (M.P,M.S)).trans (Blk.put _ i)
 ·exact⟨h.put ho 2,Blk.put _ i,put2 _⟩
theorem Pt.gr_mem (P:Pt) (k:Nat) {i:Nat} (h:i∈P.gr k):P.c i=1∧i<k:=by
 induction k with
 | zero=>cases h
 | succ k ih=>
  unfold Pt.gr at h
  rcases List.mem_append.1 h with h | h
  ·have:=ih h;exact⟨this.1,by omega⟩
  ·split at h
   ·rename_i hc
    rcases List.mem_singleton.1 h with rfl
    exact⟨hc,by omega⟩
   ·cases h
theorem gs_trace {M:Mk} {H:Hp} (hok:M.Ok) (h:Gs M.P M.S):
 Gs (M.traceR H).P (M.traceR H).S∧Blk M.P (M.traceR H).P∧(((M.traceR H).K=M.K.go∧(M.traceR H).P.n=M.P.n)∨((M.traceR H).K=M.K∧(M.traceR H).P.n=M.P.n∧blkN M.P.c M.P.n<blkN (M.traceR H).P.c M.P.n)):=by
 obtain⟨hg,hb⟩:=gs_drains h M.K.many
 obtain⟨hK,hn⟩:=M.drains_K M.K.many
 have hOk:=hok.drains (Nat.le_refl _)
 unfold Mk.traceR
 generalize M.drains M.K.many=D at *
 have hlt:∀ {i:Nat} {P':Pt},i<M.P.n→D.P.c i=1→Blk D.P P'→P'.c i=2→blkN M.P.c M.P.n<blkN P'.c M.P.n:=fun {i P'} h1 h2 h3 h4=>
  Nat.lt_of_le_of_lt (blkN_mono hb) (blkN_lt h3 h1 (by rw [h2];decide) h4)
 unfold Mk.trace1
 by_cases hs:D.S.n=0
 ·rw [if_pos hs]
  rcases hx:D.P.gr D.P.n with _ | ⟨i,r⟩
  ·exact⟨hg,hb,.inl ⟨by show D.K.go=M.K.go;rw [hK],hn⟩⟩
  ·obtain⟨hc,hi⟩:=D.P.gr_mem D.P.n (i:=i) (by rw [hx];simp)
   obtain⟨s1,s2,s3⟩:=gs_scanAt (H:=H) hg (i:=i) (fun j hj=>by omega) hc
   obtain⟨k1,k2⟩:=D.scanAt_K H i
   exact⟨s1,hb.trans s2,.inr ⟨k1.trans hK,k2.trans hn,hlt (by omega) hc s2 s3⟩⟩
 ·rw [if_neg hs]
  have hc:=hg.grey (D.S.n - 1) (by omega)
  rw [if_pos hc]
  have hi:(D.S.f (D.S.n - 1)).toNat<M.P.n:=by have:=hOk.st (D.S.n - 1);omega
  obtain⟨s1,s2,s3⟩:=gs_scanAt (M:={ D with S:=D.S.pop }) (H:=H) (i:=(D.S.f (D.S.n - 1)).toNat) hg.pop hg.popOff hc
  obtain⟨k1,k2⟩:=Mk.scanAt_K { D with S:=D.S.pop } H (D.S.f (D.S.n - 1)).toNat
  exact⟨s1,hb.trans s2,.inr ⟨k1.trans hK,k2.trans hn,hlt hi hc s2 s3⟩⟩
theorem gs_shade {M:Mk} (h:Gs M.P M.S) (l:List Int):Gs (M.shade l).P (M.shade l).S∧Blk M.P (M.shade l).P:=⟨Gs.shds (PS:=(M.P,M.S)) h,Blk.shds _ (M.P,M.S)⟩
theorem gs_note {M:Mk} (h:Gs M.P M.S) (i:Nat) (x:Int):Gs (M.note i x).P (M.note i x).S∧Blk M.P (M.note i x).P:=by
 unfold Mk.note
 split
 ·exact gs_shade h [x]
 ·exact⟨h,Blk.refl _⟩
theorem gs_note1 {M:Mk} (h:Gs M.P M.S) (i:Nat) (r:Rf):Gs (M.note1 i r).P (M.note1 i r).S∧Blk M.P (M.note1 i r).P:=by
 unfold Mk.note1
 split
 ·exact gs_note h i r.s
 ·exact⟨h,Blk.refl _⟩
theorem gs_wrote {M:Mk} (h:Gs M.P M.S) (i:Int) (r q:Rf):Gs (M.wroteR i r q).1.P (M.wroteR i r q).1.S∧Blk M.P (M.wroteR i r q).1.P:=by
 unfold Mk.wroteR
 split
 ·exact⟨h,Blk.refl _⟩
 split
 ·exact⟨h,Blk.refl _⟩
 split
 ·obtain⟨h1,b1⟩:=gs_note1 h i.toNat r
  obtain⟨h2,b2⟩:=gs_note1 h1 i.toNat q
  exact⟨h2,b1.trans b2⟩
 ·exact⟨h,Blk.refl _⟩
theorem gs_made {M:Mk} (h:Gs M.P M.S) (r:Rf):Gs (M.madeR r).1.P (M.madeR r).1.S∧Blk M.P (M.madeR r).1.P:=by
 unfold Mk.madeR
 split
 ·exact⟨h,Blk.refl _⟩
 split
 ·exact⟨h.born _,Blk.born _ _⟩
 ·exact⟨h,Blk.refl _⟩
theorem Mk.wroteR_K (M:Mk) (i:Int) (r q:Rf):(M.wroteR i r q).1.K=M.K∧(M.wroteR i r q).1.P.n=M.P.n:=by
 unfold Mk.wroteR
 split
 ·exact⟨rfl,rfl⟩
 split
 ·exact⟨rfl,rfl⟩
 split
 ·exact⟨((M.note1 _ r).note1_K _ q).1.trans (M.note1_K _ r).1,((M.note1 _ r).note1_K _ q).2.trans (M.note1_K _ r).2⟩
 ·exact⟨rfl,rfl⟩
theorem Mk.madeR_K (M:Mk) (r:Rf):(M.madeR r).1.K=M.K∧(M.madeR r).1.P.n=M.P.n:=by
 unfold Mk.madeR
 split
 ·exact⟨rfl,rfl⟩
 split
 ·refine⟨rfl,?_⟩
  show (M.P.born _).n=_
  unfold Pt.born;split <;> rfl
 ·exact⟨rfl,rfl⟩
end Go.Proofs.YtnlkfbndlngjaaaGreat
namespace Go.Proofs.YtnlkfbndlngjaaaGreat
structure Sys where
 A:Ar
 M:Mk
structure Sys.Ok (s:Sys):Prop where
 a:s.A.Ok
 m:s.M.Ok
 n:s.A.H.T.n=s.M.P.n
 k:s.A.many=s.M.K.many
 g:Gs s.M.P s.M.S
structure Mv where
 kind:Nat
 m:Nat
 a:Nat
 b:Nat
 c:Nat
def Sys.told (R:Res) (s:Sys) (k:Int):Sys:=⟨R.A,if R.e=0 then (s.M.wroteR k R.was R.now).1 else s.M⟩
def Mv.doR (x:Mv) (s:Sys) (ms:Nat):Sys:=
 match x.kind % 8 with
 | 0 | 1=>⟨(s.A.makeR (x.m % ms:Nat) (x.b % 5:Nat) false).A,if (s.A.makeR (x.m % ms:Nat) (x.b % 5:Nat) false).e=0 then (s.M.madeR (s.A.makeR (x.m % ms:Nat) (x.b % 5:Nat) false).now).1 else s.M⟩
 | 2 | 3=>Sys.told (s.A.storeR (x.m % ms:Nat) (x.a % 8:Nat) (x.b % 4:Nat) ((x.c % 9:Nat) - 1)) s (x.m % ms:Nat)
 | 4=>⟨(s.A.dropR (x.m % ms:Nat) (x.a % 8:Nat)).A,s.M⟩
 | 5=>Sys.told (s.A.putR (x.m % ms:Nat) ((x.a % 8:Nat) - 1) (x.b % 3:Nat)) s (x.m % ms:Nat)
 | 6=>⟨(s.A.getR (x.m % ms:Nat) (x.b % 3:Nat)).A,s.M⟩
 | _=>⟨(s.A.loadR (x.m % ms:Nat) (x.a % 8:Nat) (x.b % 4:Nat)).A,s.M⟩
theorem Ar.makeR_n (A:Ar) (m n:Int) (h:Bool):(A.makeR m n h).A.H.T.n=A.H.T.n∧(A.makeR m n h).A.many=A.many:=by
 unfold Ar.makeR
 split
 ·exact⟨rfl,rfl⟩
 split
 ·exact⟨rfl,rfl⟩
 split
 ·exact⟨rfl,rfl⟩
 split <;> exact⟨rfl,rfl⟩
theorem Ar.pushR_n (A:Ar) (m:Nat) (v:Rf):(A.pushR m v).A.H.T.n=A.H.T.n∧(A.pushR m v).A.many=A.many:=by
 unfold Ar.pushR;split <;> exact⟨rfl,rfl⟩
theorem Ar.loadR_n (A:Ar) (m i f:Int):(A.loadR m i f).A.H.T.n=A.H.T.n∧(A.loadR m i f).A.many=A.many:=by
 unfold Ar.loadR
 split
 ·exact⟨rfl,rfl⟩
 split
 ·exact⟨rfl,rfl⟩
 split
 ·exact⟨rfl,rfl⟩
 split
 ·exact⟨rfl,rfl⟩
 ·exact Ar.pushR_n _ _ _
theorem Ar.getR_n (A:Ar) (m k:Int):(A.getR m k).A.H.T.n=A.H.T.n∧(A.getR m k).A.many=A.many:=by
 unfold Ar.getR
 split
 ·exact⟨rfl,rfl⟩
 split
 ·exact⟨rfl,rfl⟩
 split
 ·exact⟨rfl,rfl⟩
 ·exact Ar.pushR_n _ _ _
theorem Ar.storeR_n (A:Ar) (m i f j:Int):(A.storeR m i f j).A.H.T.n=A.H.T.n∧(A.storeR m i f j).A.many=A.many:=by
 unfold Ar.storeR
 split
 ·exact⟨rfl,rfl⟩
 split
 ·exact⟨rfl,rfl⟩
 split
 ·exact⟨rfl,rfl⟩
 ·exact⟨congrArg Tb.n (Hp.storeR_T _ _ _ _),rfl⟩
theorem Ar.dropR_n (A:Ar) (m i:Int):(A.dropR m i).A.H.T.n=A.H.T.n∧(A.dropR m i).A.many=A.many:=by
 unfold Ar.dropR
 split
 ·exact⟨rfl,rfl⟩
 split <;> exact⟨rfl,rfl⟩
theorem Ar.putR_n (A:Ar) (m i k:Int):(A.putR m i k).A.H.T.n=A.H.T.n∧(A.putR m i k).A.many=A.many:=by
 unfold Ar.putR
 split
 ·exact⟨rfl,rfl⟩
 split <;> exact⟨rfl,rfl⟩
structure Sys.Next (s t:Sys):Prop where
 ok:t.Ok
 K:t.M.K=s.M.K
 n:t.M.P.n=s.M.P.n
 b:Blk s.M.P t.M.P
theorem Sys.Next.refl {s:Sys} (h:s.Ok):Sys.Next s s:=⟨h,rfl,rfl,Blk.refl _⟩
theorem Sys.Ok.arena {s:Sys} (h:s.Ok) {A:Ar} (ha:A.Ok) (hn:A.H.T.n=s.A.H.T.n∧A.many=s.A.many):Sys.Next s ⟨A,s.M⟩:=
 ⟨⟨ha,h.m,hn.1.trans h.n,hn.2.trans h.k,h.g⟩,rfl,rfl,Blk.refl _⟩
theorem Sys.Ok.told {s:Sys} (h:s.Ok) {R:Res} (ha:R.A.Ok) (hn:R.A.H.T.n=s.A.H.T.n∧R.A.many=s.A.many) (k:Int):Sys.Next s (Sys.told R s k):=by
 unfold Sys.told
 split
 ·obtain⟨g1,b1⟩:=gs_wrote h.g k R.was R.now
  obtain⟨k1,k2⟩:=s.M.wroteR_K k R.was R.now
  exact⟨⟨ha,h.m.wroteR k R.was R.now,(hn.1.trans h.n).trans k2.symm,(hn.2.trans h.k).trans (congrArg Ck.many k1).symm,g1⟩,k1,k2,b1⟩
 ·exact h.arena ha hn
theorem Mv.next (x:Mv) {s:Sys} (h:s.Ok) (ms:Nat):Sys.Next s (x.doR s ms):=by
 unfold Mv.doR
 split
 ·split
  ·obtain⟨g1,b1⟩:=gs_made h.g (s.A.makeR (x.m % ms:Nat) (x.b % 5:Nat) false).now
   obtain⟨k1,k2⟩:=s.M.madeR_K (s.A.makeR (x.m % ms:Nat) (x.b % 5:Nat) false).now
   have hn:=s.A.makeR_n (x.m % ms:Nat) (x.b % 5:Nat) false
   exact⟨⟨h.a.makeR _ _ _,h.m.madeR _,(hn.1.trans h.n).trans k2.symm,(hn.2.trans h.k).trans (congrArg Ck.many k1).symm,g1⟩,k1,k2,b1⟩
  ·exact h.arena (h.a.makeR _ _ _) (s.A.makeR_n _ _ _)
 ·split
  ·obtain⟨g1,b1⟩:=gs_made h.g (s.A.makeR (x.m % ms:Nat) (x.b % 5:Nat) false).now
   obtain⟨k1,k2⟩:=s.M.madeR_K (s.A.makeR (x.m % ms:Nat) (x.b % 5:Nat) false).now
   have hn:=s.A.makeR_n (x.m % ms:Nat) (x.b % 5:Nat) false
   exact⟨⟨h.a.makeR _ _ _,h.m.madeR _,(hn.1.trans h.n).trans k2.symm,(hn.2.trans h.k).trans (congrArg Ck.many k1).symm,g1⟩,k1,k2,b1⟩
  ·exact h.arena (h.a.makeR _ _ _) (s.A.makeR_n _ _ _)
 ·exact h.told (h.a.storeR _ _ _ _) (s.A.storeR_n _ _ _ _) _
 ·exact h.told (h.a.storeR _ _ _ _) (s.A.storeR_n _ _ _ _) _
 ·exact h.arena (h.a.dropR _ _) (s.A.dropR_n _ _)
 ·exact h.told (h.a.putR _ _ _) (s.A.putR_n _ _ _) _
 ·exact h.arena (h.a.getR _ _) (s.A.getR_n _ _)
 ·exact h.arena (h.a.loadR _ _ _) (s.A.loadR_n _ _ _)
def Sys.acks (s:Sys):Nat→Sys
 | 0=>s
 | k+1=>⟨(s.acks k).A,((s.acks k).M.ackR (s.acks k).A k).M⟩
theorem Sys.ack_next {s:Sys} (h:s.Ok) (i:Int):(Sys.mk s.A (s.M.ackR s.A i).M).Ok∧(s.M.ackR s.A i).M.K.ph=s.M.K.ph∧(s.M.ackR s.A i).M.K.cy=s.M.K.cy∧(s.M.ackR s.A i).M.K.many=s.M.K.many∧(s.M.ackR s.A i).M.P.n=s.M.P.n∧Blk s.M.P (s.M.ackR s.A i).M.P:=by
 have hok:=h.m.ackR h.n i
 unfold Mk.ackR at hok ⊢
 split at hok
 ·rename_i h1
  rw [if_pos h1]
  exact⟨h,rfl,rfl,rfl,rfl,Blk.refl _⟩
 ·rename_i h1
  rw [if_neg h1]
  split at hok
  ·rename_i h2
   rw [if_pos h2]
   exact⟨h,rfl,rfl,rfl,rfl,Blk.refl _⟩
  ·rename_i h2
   rw [if_neg h2]
   split at hok
   ·rename_i h3
    rw [if_pos h3]
    obtain⟨g1,b1⟩:=gs_shade (M:={ s.M with K:=s.M.K.ack i.toNat }) h.g ((hres s.A.H (s.A.rt i.toNat).l).map (·.s))
    have hn:=shds_n (s.M.P,s.M.S) ((hres s.A.H (s.A.rt i.toNat).l).map (·.s))
    exact⟨⟨h.a,hok,h.n.trans hn.symm,h.k,g1⟩,rfl,rfl,rfl,hn,b1⟩
   ·rename_i h3
    rw [if_neg h3]
    exact⟨⟨h.a,hok,h.n,h.k,h.g⟩,rfl,rfl,rfl,rfl,Blk.refl _⟩
theorem Sys.acks_next {s:Sys} (h:s.Ok) (k:Nat):(s.acks k).Ok∧(s.acks k).A=s.A∧(s.acks k).M.K.ph=s.M.K.ph∧(s.acks k).M.K.cy=s.M.K.cy∧(s.acks k).M.K.many=s.M.K.many∧(s.acks k).M.P.n=s.M.P.n∧Blk s.M.P (s.acks k).M.P:=by
 induction k with
 | zero=>exact⟨h,rfl,rfl,rfl,rfl,rfl,Blk.refl _⟩
 | succ k ih=>
  obtain⟨h1,h2,h3,h4,h5,h6,h7⟩:=ih
  obtain⟨a1,a2,a3,a4,a5,a6⟩:=Sys.ack_next h1 k
  exact⟨a1,h2,a2.trans h3,a3.trans h4,a4.trans h5,a5.trans h6,h7.trans a6⟩
theorem Sys.acks_seen {s:Sys} (hp:s.M.K.ph=1∨s.M.K.ph=2) (h:s.Ok) (k:Nat) (hk:k≤s.M.K.many):∀ i,(s.acks k).M.K.seen i=(decide (i<k) || s.M.K.seen i):=by
 induction k with
 | zero=>intro i;simp [Sys.acks]
 | succ k ih=>
  obtain⟨h1,h2,h3,h4,h5,h6,h7⟩:=Sys.acks_next h k
  have hseen:((s.acks k).M.ackR (s.acks k).A k).M.K.seen=updf (s.acks k).M.K.seen k true:=by
   unfold Mk.ackR
   rw [if_neg (by omega),if_neg (by rw [h3];exact not_not_intro hp)]
   split <;> rfl
  intro i
  show ((s.acks k).M.ackR (s.acks k).A k).M.K.seen i=_
  rw [hseen]
  by_cases e:i=k
  ·subst e;rw [updf_same];simp
  ·rw [updf_ne _ _ e,ih (by omega) i]
   congr 1
   rw [decide_eq_decide]
   omega
def Sys.step (s:Sys):Sys:=⟨s.A,s.M.stepR s.A⟩
def Sys.answer (s:Sys):Sys:=if s.M.K.ph=1∨s.M.K.ph=2 then s.acks s.M.K.many else s
def Sys.round (s:Sys) (mid:List Mv) (i:Nat):Sys:=
 match mid[i]? with
 | some x=>x.doR s.step.answer s.M.K.many
 | none=>s.step.answer
def Sys.rounds (s:Sys) (mid:List Mv):Nat→Sys
 | 0=>s
 | i+1=>if 4≤(s.rounds mid i).M.K.ph then s.rounds mid i else (s.rounds mid i).round mid i
structure Mid (n i:Nat) (s:Sys):Prop where
 ok:s.Ok
 nn:s.M.P.n=n
 at':(s.M.K.ph=1∧i=0∧(∀ k,s.M.K.seen k=false))∨(s.M.K.ph=1∧i=1∧s.M.K.all=true)∨(s.M.K.ph=2∧i=2∧s.M.K.all=true)∨(s.M.K.ph=3∧3≤i∧i≤3+blkN s.M.P.c n)
  ∨(s.M.K.ph=4∧4≤i∧i≤4+n)
theorem Ck.all_of {K:Ck} (h:∀ i,K.seen i=decide (i<K.many)):K.all=true:=by
 unfold Ck.all
 rw [h 0,h 1,h 2,h 3]
 simp
theorem Sys.Next.mid {n i:Nat} {s t:Sys} (h:Mid n i s) (k:Sys.Next s t):Mid n i t:=by
 refine⟨k.ok,k.n.trans h.nn,?_⟩
 rw [k.K]
 have hb:=blkN_mono (n:=n) k.b
 rcases h.at' with h | h | h | h | h
 ·exact .inl h
 ·exact .inr (.inl h)
 ·exact .inr (.inr (.inl h))
 ·exact .inr (.inr (.inr (.inl ⟨h.1,h.2.1,by omega⟩)))
 ·exact .inr (.inr (.inr (.inr h)))
theorem Sys.answer_all {s:Sys} (h:s.Ok) (hp:s.M.K.ph=1∨s.M.K.ph=2) (hs:∀ k,s.M.K.seen k=false):s.answer.M.K.all=true:=by
 unfold Sys.answer
 rw [if_pos hp]
 obtain⟨h1,h2,h3,h4,h5,h6,h7⟩:=Sys.acks_next h s.M.K.many
 refine Ck.all_of (fun i=>?_)
 rw [Sys.acks_seen hp h _ (Nat.le_refl _),hs i,h5,Bool.or_false]
theorem Sys.answer_next {s:Sys} (h:s.Ok):s.answer.Ok∧s.answer.M.K.ph=s.M.K.ph∧s.answer.M.K.cy=s.M.K.cy∧s.answer.M.K.many=s.M.K.many∧s.answer.M.P.n=s.M.P.n∧Blk s.M.P s.answer.M.P:=by
 unfold Sys.answer
 split
 ·obtain⟨h1,h2,h3,h4,h5,h6,h7⟩:=Sys.acks_next h s.M.K.many
  exact⟨h1,h3,h4,h5,h6,h7⟩
 ·exact⟨h,rfl,rfl,rfl,rfl,Blk.refl _⟩
theorem Sys.step_ok {s:Sys} (h:s.Ok) (hn:(s.M.stepR s.A).P.n=s.M.P.n) (hk:(s.M.stepR s.A).K.many=s.M.K.many) (hg:Gs (s.M.stepR s.A).P (s.M.stepR s.A).S):s.step.Ok:=
 ⟨h.a,h.m.stepR h.n,h.n.trans hn.symm,h.k.trans hk.symm,hg⟩
theorem Sys.round_of {s:Sys} (mid:List Mv) (i:Nat) {n j:Nat} (h:Mid n j s.step.answer):Mid n j (s.round mid i):=by
 unfold Sys.round
 split
 ·exact (Mv.next _ h.ok _).mid h
 ·exact h
theorem Mid.round {n i:Nat} {s:Sys} (h:Mid n i s) (hp:s.M.K.ph<4) (mid:List Mv):Mid n (i+1) (s.round mid i):=by
 refine Sys.round_of mid i ?_
 have hok:=h.ok
 rcases h.at' with⟨h1,h2,h3⟩ | ⟨h1,h2,h3⟩ | ⟨h1,h2,h3⟩ | ⟨h1,h2,h3⟩ | h'
 ·
  have hrd:s.M.K.ready=false:=by
   have hm:=hok.m.k1
   simp [Ck.ready,Ck.all,h3,h1]
   omega
  have hst:s.step=s:=by
   show Sys.mk s.A (s.M.stepR s.A)=s
   unfold Mk.stepR
   rw [if_pos h1,if_neg (by rw [hrd];decide)]
  rw [hst]
  obtain⟨a1,a2,a3,a4,a5,a6⟩:=Sys.answer_next hok
  exact⟨a1,a5.trans h.nn,.inr (.inl ⟨a2.trans h1,by omega,Sys.answer_all hok (.inl h1) h3⟩)⟩
 ·
  have hrd:s.M.K.ready=true:=by simp [Ck.ready,h1,h3]
  have e:s.M.stepR s.A=Mk.shade { s.M with K:=s.M.K.go } ((hres s.A.H s.A.glL).map (·.s)):=by
   unfold Mk.stepR;rw [if_pos h1,if_pos hrd]
  have hn:(s.M.stepR s.A).P.n=s.M.P.n:=by rw [e];exact shds_n (s.M.P,s.M.S) _
  have hK:(s.M.stepR s.A).K=s.M.K.go:=by rw [e];rfl
  have hg:=(gs_shade (M:={ s.M with K:=s.M.K.go }) hok.g ((hres s.A.H s.A.glL).map (·.s))).1
  rw [← e] at hg
  have hS:=Sys.step_ok hok hn (by rw [hK];rfl) hg
  have hp2:s.step.M.K.ph=2:=by show (s.M.stepR s.A).K.ph=2;rw [hK];show (s.M.K.ph+1) % 6=2;rw [h1]
  have hs2:∀ k,s.step.M.K.seen k=false:=fun k=>by show (s.M.stepR s.A).K.seen k=false;rw [hK];rfl
  obtain⟨a1,a2,a3,a4,a5,a6⟩:=Sys.answer_next hS
  exact⟨a1,(a5.trans hn).trans h.nn,.inr (.inr (.inl ⟨a2.trans hp2,by omega,Sys.answer_all hS (.inr hp2) hs2⟩))⟩
 ·
  have hrd:s.M.K.ready=true:=by simp [Ck.ready,h1,h3]
  have e:s.M.stepR s.A={ s.M with K:=s.M.K.go }:=by
   unfold Mk.stepR;rw [if_neg (by omega),if_pos h1,if_pos hrd]
  have hS:s.step.Ok:=Sys.step_ok hok (by rw [e]) (by rw [e];rfl) (by rw [e];exact hok.g)
  have hp3:s.step.M.K.ph=3:=by show (s.M.stepR s.A).K.ph=3;rw [e];show (s.M.K.ph+1) % 6=3;rw [h1]
  obtain⟨a1,a2,a3,a4,a5,a6⟩:=Sys.answer_next hS
  have hn:s.step.M.P.n=s.M.P.n:=by show (s.M.stepR s.A).P.n=_;rw [e]
  exact⟨a1,(a5.trans hn).trans h.nn,.inr (.inr (.inr (.inl ⟨a2.trans hp3,by omega,by omega⟩)))⟩
 ·
  have e:s.M.stepR s.A=s.M.traceR s.A.H:=by
   unfold Mk.stepR;rw [if_neg (by omega),if_neg (by omega),if_pos h1]
  obtain⟨g1,g2,g3⟩:=gs_trace (H:=s.A.H) hok.m hok.g
  rw [← e] at g1 g2 g3
  have hble:=blkN_le s.M.P.c n
  have hnn:=h.nn
  rcases g3 with⟨hK,hn⟩ | ⟨hK,hn,hb⟩
  ·have hS:=Sys.step_ok hok hn (by rw [hK];rfl) g1
   have hp4:s.step.M.K.ph=4:=by show (s.M.stepR s.A).K.ph=4;rw [hK];show (s.M.K.ph+1) % 6=4;rw [h1]
   obtain⟨a1,a2,a3,a4,a5,a6⟩:=Sys.answer_next hS
   exact⟨a1,(a5.trans hn).trans h.nn,.inr (.inr (.inr (.inr ⟨a2.trans hp4,by omega,by omega⟩)))⟩
  ·have hS:=Sys.step_ok hok hn (by rw [hK]) g1
   have hp3:s.step.M.K.ph=3:=by show (s.M.stepR s.A).K.ph=3;rw [hK];exact h1
   obtain⟨a1,a2,a3,a4,a5,a6⟩:=Sys.answer_next hS
   have hb2:=blkN_mono (n:=n) a6
   rw [hnn] at hb
   have hb3:blkN s.M.P.c n<blkN s.step.M.P.c n:=hb
   exact⟨a1,(a5.trans hn).trans h.nn,.inr (.inr (.inr (.inl ⟨a2.trans hp3,by omega,by omega⟩)))⟩
 ·omega
end Go.Proofs.YtnlkfbndlngjaaaGreat
namespace Go.Proofs.YtnlkfbndlngjaaaGreat
open Go.RowKit
theorem rget_bad (b:Nat) (S:Sk) (i:Int) (w:World) (h:StAt w b S) (hi:i<0∨(S.n:Int)≤i):
 Calls Tryz.prog 181 #[.pointer (some ⟨b,0,none⟩),.int .i64 i] w fun e w'=>e = .returned (.tuple #[Rf.no.val,.int .i64 3])∧Keeps (fun _=>False) w w':=by
 obtain⟨c,hc,hC⟩:=h
 have c0:=cell_at hc hC.made
 have c1:=cell_at hc hC.len
 have h32:=hC.n32
 have hb:=lt_block hc
 have HV:=hid (fun o=>rvalid b _ (cell_at (block_keep hc ((Keeps.refl (fun _=>False) w).alloc o) (fun h=>h)) hC.made))
 clear hc hC
 rcases hi with hi | hi
 ·go_enter Tryz.func181,Tryz.ntmps181
  go_wp2_with fail
  refine (HV.out _).mono ?_
  rintro e w' ⟨rfl,h'⟩
  obtain rfl:=h'.symm
  go_wp2_with fail
  refine bodyPost_ret_by (v:=.tuple #[Rf.no.val,.int .i64 3]) (by simp [results,Tryz.results181,go_sem,Rf.val,Rf.no, *]) rfl ⟨rfl,?_⟩
  refine Keeps.fresh ?_
  repeat (first | (with_reducible exact (Keeps.refl _ _)) | with_reducible refine Keeps.setCell ?_ ?_ _ | with_reducible refine Keeps.alloc ?_ _ | with_reducible refine Keeps.drewN ?_ _ | with_reducible refine Keeps.drew ?_)
  all_goals first | (left;simp;done) | (left;simp;omega) | (right;simp;done) | (right;simp;omega)
 ·have hi0:¬ i<0:=by omega
  go_enter Tryz.func181,Tryz.ntmps181
  go_wp2_with fail
  refine (HV.out _).mono ?_
  rintro e w' ⟨rfl,h'⟩
  obtain rfl:=h'.symm
  go_wp2_with fail
  refine bodyPost_ret_by (v:=.tuple #[Rf.no.val,.int .i64 3]) (by simp [results,Tryz.results181,go_sem,Rf.val,Rf.no, *]) rfl ⟨rfl,?_⟩
  refine Keeps.fresh ?_
  repeat (first | (with_reducible exact (Keeps.refl _ _)) | with_reducible refine Keeps.setCell ?_ ?_ _ | with_reducible refine Keeps.alloc ?_ _ | with_reducible refine Keeps.drewN ?_ _ | with_reducible refine Keeps.drew ?_)
  all_goals first | (left;simp;done) | (left;simp;omega) | (right;simp;done) | (right;simp;omega)
def Sk.getR (S:Sk) (i:Int):Rf × Int:=if i<0∨(S.n:Int)≤i then (.no,3) else (S.f i.toNat,0)
theorem rget_any (b:Nat) (S:Sk) (i:Int) (w:World) (h:StAt w b S):
 Calls Tryz.prog 181 #[.pointer (some ⟨b,0,none⟩),.int .i64 i] w fun e w'=>e = .returned (.tuple #[(S.getR i).1.val,.int .i64 (S.getR i).2])∧Keeps (fun _=>False) w w':=by
 unfold Sk.getR
 split
 ·rename_i hi;exact rget_bad b S i w h hi
 ·obtain⟨j,rfl⟩:∃ j:Nat,i=j:=⟨i.toNat,by omega⟩
  exact rget_ok b S j w h (by omega)
theorem rdrop_bad (b:Nat) (S:Sk) (i:Int) (w:World) (h:StAt w b S) (hi:i<0∨(S.n:Int)≤i):
 Calls Tryz.prog 112 #[.pointer (some ⟨b,0,none⟩),.int .i64 i] w fun e w'=>e = .returned (.tuple #[Rf.no.val,.int .i64 3])∧Keeps (fun _=>False) w w':=by
 have HG:=hid (fun (w':World) (hk:Keeps (fun _=>False) w w')=>rget_bad b S i w' (h.keeps hk (fun h=>h)) hi)
 clear h hi
 go_enter Tryz.func112,Tryz.ntmps112
 go_wp2_with fail
 refine (HG.out _ (by repeat (first | exact Keeps.refl _ _ | apply Keeps.alloc | apply Keeps.drewN | apply Keeps.drew))).mono ?_
 rintro e w1 ⟨rfl,hk1⟩
 dsimp only [Rf.val,Rf.no]
 have hsz:=hk1.size
 simp only [World.size_alloc] at hsz
 have hlt:w.heap.size<w1.heap.size:=by omega
 obtain⟨a0,a1,af,al⟩:=cells2 (block_keep (alloc_new (w:=w)) hk1 (fun h=>h))
 have f0:=af 0;have f1:=af 1
 have HK1:=hid (((Keeps.refl (fun _=>False) w).alloc _).trans hk1)
 clear hk1 af
 go_wp2_with fail
 refine bodyPost_ret_by (v:=.tuple #[Rf.no.val,.int .i64 3]) (by simp [results,Tryz.results112,go_sem,Rf.val,Rf.no, *]) rfl ⟨rfl,?_⟩
 refine Keeps.fresh ?_
 repeat (first | (with_reducible exact HK1.out.up) | with_reducible refine Keeps.setCell ?_ ?_ _ | with_reducible refine Keeps.alloc ?_ _ | with_reducible refine Keeps.drewN ?_ _ | with_reducible refine Keeps.drew ?_)
 all_goals first | (left;simp;done) | (left;simp;omega) | (right;simp;done) | (right;simp;omega)
def Sk.dropR (S:Sk) (i:Int):Sk × Rf × Int:=if i<0∨(S.n:Int)≤i then (S,.no,3) else (S.drop i.toNat,S.f i.toNat,0)
end Go.Proofs.YtnlkfbndlngjaaaGreat
namespace Go.Proofs.YtnlkfbndlngjaaaGreat
open Go.RowKit
theorem glcheck_ok (g:Nat) (f:Nat→Rf) (i:Nat) (w:World) (h:GlAt w g f) (hi:i<8):
 Calls Tryz.prog 253 #[.pointer (some ⟨g,0,none⟩),.int .i64 i] w fun e w'=>e = .returned (.int .i64 0)∧w'=w:=by
 obtain⟨c,hc,hC⟩:=h
 have c0:=cell_at hc hC.made
 have hI:(i:Int)<8:=by omega
 have hI0:(0:Int)≤i:=by omega
 clear hc hC
 go_enter Tryz.func253,Tryz.ntmps253
 go_wp2
 go_ret
 exact⟨rfl,rfl⟩
theorem glcheck_bad (g:Nat) (f:Nat→Rf) (i:Int) (w:World) (h:GlAt w g f) (hi:i<0∨8≤i):
 Calls Tryz.prog 253 #[.pointer (some ⟨g,0,none⟩),.int .i64 i] w fun e w'=>e = .returned (.int .i64 3)∧w'=w:=by
 obtain⟨c,hc,hC⟩:=h
 have c0:=cell_at hc hC.made
 clear hc hC
 rcases hi with hi | hi
 ·go_enter Tryz.func253,Tryz.ntmps253
  go_wp2
  go_ret
  exact⟨rfl,rfl⟩
 ·have hi0:¬ i<0:=by omega
  go_enter Tryz.func253,Tryz.ntmps253
  go_wp2
  go_ret
  exact⟨rfl,rfl⟩
theorem glget_bad (g:Nat) (f:Nat→Rf) (i:Int) (w:World) (h:GlAt w g f) (hi:i<0∨8≤i):
 Calls Tryz.prog 211 #[.pointer (some ⟨g,0,none⟩),.int .i64 i] w fun e w'=>e = .returned (.tuple #[Rf.no.val,.int .i64 3])∧Keeps (fun _=>False) w w':=by
 have HC:=hid (fun (w':World) (hk:Keeps (fun _=>False) w w')=>glcheck_bad g f i w' (h.keeps hk (fun h=>h)) hi)
 clear h hi
 go_enter Tryz.func211,Tryz.ntmps211
 go_wp2_with fail
 refine (HC.out _ (by repeat (first | exact Keeps.refl _ _ | apply Keeps.alloc | apply Keeps.drewN | apply Keeps.drew))).mono ?_
 rintro e w' ⟨rfl,h'⟩
 obtain rfl:=h'.symm
 go_wp2_with fail
 refine bodyPost_ret_by (v:=.tuple #[Rf.no.val,.int .i64 3]) (by simp [results,Tryz.results211,go_sem,Rf.val,Rf.no, *]) rfl ⟨rfl,Keeps.fresh ?_⟩
 repeat (first | (with_reducible exact (Keeps.refl _ _)) | with_reducible refine Keeps.setCell ?_ ?_ _ | with_reducible refine Keeps.alloc ?_ _ | with_reducible refine Keeps.drewN ?_ _ | with_reducible refine Keeps.drew ?_)
 all_goals first | (left;simp;done) | (left;simp;omega) | (right;simp;done) | (right;simp;omega)
theorem glget_ok (g:Nat) (f:Nat→Rf) (i:Nat) (w:World) (h:GlAt w g f) (hi:i<8):
 Calls Tryz.prog 211 #[.pointer (some ⟨g,0,none⟩),.int .i64 i] w fun e w'=>e = .returned (.tuple #[(f i).val,.int .i64 0])∧Keeps (fun _=>False) w w':=by
 have HC:=hid (fun (w':World) (hk:Keeps (fun _=>False) w w')=>glcheck_ok g f i w' (h.keeps hk (fun h=>h)) hi)
 obtain⟨c,hc,hC⟩:=h
 have c1:=cell_at hc (hC.row i hi).1
 have c2:=cell_at hc (hC.row i hi).2
 have hl:=lt_block hc
 have hI:(i:Int)<8:=by omega
 have hI0:(0:Int)≤i:=by omega
 clear hc hC
 go_enter Tryz.func211,Tryz.ntmps211
 go_wp2_with fail
 refine (HC.out _ (by repeat (first | exact Keeps.refl _ _ | apply Keeps.alloc | apply Keeps.drewN | apply Keeps.drew))).mono ?_
 rintro e w' ⟨rfl,h'⟩
 obtain rfl:=h'.symm
 go_wp2_with fail
 refine bodyPost_ret_by (v:=.tuple #[(f i).val,.int .i64 0]) (by simp [results,Tryz.results211,go_sem,Rf.val, *]) rfl ⟨rfl,Keeps.fresh ?_⟩
 repeat (first | (with_reducible exact (Keeps.refl _ _)) | with_reducible refine Keeps.setCell ?_ ?_ _ | with_reducible refine Keeps.alloc ?_ _ | with_reducible refine Keeps.drewN ?_ _ | with_reducible refine Keeps.drew ?_)
 all_goals first | (left;simp;done) | (left;simp;omega) | (right;simp;done) | (right;simp;omega)
theorem GlC.put {c:Array Value} {f:Nat→Rf} (h:GlC c f) (i:Nat) (hi:i<8) {r:Rf} (hr:r.Wf):GlC ((c.setIfInBounds (1+i * 2) (.int .i64 r.s)).setIfInBounds (1+i * 2+1) (.int .u32 r.g)) (updf f i r):=by
 have hs:=h.size
 refine⟨by simp [hs],?_,h.row.set i hi (by omega) r,fun j=>?_⟩
 ·rw [Array.getElem?_setIfInBounds_ne (by omega),Array.getElem?_setIfInBounds_ne (by omega)];exact h.made
 ·by_cases e:j=i
  ·rw [e,updf_same];exact hr
  ·rw [updf_ne _ _ e];exact h.wf j
theorem one_good {r:Rf} (hr:r.Fine):(⟨1,r,.no,.no,.no,false⟩:Ob).Good:=by
 refine⟨show (0:Int)≤1 by decide,show (1:Int)≤4 by decide,fun h=>(by cases h),fun i=>?_,fun i hi hn=>?_⟩
 ·match i with
  | 0=>exact hr.wf
  | 1=>exact Rf.no_wf
  | 2=>exact Rf.no_wf
  | n+3=>exact Rf.no_wf
 ·match i,hi with
  | 0,_=>exact⟨show (0:Int)<1 by decide,hr.bad⟩
  | 1,_=>cases hn
  | 2,_=>cases hn
  | 3,_=>cases hn
theorem glput_bad (g:Nat) (f:Nat→Rf) (i:Int) (r:Rf) (w:World) (h:GlAt w g f) (hi:i<0∨8≤i) (hr:r.Fine):
 Calls Tryz.prog 209 #[.pointer (some ⟨g,0,none⟩),.int .i64 i,.agg #[.int .i64 r.s,.int .u32 r.g]] w fun e w'=>e = .returned (.tuple #[Rf.no.val,.int .i64 3])∧Keeps (fun _=>False) w w':=by
 have HC:=hid (fun (w':World) (hk:Keeps (fun _=>False) w w')=>glcheck_bad g f i w' (h.keeps hk (fun h=>h)) hi)
 have HF:∀ w,_:=fun w=>fcheck_good ⟨1,r,.no,.no,.no,false⟩ w (one_good hr)
 simp only [Ob.arr,Rf.no] at HF
 have HFF:=hid HF
 clear h hi HF
 go_enter Tryz.func209,Tryz.ntmps209
 go_wp2_with fail
 refine (HC.out _ (by repeat (first | exact Keeps.refl _ _ | apply Keeps.alloc | apply Keeps.drewN | apply Keeps.drew))).mono ?_
 rintro e w' ⟨rfl,h'⟩
 obtain rfl:=h'.symm
 go_wp2_with fail
 refine (HFF.out _).mono ?_
 rintro e w1 ⟨rfl,hk1⟩
 obtain⟨a0,a1,af,al⟩:=cells2 (block_keep (alloc_new' (w:=w.alloc _) (n:=w.heap.size+1) (by simp)) hk1 (fun h=>h))
 have f0:=af 0;have f1:=af 1
 have HK1:=hid ((((Keeps.refl (fun _=>False) w).alloc _).alloc _).trans hk1)
 clear hk1 af
 go_wp2_with fail
 refine bodyPost_ret_by (v:=.tuple #[Rf.no.val,.int .i64 3]) (by simp [results,Tryz.results209,go_sem,Rf.val,Rf.no, *]) rfl ⟨rfl,Keeps.fresh ?_⟩
 repeat (first | (with_reducible exact HK1.out.up) | with_reducible refine Keeps.setCell ?_ ?_ _ | with_reducible refine Keeps.alloc ?_ _ | with_reducible refine Keeps.drewN ?_ _ | with_reducible refine Keeps.drew ?_)
 all_goals first | (left;simp;done) | (left;simp;omega) | (right;simp;done) | (right;simp;omega)
theorem glput_ok (g:Nat) (f:Nat→Rf) (i:Nat) (r:Rf) (w:World) (h:GlAt w g f) (hi:i<8) (hr:r.Fine):
 Calls Tryz.prog 209 #[.pointer (some ⟨g,0,none⟩),.int .i64 i,.agg #[.int .i64 r.s,.int .u32 r.g]] w fun e w'=>e = .returned (.tuple #[(f i).val,.int .i64 0])∧Keeps (fun y=>y=g) w w'∧GlAt w' g (updf f i r):=by
 have HC:=hid (fun (w':World) (hk:Keeps (fun _=>False) w w')=>glcheck_ok g f i w' (h.keeps hk (fun h=>h)) hi)
 have HF:∀ w,_:=fun w=>fcheck_good ⟨1,r,.no,.no,.no,false⟩ w (one_good hr)
 simp only [Ob.arr,Rf.no] at HF
 have HFF:=hid HF
 obtain⟨c,hc,hG⟩:=h
 have hl:=lt_block hc
 have HB:=hid hc;have HG:=hid (hG.put i hi hr.wf)
 have HCC:=hid (fun (w':World) (hk:Keeps (fun _=>False) w w')=>And.intro (cell_at (block_keep hc hk (fun h=>h)) (hG.row i hi).1) (And.intro (cell_at (block_keep hc hk (fun h=>h)) (hG.row i hi).2) (frozen_block (block_keep hc hk (fun h=>h)))))
 obtain⟨v,hv⟩:∃ v,f i=v:=⟨_,rfl⟩
 rw [hv] at HCC
 have HV:=hid hv
 have hI:(i:Int)<8:=by omega
 have hI0:(0:Int)≤i:=by omega
 clear hc hG HF hv hr
 go_enter Tryz.func209,Tryz.ntmps209
 go_wp2_with fail
 refine (HC.out _ (by repeat (first | exact Keeps.refl _ _ | apply Keeps.alloc | apply Keeps.drewN | apply Keeps.drew))).mono ?_
 rintro e w' ⟨rfl,h'⟩
 obtain rfl:=h'.symm
 go_wp2_with fail
 refine (HFF.out _).mono ?_
 rintro e w1 ⟨rfl,hk1⟩
 have HK1:=hid ((((Keeps.refl (fun _=>False) w).alloc _).alloc _).trans hk1)
 obtain⟨a0,a1,af,al⟩:=cells2 (block_keep (alloc_new' (w:=w.alloc _) (n:=w.heap.size+1) (by simp)) hk1 (fun h=>h))
 obtain⟨b0,b1,_,bl⟩:=cells2 (block_keep (alloc_old (alloc_new (w:=w))) hk1 (fun h=>h))
 have f0:=af 0;have f1:=af 1
 obtain⟨c1,c2,cf⟩:=HCC.out _ HK1.out
 have g0:=cf (1+i * 2);have g1:=cf (1+i * 2+1)
 have hg1:g<w1.heap.size:=by have:=HK1.out.size;omega
 have HB1:=hid (block_keep HB.out HK1.out (fun h=>h))
 clear hk1 af cf
 go_wp2_with fail
 go_region
 go_wp2_with fail
 have hgn:g≠w.heap.size+1:=by omega
 refine bodyPost_ret_by (v:=.tuple #[(f i).val,.int .i64 0]) (by rw [HV.out];simp [results,Tryz.results209,go_sem,Rf.val, *]) rfl ⟨rfl,?_,?_⟩
 ·refine Keeps.mono (S:=fun y=>y=g∨w.heap.size≤y) ?_ (fun y hy h=>by rcases h with h | h;exact h;omega)
  have hk:=HK1.out.up (T:=fun y=>y=g∨w.heap.size≤y)
  repeat (first | (with_reducible exact hk) | with_reducible refine Keeps.setCell ?_ ?_ _ | with_reducible refine Keeps.alloc ?_ _ | with_reducible refine Keeps.drewN ?_ _ | with_reducible refine Keeps.drew ?_)
  all_goals first | (left;simp;done) | (left;simp;omega) | (right;simp;done) | (right;simp;omega)
 ·have q:=set_block (set_block HB1.out (1+i * 2) (.int .i64 r.s)) (1+i * 2+1) (.int .u32 r.g)
  have k3:∀ (W:World) (u v:Value) (o:Obj),Keeps (fun y=>y=w.heap.size+1) W (((W.setCell ⟨w.heap.size+1,0,none⟩ u).setCell ⟨w.heap.size+1,1,none⟩ v).alloc o).drew:=fun W u v o=>(((keeps_set1 _ _ _ _).trans (keeps_set1 _ _ _ _)).alloc _).drew
  exact⟨_,block_keep q (k3 _ _ _ _) hgn,HG.out⟩
end Go.Proofs.YtnlkfbndlngjaaaGreat
