import Derived.Test.YtnlkfbndlngjaaaGreatNgB
namespace Go.Proofs.YtnlkfbndlngjaaaGreat
def There (H:Hp) (r:Rf):Prop:=ckV H.T r.s r.g=0
def Edge (H:Hp) (i:Nat) (r:Rf):Prop:=i<H.T.n∧H.T.st i=1∧r.nz=true∧∃ k,k<4∧(H.ob i).fs k=r
inductive Rch (A:Ar):Rf→Prop
 | root {m i:Nat}:m<A.many→i<(A.rt m).n→Rch A ((A.rt m).f i)
 | var {i:Nat}:i<8→(A.gl i).nz=true→Rch A (A.gl i)
 | field {r q:Rf}:Rch A r→There A.H r→Edge A.H r.s.toNat q→Rch A q
theorem There.lt {H:Hp} {r:Rf} (h:There H r):0≤r.s∧r.s<H.T.n∧r.s.toNat<H.T.n∧H.T.st r.s.toNat=1∧H.T.gn r.s.toNat=r.g:=by
 obtain⟨i,h1,h2,h3,h4⟩:=ckV_ok h
 have:r.s.toNat=i:=by omega
 rw [this]
 exact⟨by omega,by omega,h2,h3,h4⟩
theorem There.of {H:Hp} {r:Rf} (h0:0≤r.s) (h1:r.s<H.T.n) (h2:H.T.st r.s.toNat=1) (h3:H.T.gn r.s.toNat=r.g):There H r:=by
 unfold There ckV
 rw [if_neg (by omega),if_pos ⟨h2,h3⟩]
def Noted (M:Mk) (j:Nat):Prop:=∃ k,k<M.K.many∧(j:Int)∈(M.B k).list
inductive Prot (H:Hp) (M:Mk):Nat→Prop
 | noted {j:Nat}:Noted M j→Prot H M j
 | grey {i:Nat} {r:Rf}:M.P.c i=1→Edge H i r→There H r→Prot H M r.s.toNat
 | step {i:Nat} {r:Rf}:M.P.c i=0→Prot H M i→Edge H i r→There H r→Prot H M r.s.toNat
def Cov (H:Hp) (M:Mk) (j:Nat):Prop:=M.P.c j≠0∨Prot H M j
def Got (M:Mk) (j:Nat):Prop:=M.P.c j≠0∨Noted M j
theorem Got.cov {M:Mk} {j:Nat} (h:Got M j) (H:Hp):Cov H M j:=h.imp id Prot.noted
structure Up (H:Hp) (M M':Mk):Prop where
 c:∀ j,M'.P.c j=M.P.c j∨(M.P.c j=0∧M'.P.c j=1)∨(M.P.c j=0∧M'.P.c j=2∧H.T.st j≠1)
 nt:∀ j,Noted M j→Got M' j
theorem Up.refl (H:Hp) (M:Mk):Up H M M:=⟨fun _=>.inl rfl,fun _ h=>.inr h⟩
theorem Up.ne {H:Hp} {M M':Mk} (h:Up H M M') {j:Nat} (hj:M.P.c j≠0):M'.P.c j≠0:=by
 rcases h.c j with h | h | h
 ·rw [h];exact hj
 ·exact absurd h.1 hj
 ·exact absurd h.1 hj
theorem Up.got {H:Hp} {M M':Mk} (h:Up H M M') {j:Nat} (hj:Got M j):Got M' j:=by
 rcases hj with hj | hj
 ·exact .inl (h.ne hj)
 ·exact h.nt j hj
theorem Up.trans {H:Hp} {M M' M'':Mk} (h:Up H M M') (k:Up H M' M''):Up H M M'':=by
 refine⟨fun j=>?_,fun j hj=>k.got (h.nt j hj)⟩
 rcases h.c j with h1 | h1 | h1 <;> rcases k.c j with k1 | k1 | k1
 ·left;rw [k1,h1]
 ·right;left;exact⟨by rw [← h1];exact k1.1,k1.2⟩
 ·right;right;exact⟨by rw [← h1];exact k1.1,k1.2⟩
 ·right;left;exact⟨h1.1,by rw [k1];exact h1.2⟩
 ·omega
 ·omega
 ·right;right;exact⟨h1.1,by rw [k1];exact h1.2.1,h1.2.2⟩
 ·omega
 ·omega
theorem Up.rng {H:Hp} {M M':Mk} (h:Up H M M') (hr:∀ j,M.P.c j=0∨M.P.c j=1∨M.P.c j=2) (j:Nat):M'.P.c j=0∨M'.P.c j=1∨M'.P.c j=2:=by
 have:=hr j
 rcases h.c j with h | h | h
 ·rw [h];exact this
 ·right;left;exact h.2
 ·right;right;exact h.2.1
theorem cov_up {H H':Hp} {M M':Mk} (hu:Up H M M') (ht:∀ r,There H r→There H' r) (hE:∀ i r,Edge H i r→There H r→Edge H' i r∨Got M' r.s.toNat) {j:Nat} (h:Cov H M j):Cov H' M' j:=by
 have key:∀ j,Prot H M j→Cov H' M' j:=by
  intro j hj
  induction hj with
  | noted h=>exact (hu.nt _ h).cov H'
  | @grey i r hc he hr=>
   rcases hE i r he hr with h | h
   ·have:M'.P.c i=1:=by rcases hu.c i with h | h | h <;> omega
    exact .inr (.grey this h (ht r hr))
   ·exact h.cov H'
  | @step i r hc _ he hr ih=>
   rcases hE i r he hr with h | h
   ·rcases hu.c i with h1 | h1 | h1
    ·rcases ih with h2 | h2
     ·exact absurd (h1.trans hc) h2
     ·exact .inr (.step (h1.trans hc) h2 h (ht r hr))
    ·exact .inr (.grey h1.2 h (ht r hr))
    ·exact absurd he.2.1 h1.2.2
   ·exact h.cov H'
 rcases h with h | h
 ·exact .inl (hu.ne h)
 ·exact key j h
structure Tri (A:Ar) (M:Mk):Prop where
 blk:∀ i r,M.P.c i=2→Edge A.H i r→There A.H r→Cov A.H M r.s.toNat
 var:∀ i,i<8→There A.H (A.gl i)→Cov A.H M (A.gl i).s.toNat
 root:∀ m i,m<A.many→(M.K.ph=3∨M.K.seen m=true)→i<(A.rt m).n→There A.H ((A.rt m).f i)→Cov A.H M ((A.rt m).f i).s.toNat
theorem Up.blk {H:Hp} {M M':Mk} (h:Up H M M') {i:Nat} (hi:M'.P.c i=2) (hs:H.T.st i=1):M.P.c i=2:=by
 rcases h.c i with h | h | h
 ·rw [← h];exact hi
 ·omega
 ·exact absurd hs h.2.2
theorem Tri.up {A:Ar} {M M':Mk} (h:Tri A M) (hu:Up A.H M M')
 (hr:∀ m,m<A.many→(M'.K.ph=3∨M'.K.seen m=true)→(M.K.ph=3∨M.K.seen m=true)∨∀ i,i<(A.rt m).n→There A.H ((A.rt m).f i)→M'.P.c ((A.rt m).f i).s.toNat≠0):Tri A M':=by
 have cu:∀ {j},Cov A.H M j→Cov A.H M' j:=fun h=>cov_up hu (fun _ h=>h) (fun _ _ h _=>.inl h) h
 refine⟨fun i r hc he ht=>cu (h.blk i r (hu.blk hc he.2.1) he ht),fun i hi ht=>cu (h.var i hi ht),fun m i hm hs hi ht=>?_⟩
 rcases hr m hm hs with h1 | h1
 ·exact cu (h.root m i hm h1 hi ht)
 ·exact .inl (h1 i hi ht)
theorem Tri.move {A A':Ar} {M M':Mk} (h:Tri A M) (hu:Up A.H M M') (hK:M'.K=M.K) (hm:A'.many=A.many) (ht:∀ r,There A.H r→There A'.H r) (ht':∀ r,There A'.H r→There A.H r∨Got M' r.s.toNat)
 (hE:∀ i r,Edge A.H i r→There A.H r→Edge A'.H i r∨Got M' r.s.toNat) (hE':∀ i r,Edge A'.H i r→There A'.H r→Edge A.H i r∨Got M' r.s.toNat)
 (hv:∀ i,i<8→There A'.H (A'.gl i)→A'.gl i=A.gl i∨Got M' (A'.gl i).s.toNat)
 (hr:∀ m i,m<A.many→(M.K.ph=3∨M.K.seen m=true)→i<(A'.rt m).n→There A'.H ((A'.rt m).f i)→(∃ j,j<(A.rt m).n∧(A'.rt m).f i=(A.rt m).f j)∨Cov A.H M ((A'.rt m).f i).s.toNat∨Got M' ((A'.rt m).f i).s.toNat):Tri A' M':=by
 have cu:∀ {j},Cov A.H M j→Cov A'.H M' j:=fun h=>cov_up hu ht hE h
 refine⟨fun i r hc he hx=>?_,fun i hi hx=>?_,fun m i hmm hs hi hx=>?_⟩
 ·rcases hE' i r he hx with h1 | h1
  ·rcases ht' r hx with h2 | h2
   ·exact cu (h.blk i r (hu.blk hc h1.2.1) h1 h2)
   ·exact h2.cov _
  ·exact h1.cov _
 ·rcases ht' _ hx with h2 | h2
  ·rcases hv i hi hx with h1 | h1
   ·rw [h1] at h2 ⊢;exact cu (h.var i hi h2)
   ·exact h1.cov _
  ·exact h2.cov _
 ·rw [hK] at hs
  rw [hm] at hmm
  rcases ht' _ hx with h2 | h2
  ·rcases hr m i hmm hs hi hx with⟨j,hj,h1⟩ | h1 | h1
   ·rw [h1] at h2 ⊢;exact cu (h.root m j hmm hs hj h2)
   ·exact cu h1
   ·exact h1.cov _
  ·exact h2.cov _
theorem Tri.black {A:Ar} {M:Mk} (h:Tri A M) {i:Nat} (hc:M.P.c i=1) (hk:∀ r,Edge A.H i r→There A.H r→M.P.c r.s.toNat≠0):Tri A { M with P:=M.P.put i 2 }:=by
 have c1:∀ j,j≠i→(M.P.put i 2).c j=M.P.c j:=fun j hj=>updf_ne _ _ hj
 have c2:(M.P.put i 2).c i=2:=updf_same _ _ _
 have c3:∀ j,M.P.c j≠0→(M.P.put i 2).c j≠0:=fun j hj=>by
  by_cases e:j=i
  ·rw [e,c2];decide
  ·rw [c1 j e];exact hj
 have cu:∀ j,Cov A.H M j→Cov A.H { M with P:=M.P.put i 2 } j:=by
  have key:∀ j,Prot A.H M j→Cov A.H { M with P:=M.P.put i 2 } j:=by
   intro j hj
   induction hj with
   | noted h=>exact .inr (.noted h)
   | @grey k r hc he hr=>
    by_cases e:k=i
    ·subst e;exact .inl (c3 _ (hk r he hr))
    ·exact .inr (.grey (by show (M.P.put i 2).c k=1;rw [c1 k e];exact hc) he hr)
   | @step k r hc0 _ he hr ih=>
    have e:k≠i:=fun e=>by rw [e,hc] at hc0;cases hc0
    have hk0:(M.P.put i 2).c k=0:=by rw [c1 k e];exact hc0
    rcases ih with h2 | h2
    ·exact absurd hk0 h2
    ·exact .inr (.step hk0 h2 he hr)
  intro j hj
  rcases hj with hj | hj
  ·exact .inl (c3 j hj)
  ·exact key j hj
 refine⟨fun k r hck he ht=>?_,fun k hk ht=>cu _ (h.var k hk ht),fun m k hm hs hi ht=>cu _ (h.root m k hm hs hi ht)⟩
 by_cases e:k=i
 ·subst e;exact .inl (c3 _ (hk r he ht))
 ·have hck':M.P.c k=2:=by rw [← c1 k e];exact hck
  exact cu _ (h.blk k r hck' he ht)
theorem Tri.done {A:Ar} {M:Mk} (h:Tri A M) (hr:∀ j,M.P.c j=0∨M.P.c j=1∨M.P.c j=2) (h3:M.K.ph=3) (hn:∀ j,¬ Noted M j) (hg:∀ j,j<A.H.T.n→M.P.c j≠1) (nd:∀ r,Rch A r→There A.H r):∀ r,Rch A r→M.P.c r.s.toNat=2:=by
 have np:∀ j,Prot A.H M j→False:=by
  intro j hj
  induction hj with
  | noted h=>exact hn _ h
  | grey hc he hr=>exact hg _ he.1 hc
  | step _ _ _ _ ih=>exact ih
 have two:∀ r,There A.H r→Cov A.H M r.s.toNat→M.P.c r.s.toNat=2:=by
  intro r ht hc
  rcases hc with hc | hc
  ·have h1:=hg _ ht.lt.2.2.1
   have h2:=hr r.s.toNat
   omega
  ·exact (np _ hc).elim
 intro r hx
 induction hx with
 | @root m i hm hi=>exact two _ (nd _ (.root hm hi)) (h.root m i hm (.inl h3) hi (nd _ (.root hm hi)))
 | @var i hi hz=>exact two _ (nd _ (.var hi hz)) (h.var i hi (nd _ (.var hi hz)))
 | @field r q hr' ht he ih=>exact two _ (nd _ (.field hr' ht he)) (h.blk _ q ih he (nd _ (.field hr' ht he)))
end Go.Proofs.YtnlkfbndlngjaaaGreat
namespace Go.Proofs.YtnlkfbndlngjaaaGreat
theorem shd_c (P:Pt) (S:Sq) (i j:Nat):(shd P S i).1.c j=P.c j∨(P.c j=0∧(shd P S i).1.c j=1):=by
 unfold shd
 split
 ·rename_i hc
  by_cases e:j=i
  ·subst e;right;exact⟨hc,updf_same _ _ _⟩
  ·left;exact updf_ne _ _ e
 ·exact .inl rfl
theorem shd_nz (P:Pt) (S:Sq) (i:Nat):(shd P S i).1.c i≠0:=by
 unfold shd
 split
 ·show updf P.c i 1 i≠0
  rw [updf_same];decide
 ·rename_i h;exact h
theorem shds_c:∀ (l:List Int) (PS:Pt × Sq) (j:Nat),(shds PS l).1.c j=PS.1.c j∨(PS.1.c j=0∧(shds PS l).1.c j=1)
 | [],_,_=>.inl rfl
 | x :: l,PS,j=>by
  rcases shds_c l (shd PS.1 PS.2 x.toNat) j with h | h <;> rcases shd_c PS.1 PS.2 x.toNat j with k | k
  ·left;exact h.trans k
  ·right;exact⟨k.1,h.trans k.2⟩
  ·right;exact⟨k ▸ h.1,h.2⟩
  ·omega
theorem shds_nz:∀ (l:List Int) (PS:Pt × Sq) (x:Int),x∈l→(shds PS l).1.c x.toNat≠0
 | [],_,_,h=>by cases h
 | y :: l,PS,x,h=>by
  rcases List.mem_cons.1 h with rfl | h
  ·show (shds (shd PS.1 PS.2 x.toNat) l).1.c x.toNat≠0
   have:=shd_nz PS.1 PS.2 x.toNat
   rcases shds_c l (shd PS.1 PS.2 x.toNat) x.toNat with h | h
   ·rw [h];exact this
   ·exact absurd h.1 this
  ·exact shds_nz l _ x h
theorem up_of {H:Hp} {M M':Mk} (hc:∀ j,M'.P.c j=M.P.c j∨(M.P.c j=0∧M'.P.c j=1)) (hn:∀ j,Noted M j→Got M' j):Up H M M':=
 ⟨fun j=>(hc j).imp id .inl,hn⟩
theorem up_shade (H:Hp) (M:Mk) (l:List Int):Up H M (M.shade l)∧∀ x∈l,(M.shade l).P.c x.toNat≠0:=
 ⟨up_of (fun j=>shds_c l (M.P,M.S) j) (fun _ h=>.inr h),fun x hx=>shds_nz l (M.P,M.S) x hx⟩
theorem Bf.list_note {B:Bf} (h:B.n<B.size) (x:Int):(B.note x).list=B.list ++ [x]:=by
 unfold Bf.list Bf.note
 dsimp only
 rw [List.range_succ,List.map_append]
 congr 1
 ·apply List.map_congr_left
  intro i hi
  have hi':i<B.n:=List.mem_range.1 hi
  refine updf_ne _ _ (fun e=>?_)
  have:=Nat.sub_mod_eq_zero_of_mod_eq e.symm
  rw [Nat.add_sub_add_left,Nat.mod_eq_of_lt (by omega)] at this
  omega
 ·simp [updf_same]
def Full (M:Mk):Prop:=∀ k,(M.B k).n≤(M.B k).size
theorem Full.upd {M:Mk} (h:Full M) (i:Nat) {B:Bf} (hB:B.n≤B.size) (k:Nat):(updf M.B i B k).n≤(updf M.B i B k).size:=by
 by_cases e:k=i
 ·subst e;rw [updf_same];exact hB
 ·rw [updf_ne _ _ e];exact h k
theorem up_note (H:Hp) {M:Mk} (h:Full M) {i:Nat} (hi:i<M.K.many) {x:Int} (hx:0≤x):Up H M (M.note i x)∧Got (M.note i x) x.toNat∧Full (M.note i x)∧∀ j,(M.note i x).P.c j=M.P.c j∨(M.P.c j=0∧(M.note i x).P.c j=1):=by
 unfold Mk.note
 split
 ·have hc:∀ j,(shd M.P M.S x.toNat).1.c j=M.P.c j∨(M.P.c j=0∧(shd M.P M.S x.toNat).1.c j=1):=fun j=>shd_c _ _ _ j
  refine⟨up_of hc (fun j ⟨k,hk,hj⟩=>.inr ⟨k,hk,?_⟩),.inl (shd_nz _ _ _),fun k=>h.upd i (B:=(M.B i).over) (h i) k,hc⟩
  show (j:Int)∈(updf M.B i (M.B i).over k).list
  by_cases e:k=i
  ·subst e;rw [updf_same];exact hj
  ·rw [updf_ne _ _ e];exact hj
 ·rename_i hn
  have hlt:(M.B i).n<(M.B i).size:=by have:=h i;omega
  have hl:∀ k (y:Int),(y∈(M.B k).list∨(k=i∧y=x))→y∈(updf M.B i ((M.B i).note x) k).list:=fun k y hy=>by
   by_cases e:k=i
   ·subst e;rw [updf_same,Bf.list_note hlt]
    rcases hy with hy | hy
    ·exact List.mem_append.2 (.inl hy)
    ·exact List.mem_append.2 (.inr (List.mem_singleton.2 hy.2))
   ·rw [updf_ne _ _ e]
    rcases hy with hy | hy
    ·exact hy
    ·exact absurd hy.1 e
  refine⟨up_of (fun _=>.inl rfl) (fun j ⟨k,hk,hj⟩=>.inr ⟨k,hk,hl k _ (.inl hj)⟩),.inr ⟨i,hi,hl i _ (.inr ⟨rfl,by omega⟩)⟩,fun k=>h.upd i (B:=(M.B i).note x) (by show (M.B i).n+1≤_;exact hlt) k,fun _=>.inl rfl⟩
theorem up_note1 (H:Hp) {M:Mk} (h:Full M) {i:Nat} (hi:i<M.K.many) {r:Rf} (hr:r.nz=true→0≤r.s):
 Up H M (M.note1 i r)∧(r.nz=true→Got (M.note1 i r) r.s.toNat)∧Full (M.note1 i r)∧∀ j,(M.note1 i r).P.c j=M.P.c j∨(M.P.c j=0∧(M.note1 i r).P.c j=1):=by
 unfold Mk.note1
 split
 ·rename_i hz
  obtain⟨h1,h2,h3,h4⟩:=up_note H h hi (x:=r.s) (hr hz)
  exact⟨h1,fun _=>h2,h3,h4⟩
 ·rename_i hz
  exact⟨Up.refl _ _,fun h=>absurd h hz,h,fun _=>.inl rfl⟩
theorem c_trans {P Q R:Nat→Int} (h:∀ j,Q j=P j∨(P j=0∧Q j=1)) (k:∀ j,R j=Q j∨(Q j=0∧R j=1)) (j:Nat):R j=P j∨(P j=0∧R j=1):=by
 rcases h j with h | h <;> rcases k j with k | k <;> omega
theorem up_wrote (H:Hp) {M:Mk} (h:Full M) {i:Nat} (hi:i<M.K.many) {was now:Rf} (hw:was.nz=true→0≤was.s∧was.s<M.P.n) (hn:now.nz=true→0≤now.s∧now.s<M.P.n):
 Up H M (M.wroteR i was now).1∧((M.K.ph=2∨M.K.ph=3)→(was.nz=true→Got (M.wroteR i was now).1 was.s.toNat)∧(now.nz=true→Got (M.wroteR i was now).1 now.s.toNat))∧Full (M.wroteR i was now).1
  ∧(∀ j,(M.wroteR i was now).1.P.c j=M.P.c j∨(M.P.c j=0∧(M.wroteR i was now).1.P.c j=1))∧(M.wroteR i was now).2=0:=by
 have kn:∀ r:Rf,(r.nz=true→0≤r.s∧r.s<M.P.n)→M.known r=true:=fun r hr=>by
  unfold Mk.known
  rcases hz:r.nz with _ | _
  ·rfl
  ·simpa using hr hz
 have k1:¬ ((i:Int)<0∨(M.K.many:Int)≤i):=by omega
 have k2:¬ (M.known was && M.known now)=false:=by rw [kn was hw,kn now hn];decide
 unfold Mk.wroteR
 rw [if_neg k1,if_neg k2,Int.toNat_natCast]
 split
 ·obtain⟨a1,a2,a3,a4⟩:=up_note1 H h hi (r:=was) (fun h=>(hw h).1)
  obtain⟨b1,b2,b3,b4⟩:=up_note1 H a3 (i:=i) (by rw [(M.note1_K _ _).1];exact hi) (r:=now) (fun h=>(hn h).1)
  exact⟨a1.trans b1,fun _=>⟨fun hz=>b1.got (a2 hz),b2⟩,b3,fun j=>c_trans a4 b4 j,rfl⟩
 ·rename_i hb
  refine⟨Up.refl _ _,fun hp=>absurd ?_ hb,h,fun _=>.inl rfl,rfl⟩
  unfold Ck.bar
  rw [if_neg (by omega)]
  simpa using hp
theorem up_drain1 (H:Hp) {M:Mk} (h:Full M) (k:Nat):Up H M (M.drain1 k)∧Full (M.drain1 k)∧∀ j,((M.drain1 k).B j).list=if j=k then [] else (M.B j).list:=by
 have hl:∀ j,((M.drain1 k).B j).list=if j=k then [] else (M.B j).list:=fun j=>by
  show (updf M.B k (M.B k).drain j).list=_
  by_cases e:j=k
  ·rw [if_pos e,e,updf_same];rfl
  ·rw [if_neg e,updf_ne _ _ e]
 obtain⟨u1,u2⟩:=up_shade H M (M.B k).list
 refine⟨⟨u1.c,fun j ⟨i,hi,hj⟩=>?_⟩,fun j=>h.upd k (B:=(M.B k).drain) (Nat.zero_le _) j,hl⟩
 by_cases e:i=k
 ·subst e
  left
  have:=u2 _ hj
  rwa [Int.toNat_natCast] at this
 ·refine .inr ⟨i,hi,?_⟩
  rw [hl,if_neg e];exact hj
theorem up_drains (H:Hp) {M:Mk} (h:Full M) (k:Nat):Up H M (M.drains k)∧Full (M.drains k)∧∀ j,j<k→((M.drains k).B j).list=[]:=by
 induction k with
 | zero=>exact⟨Up.refl _ _,h,fun _ h=>absurd h (Nat.not_lt_zero _)⟩
 | succ k ih=>
  obtain⟨h1,h2,h3⟩:=ih
  obtain⟨d1,d2,d3⟩:=up_drain1 H h2 k
  refine⟨h1.trans d1,d2,fun j hj=>?_⟩
  show (((M.drains k).drain1 k).B j).list=[]
  rw [d3]
  split
  ·rfl
  ·exact h3 j (by omega)
theorem mem_hres {H:Hp} {l:List Rf} {r:Rf}:r∈hres H l↔r∈l∧There H r:=by
 unfold hres There
 rw [List.mem_filter]
 simp
theorem mem_chs {H:Hp} {i:Nat} {r:Rf} (he:Edge H i r) (ht:There H r):r.s∈chs H (H.ob i):=by
 obtain⟨_,_,hz,k,hk,hf⟩:=he
 refine List.mem_map.2 ⟨r,mem_hres.2 ⟨?_,ht⟩,rfl⟩
 obtain⟨suf,hs⟩:=Ob.upto_split (o:=H.ob i) hk (by rw [hf];exact hz)
 rw [hs]
 refine List.mem_map.2 ⟨(k,r),?_,rfl⟩
 rw [hf]
 exact List.mem_append.2 (.inr (List.mem_cons_self ..))
theorem Tri.scanAt {A:Ar} {M:Mk} (h:Tri A M) {i:Nat} (hc:M.P.c i=1):Tri A (M.scanAt A.H i):=by
 unfold Mk.scanAt
 split
 ·obtain⟨u1,u2⟩:=up_shade A.H M (chs A.H (A.H.ob i))
  have h1:Tri A (M.shade (chs A.H (A.H.ob i))):=h.up u1 (fun _ _ h=>.inl h)
  exact h1.black (by show (shds (M.P,M.S) _).1.c i=1;exact shds_one (M.P,M.S) _ i hc) (fun r he ht=>u2 _ (mem_chs he ht))
 ·rename_i hs
  exact h.black hc (fun r he _=>absurd he.2.1 hs)
theorem scanAt_c {M:Mk} {H:Hp} {i:Nat} (j:Nat):(M.scanAt H i).P.c j=2∨(M.scanAt H i).P.c j=M.P.c j∨(M.P.c j=0∧(M.scanAt H i).P.c j=1):=by
 have p2:∀ (P:Pt),(P.put i 2).c j=2∨(P.put i 2).c j=P.c j:=fun P=>by
  by_cases e:j=i
  ·left;rw [e];exact updf_same _ _ _
  ·right;exact updf_ne _ _ e
 unfold Mk.scanAt
 split
 ·show ((shds (M.P,M.S) (chs H (H.ob i))).1.put i 2).c j=2∨_
  rcases p2 (shds (M.P,M.S) (chs H (H.ob i))).1 with h | h
  ·exact .inl h
  ·right
   show ((shds (M.P,M.S) (chs H (H.ob i))).1.put i 2).c j=_∨_∧((shds (M.P,M.S) (chs H (H.ob i))).1.put i 2).c j=1
   rw [h];exact shds_c _ (M.P,M.S) j
 ·rcases p2 M.P with h | h
  ·exact .inl h
  ·exact .inr (.inl h)
theorem scanAt_full {M:Mk} (h:Full M) (H:Hp) (i:Nat):Full (M.scanAt H i):=by
 unfold Mk.scanAt
 split
 ·exact h
 ·exact h
end Go.Proofs.YtnlkfbndlngjaaaGreat
set_option linter.unusedVariables false
namespace Go.Proofs.YtnlkfbndlngjaaaGreat
structure Safe (s:Sys):Prop where
 rng:∀ j,s.M.P.c j=0∨s.M.P.c j=1∨s.M.P.c j=2
 full:Full s.M
 nd:∀ r,Rch s.A r→There s.A.H r
 p1:s.M.K.ph≤1→∀ j,s.M.P.c j≠2
 p3:s.M.K.ph=2∨s.M.K.ph=3→Tri s.A s.M
 p5:4≤s.M.K.ph→∀ r,Rch s.A r→s.M.P.c r.s.toNat≠0
theorem There.nz {A:Ar} (h:A.Ok) {r:Rf} (ht:There A.H r):r.nz=true:=by
 obtain⟨_,_,h3,_,h5⟩:=ht.lt
 have:=(h.tb _ h3).1
 simp only [Rf.nz,Bool.not_eq_true',Bool.and_eq_false_iff,beq_eq_false_iff_ne]
 right;omega
theorem safe_begin {s:Sys} (h:Safe s):Safe s.begun:=by
 unfold Sys.begun Mk.beginR
 split
 ·rename_i hp
  exact⟨h.rng,h.full,h.nd,fun _=>h.p1 (by omega),fun hx=>by rcases hx with hx | hx <;> (simp [Ck.to] at hx),fun hx=>by simp [Ck.to] at hx⟩
 ·exact h
theorem ready_seen {K:Ck} (h:K.ready=true) (h4:K.many≤4):∀ m,m<K.many→K.seen m=true:=by
 intro m hm
 simp only [Ck.ready,Ck.all,Bool.and_eq_true,beq_iff_eq] at h
 obtain⟨_,⟨⟨⟨h0,h1⟩,h2⟩,h3⟩⟩:=h
 have:m=0∨m=1∨m=2∨m=3:=by omega
 rcases this with rfl | rfl | rfl | rfl
 ·rw [h0];simpa using hm
 ·rw [h1];simpa using hm
 ·rw [h2];simpa using hm
 ·rw [h3];simpa using hm
theorem up_K {H:Hp} {M:Mk} {K:Ck} (hm:K.many=M.K.many):Up H M { M with K:=K }:=
 up_of (fun _=>.inl rfl) (fun _ ⟨k,hk,hj⟩=>.inr ⟨k,by show k<K.many;rw [hm];exact hk,hj⟩)
theorem safe_trace {s:Sys} (hok:s.Ok) (h:Safe s) (hp:s.M.K.ph=3):Safe ⟨s.A,s.M.traceR s.A.H⟩:=by
 obtain⟨u1,u2,u3⟩:=up_drains s.A.H h.full s.M.K.many
 obtain⟨k1,k2⟩:=s.M.drains_K s.M.K.many
 have hT:Tri s.A (s.M.drains s.M.K.many):=(h.p3 (.inr hp)).up u1 (fun m hm hx=>.inl (by rw [k1] at hx;exact hx))
 have hr:=u1.rng h.rng
 have hn:∀ j,¬ Noted (s.M.drains s.M.K.many) j:=fun j ⟨k,hk,hj⟩=>by
  rw [k1] at hk
  rw [u3 k hk] at hj
  cases hj
 have hp3:(s.M.drains s.M.K.many).K.ph=3:=by rw [k1];exact hp
 unfold Mk.traceR
 generalize s.M.drains s.M.K.many=D at *
 have one:∀ {E:Mk} {i:Nat},Tri s.A E→E.K=D.K→(∀ j,E.P.c j=D.P.c j)→Full E→E.P.c i=1→Safe ⟨s.A,E.scanAt s.A.H i⟩:=fun {E i} ht hK hc hf h1=>by
  have e:=(E.scanAt_K s.A.H i).1
  have hp':(E.scanAt s.A.H i).K.ph=3:=by rw [e,hK];exact hp3
  refine⟨fun j=>?_,scanAt_full hf _ _,h.nd,fun hx=>?_,fun _=>ht.scanAt h1,fun hx=>?_⟩
  ·have hj:=hr j
   rcases scanAt_c (M:=E) (H:=s.A.H) (i:=i) j with h | h | h
   ·exact .inr (.inr h)
   ·rw [h,hc];exact hj
   ·exact .inr (.inl h.2)
  ·have hx':(E.scanAt s.A.H i).K.ph≤1:=hx
   omega
  ·have hx':4≤(E.scanAt s.A.H i).K.ph:=hx
   omega
 unfold Mk.trace1
 split
 ·rename_i hs
  split
  ·rename_i hg
   have hg':∀ j,j<s.A.H.T.n→D.P.c j≠1:=fun j hj hc=>by
    obtain⟨suf,e⟩:=Pt.gr_split (P:=D.P) (k:=j) (n:=D.P.n) (by rw [k2,← hok.n];exact hj) hc
    rw [e] at hg
    simp at hg
   have hd:=hT.done hr hp3 hn hg' h.nd
   have hp4:D.K.go.ph=4:=by show (D.K.ph+1) % 6=4;rw [hp3]
   refine⟨hr,u2,h.nd,fun hx=>?_,fun hx=>?_,fun _ r hx=>?_⟩
   ·have hx':D.K.go.ph≤1:=hx;omega
   ·have hx':D.K.go.ph=2∨D.K.go.ph=3:=hx;omega
   ·show D.P.c r.s.toNat≠0
    rw [hd r hx];decide
  ·rename_i i r hg
   exact one hT rfl (fun _=>rfl) u2 (D.P.gr_mem D.P.n (i:=i) (by rw [hg];simp)).1
 ·rename_i hs
  have hT':Tri s.A { D with S:=D.S.pop }:=hT.up (up_of (fun _=>.inl rfl) (fun _ h=>.inr h)) (fun _ _ h=>.inl h)
  split
  ·rename_i hc
   exact one (E:={ D with S:=D.S.pop }) hT' rfl (fun _=>rfl) u2 hc
  ·refine⟨hr,u2,h.nd,fun hx=>?_,fun _=>hT',fun hx=>?_⟩
   ·have hx':D.K.ph≤1:=hx;omega
   ·have hx':4≤D.K.ph:=hx;omega
theorem safe_step {s:Sys} (hok:s.Ok) (h:Safe s):Safe s.step:=by
 unfold Sys.step Mk.stepR
 split
 ·rename_i hp
  split
  ·rename_i hrd
   have hp2:s.M.K.go.ph=2:=by show (s.M.K.ph+1) % 6=2;rw [hp]
   have hsc:=fun j=>shds_c ((hres s.A.H s.A.glL).map (·.s)) (s.M.P,s.M.S) j
   have hnz:=fun x hx=>shds_nz ((hres s.A.H s.A.glL).map (·.s)) (s.M.P,s.M.S) x hx
   have hno:=h.p1 (by omega)
   refine⟨fun j=>?_,h.full,h.nd,fun hx=>?_,fun _=>⟨fun i r hc he ht=>?_,fun i hi ht=>.inl ?_,fun m i hm hs hi ht=>?_⟩,fun hx=>?_⟩
   ·have h0:=h.rng j
    have h1:=hsc j
    show (shds (s.M.P,s.M.S) _).1.c j=0∨(shds (s.M.P,s.M.S) _).1.c j=1∨(shds (s.M.P,s.M.S) _).1.c j=2
    rcases h1 with h1 | h1
    ·rw [h1];exact h0
    ·exact .inr (.inl h1.2)
   ·have hx':s.M.K.go.ph≤1:=hx;omega
   ·have hc':(shds (s.M.P,s.M.S) ((hres s.A.H s.A.glL).map (·.s))).1.c i=2:=hc
    rcases hsc i with h1 | h1
    ·exact absurd (h1.symm.trans hc') (hno i)
    ·omega
   ·show (shds (s.M.P,s.M.S) ((hres s.A.H s.A.glL).map (·.s))).1.c (s.A.gl i).s.toNat≠0
    refine hnz _ (List.mem_map.2 ⟨s.A.gl i,mem_hres.2 ⟨?_,ht⟩,rfl⟩)
    exact List.mem_filter.2 ⟨List.mem_map.2 ⟨i,List.mem_range.2 hi,rfl⟩,ht.nz hok.a⟩
   ·have hs':s.M.K.go.ph=3∨s.M.K.go.seen m=true:=hs
    rcases hs' with hs' | hs'
    ·omega
    ·cases hs'
   ·have hx':4≤s.M.K.go.ph:=hx;omega
  ·exact h
 split
 ·rename_i hp
  split
  ·rename_i hrd
   have hp3:s.M.K.go.ph=3:=by show (s.M.K.ph+1) % 6=3;rw [hp]
   have hse:=ready_seen hrd hok.m.k4
   refine⟨h.rng,h.full,h.nd,fun hx=>?_,fun _=>?_,fun hx=>?_⟩
   ·have hx':s.M.K.go.ph≤1:=hx;omega
   ·exact (h.p3 (.inl hp)).up (up_K rfl) (fun m hm _=>.inl (.inr (hse m (by rw [← hok.k];exact hm))))
   ·have hx':4≤s.M.K.go.ph:=hx;omega
  ·exact h
 split
 ·rename_i hp
  exact safe_trace hok h hp
 ·exact h
theorem safe_go {s:Sys} (hok:s.Ok) (h:Safe s):Safe ⟨s.A,s.M.goR.1⟩:=by
 unfold Mk.goR
 split
 ·exact h
 split
 ·rename_i h1 h2
  have hp5:s.M.K.go.ph=5:=by show (s.M.K.ph+1) % 6=5;rw [h2]
  refine⟨h.rng,h.full,h.nd,fun hx=>?_,fun hx=>?_,fun _=>h.p5 (by omega)⟩
  ·have hx':s.M.K.go.ph≤1:=hx;omega
  ·have hx':s.M.K.go.ph=2∨s.M.K.go.ph=3:=hx;omega
 ·rename_i h1 h2
  have:=hok.m.ph
  have hp0:s.M.K.go.ph=0:=by show (s.M.K.ph+1) % 6=0;omega
  refine⟨fun _=>.inl rfl,fun k=>?_,h.nd,fun _ j hj=>?_,fun hx=>?_,fun hx=>?_⟩
  ·show (setd s.M.B s.M.K.many k).n≤(setd s.M.B s.M.K.many k).size
   unfold setd
   split
   ·exact Nat.zero_le _
   ·exact h.full k
  ·have hj':(0:Int)=2:=hj
   cases hj'
  ·have hx':s.M.K.go.ph=2∨s.M.K.go.ph=3:=hx;omega
  ·have hx':4≤s.M.K.go.ph:=hx;omega
theorem safe_free {s:Sys} (h:Safe s) {i:Nat} {A':Ar} (h5:4≤s.M.K.ph) (hc:s.M.P.c i=0) (hm:A'.many=s.A.many) (hr:A'.rt=s.A.rt) (hg:A'.gl=s.A.gl)
 (ho:∀ j,j≠i→A'.H.ob j=s.A.H.ob j) (hn:A'.H.T.n=s.A.H.T.n) (hs:∀ j,j≠i→A'.H.T.st j=s.A.H.T.st j) (hgn:∀ j,j≠i→A'.H.T.gn j=s.A.H.T.gn j) (hi:A'.H.T.st i≠1):Safe ⟨A',s.M⟩∧∀ r,Rch A' r→Rch s.A r:=by
 have hne:∀ r,Rch s.A r→r.s.toNat≠i:=fun r hx e=>h.p5 h5 r hx (by rw [e];exact hc)
 have key:∀ r,Rch A' r→Rch s.A r:=by
  intro r hx
  induction hx with
  | @root m k h1 h2=>rw [hr] at h2 ⊢;rw [hm] at h1;exact .root h1 h2
  | @var k h1 h2=>rw [hg] at h2 ⊢;exact .var h1 h2
  | @field r q _ ht he ih=>
   have e:=hne r ih
   obtain⟨e1,e2,e3,e4⟩:=he
   refine .field ih (h.nd r ih) ⟨by rw [← hn];exact e1,by rw [← hs _ e];exact e2,e3,?_⟩
   rw [← ho _ e];exact e4
 have th:∀ r,Rch s.A r→There A'.H r:=fun r hx=>by
  obtain⟨t1,t2,t3,t4,t5⟩:=(h.nd r hx).lt
  have e:=hne r hx
  exact There.of t1 (by rw [hn];exact t2) (by rw [hs _ e];exact t4) (by rw [hgn _ e];exact t5)
 refine⟨⟨h.rng,h.full,fun r hx=>th r (key r hx),h.p1,fun hx=>?_,fun h4 r hx=>h.p5 h4 r (key r hx)⟩,key⟩
 have hx':s.M.K.ph=2∨s.M.K.ph=3:=hx
 omega
end Go.Proofs.YtnlkfbndlngjaaaGreat
set_option linter.unusedVariables false
namespace Go.Proofs.YtnlkfbndlngjaaaGreat
structure Did (s t:Sys) (N:Rf→Prop):Prop where
 many:t.A.many=s.A.many
 rch:∀ r,Rch t.A r→Rch s.A r∨N r
 th:∀ r,There s.A.H r→There t.A.H r
 new:∀ r,N r→There t.A.H r∧¬ There s.A.H r
 up:Up s.A.H s.M t.M
 K:t.M.K=s.M.K
 full:Full t.M
 tri:(s.M.K.ph=2∨s.M.K.ph=3)→Tri t.A t.M
 p1:s.M.K.ph≤1→∀ j,t.M.P.c j=2→s.M.P.c j=2
 p5:4≤s.M.K.ph→∀ r,N r→t.M.P.c r.s.toNat≠0
theorem Did.safe {s t:Sys} {N:Rf→Prop} (h:Safe s) (d:Did s t N):Safe t:=by
 refine⟨d.up.rng h.rng,d.full,fun r hr=>?_,fun hx j hj=>?_,fun hx=>?_,fun hx r hr=>?_⟩
 ·rcases d.rch r hr with h1 | h1
  ·exact d.th r (h.nd r h1)
  ·exact (d.new r h1).1
 ·rw [d.K] at hx
  exact h.p1 hx j (d.p1 hx j hj)
 ·rw [d.K] at hx
  exact d.tri hx
 ·rw [d.K] at hx
  rcases d.rch r hr with h1 | h1
  ·exact d.up.ne (h.p5 hx r h1)
  ·exact d.p5 hx r h1
theorem Did.refl {s:Sys} (h:Safe s):Did s s (fun _=>False):=
 ⟨rfl,fun _ h=>.inl h,fun _ h=>h,fun _ h=>h.elim,Up.refl _ _,rfl,h.full,h.p3,fun _ _ h=>h,fun _ _ h=>h.elim⟩
theorem Rch.move {A A':Ar} {N:Rf→Prop} (hr:∀ m i,m<A'.many→i<(A'.rt m).n→Rch A ((A'.rt m).f i)∨N ((A'.rt m).f i)) (hv:∀ i,i<8→(A'.gl i).nz=true→Rch A (A'.gl i)∨N (A'.gl i))
 (hf:∀ r q,Rch A r→There A'.H r→Edge A'.H r.s.toNat q→Rch A q∨N q) (hn:∀ r q,N r→There A'.H r→Edge A'.H r.s.toNat q→Rch A q∨N q):∀ r,Rch A' r→Rch A r∨N r:=by
 intro r hx
 induction hx with
 | @root m i h1 h2=>exact hr m i h1 h2
 | @var i h1 h2=>exact hv i h1 h2
 | @field r q _ ht he ih=>
  rcases ih with ih | ih
  ·exact hf r q ih ht he
  ·exact hn r q ih ht he
theorem did_made {s:Sys} (hok:s.Ok) (h:Safe s) {m i:Nat} {g:Int} {o:Ob} (hm:m<s.A.many) (hi:i<s.A.H.T.n) (hst:s.A.H.T.st i=0) (hg:s.A.H.T.gn i=g) (ho:∀ k,(o.fs k).nz=false):
 Did s ⟨s.A.made m i g o,(s.M.madeR ⟨i,g⟩).1⟩ (fun r=>r=⟨i,g⟩):=by
 have hg1:=(hok.a.tb i hi).1
 have hir:(⟨i,g⟩:Rf).s.toNat=i:=Int.toNat_natCast i
 have th1:∀ r,There s.A.H r→r.s.toNat≠i:=fun r ht e=>by have:=ht.lt.2.2.2.1;rw [e,hst] at this;cases this
 have th:∀ r,There s.A.H r→There (s.A.made m i g o).H r:=fun r ht=>by
  have e:=th1 r ht
  obtain⟨t1,t2,t3,t4,t5⟩:=ht.lt
  refine There.of t1 t2 ?_ ?_
  ·show upd s.A.H.T.st i 1 _=1;unfold upd;rw [if_neg e];exact t4
  ·show upd s.A.H.T.gn i g _=_;unfold upd;rw [if_neg e];exact t5
 have th':∀ r,There (s.A.made m i g o).H r→There s.A.H r∨r=⟨i,g⟩:=fun r ht=>by
  obtain⟨t1,t2,t3,t4,t5⟩:=ht.lt
  by_cases e:r.s.toNat=i
  ·right
   have t5':upd s.A.H.T.gn i g r.s.toNat=r.g:=t5
   unfold upd at t5'
   rw [if_pos e] at t5'
   obtain⟨rs,rg⟩:=r
   have:rs=i:=by dsimp only at t1 e;omega
   rw [this];dsimp only at t5';rw [t5']
  ·left
   have t4':upd s.A.H.T.st i 1 r.s.toNat=1:=t4
   have t5':upd s.A.H.T.gn i g r.s.toNat=r.g:=t5
   unfold upd at t4' t5'
   rw [if_neg e] at t4' t5'
   exact There.of t1 t2 t4' t5'
 have hnt:There (s.A.made m i g o).H ⟨i,g⟩:=by
  refine There.of (by dsimp only;omega) (by show (i:Int)<(s.A.H.T.n:Int);omega) ?_ ?_
  ·show upd s.A.H.T.st i 1 _=1;unfold upd;rw [if_pos hir]
  ·show upd s.A.H.T.gn i g _=_;unfold upd;rw [if_pos hir]
 have hno:¬ There s.A.H ⟨i,g⟩:=fun ht=>th1 _ ht hir
 have ed:∀ k r,Edge s.A.H k r→Edge (s.A.made m i g o).H k r:=fun k r ⟨e1,e2,e3,e4⟩=>by
  have e:k≠i:=fun e=>by rw [e,hst] at e2;cases e2
  refine⟨e1,?_,e3,?_⟩
  ·show upd s.A.H.T.st i 1 k=1;unfold upd;rw [if_neg e];exact e2
  ·show ∃ j,j<4∧(updf s.A.H.ob i o k).fs j=r;rw [updf_ne _ _ e];exact e4
 have ed':∀ k r,Edge (s.A.made m i g o).H k r→Edge s.A.H k r:=fun k r ⟨e1,e2,e3,e4⟩=>by
  have e4':∃ j,j<4∧(updf s.A.H.ob i o k).fs j=r:=e4
  by_cases e:k=i
  ·rw [e,updf_same] at e4'
   obtain⟨j,_,hj⟩:=e4'
   have:=ho j
   rw [hj,e3] at this;cases this
  ·rw [updf_ne _ _ e] at e4'
   have e2':upd s.A.H.T.st i 1 k=1:=e2
   unfold upd at e2';rw [if_neg e] at e2'
   exact⟨e1,e2',e3,e4'⟩
 have rts:∀ k j,j<((s.A.made m i g o).rt k).n→(j<(s.A.rt k).n∧((s.A.made m i g o).rt k).f j=(s.A.rt k).f j)∨((s.A.made m i g o).rt k).f j=⟨i,g⟩:=fun k j hj=>by
  have hj':j<(updf s.A.rt m ((s.A.rt m).push ⟨i,g⟩) k).n:=hj
  show (j<_∧(updf s.A.rt m ((s.A.rt m).push ⟨i,g⟩) k).f j=_)∨(updf s.A.rt m ((s.A.rt m).push ⟨i,g⟩) k).f j=_
  by_cases e:k=m
  ·subst e
   rw [updf_same] at hj' ⊢
   have hj2:j<(s.A.rt k).n+1:=hj'
   show (j<_∧updf (s.A.rt k).f (s.A.rt k).n _ j=_)∨updf (s.A.rt k).f (s.A.rt k).n _ j=_
   by_cases e2:j=(s.A.rt k).n
   ·right;rw [e2,updf_same]
   ·left;exact⟨by omega,updf_ne _ _ e2⟩
  ·rw [updf_ne _ _ e] at hj' ⊢
   exact .inl ⟨hj',rfl⟩
 have hk:s.M.madeR ⟨i,g⟩=if 2≤s.M.K.ph then ({ s.M with P:=s.M.P.born i },0) else (s.M,0):=by
  unfold Mk.madeR
  rw [if_neg (by have:=hok.n;dsimp only;omega),hir]
 have hb:∀ j,(s.M.P.born i).c j=s.M.P.c j∨(j=i∧s.M.P.c j=0∧(s.M.P.born i).c j=2):=fun j=>by
  unfold Pt.born
  split
  ·rename_i h0
   by_cases e:j=i
   ·subst e;exact .inr ⟨rfl,h0,updf_same _ _ _⟩
   ·exact .inl (updf_ne _ _ e)
  ·exact .inl rfl
 have hbi:(s.M.P.born i).c i≠0:=by
  unfold Pt.born
  split
  ·show updf s.M.P.c i 2 i≠0;rw [updf_same];decide
  ·rename_i h0;exact h0
 have hM:Up s.A.H s.M (s.M.madeR ⟨i,g⟩).1∧(s.M.madeR ⟨i,g⟩).1.K=s.M.K∧Full (s.M.madeR ⟨i,g⟩).1∧(2≤s.M.K.ph→(s.M.madeR ⟨i,g⟩).1.P.c i≠0)∧(s.M.K.ph≤1→(s.M.madeR ⟨i,g⟩).1=s.M):=by
  rw [hk]
  split
  ·refine⟨⟨fun j=>?_,fun _ h=>.inr h⟩,rfl,h.full,fun _=>hbi,fun hx=>by omega⟩
   rcases hb j with h1 | ⟨rfl,h1,h2⟩
   ·exact .inl h1
   ·exact .inr (.inr ⟨h1,h2,by rw [hst];decide⟩)
  ·exact⟨Up.refl _ _,rfl,h.full,fun hx=>by omega,fun _=>rfl⟩
 obtain⟨m1,m2,m3,m4,m5⟩:=hM
 refine⟨rfl,?_,th,fun r hr=>by rw [hr];exact⟨hnt,hno⟩,m1,m2,m3,fun hp=>?_,fun hp j hj=>by rw [m5 hp] at hj;exact hj,fun hp r hr=>by rw [hr,hir];exact m4 (by omega)⟩
 ·refine Rch.move (fun k j hkm hj=>?_) (fun j hj hz=>.inl (.var hj hz)) (fun r q hr _ he=>.inl (.field hr (h.nd r hr) (ed' _ _ he))) (fun r q hr _ he=>?_)
  ·rcases rts k j hj with⟨h1,h2⟩ | h1
   ·rw [h2];exact .inl (.root hkm h1)
   ·exact .inr h1
  ·have:=(ed' _ _ he).2.1
   rw [hr,hir,hst] at this;cases this
 ·have gi:Got (s.M.madeR ⟨i,g⟩).1 i:=.inl (m4 (by omega))
  refine (h.p3 hp).move m1 m2 rfl th (fun r ht=>?_) (fun k r he _=>.inl (ed k r he)) (fun k r he _=>.inl (ed' k r he)) (fun j _ _=>.inl rfl) (fun k j hkm _ hj ht=>?_)
  ·rcases th' r ht with h1 | h1
   ·exact .inl h1
   ·right;rw [h1,hir];exact gi
  ·rcases rts k j hj with⟨h1,h2⟩ | h1
   ·exact .inl ⟨j,h1,h2⟩
   ·right;right;rw [h1,hir];exact gi
theorem did_push {s:Sys} (h:Safe s) {m:Nat} {v:Rf} (hv:Rch s.A v) (hc:(s.M.K.ph=2∨s.M.K.ph=3)→(s.M.K.ph=3∨s.M.K.seen m=true)→Cov s.A.H s.M v.s.toNat):Did s ⟨(s.A.pushR m v).A,s.M⟩ (fun _=>False):=by
 unfold Ar.pushR
 split
 ·exact Did.refl h
 ·have rts:∀ k j,j<((s.A.setRt m ((s.A.rt m).push v)).rt k).n→(j<(s.A.rt k).n∧((s.A.setRt m ((s.A.rt m).push v)).rt k).f j=(s.A.rt k).f j)∨(k=m∧((s.A.setRt m ((s.A.rt m).push v)).rt k).f j=v):=fun k j hj=>by
   have hj':j<(updf s.A.rt m ((s.A.rt m).push v) k).n:=hj
   show (j<_∧(updf s.A.rt m ((s.A.rt m).push v) k).f j=_)∨(k=m∧(updf s.A.rt m ((s.A.rt m).push v) k).f j=_)
   by_cases e:k=m
   ·subst e
    rw [updf_same] at hj' ⊢
    have hj2:j<(s.A.rt k).n+1:=hj'
    show (j<_∧updf (s.A.rt k).f (s.A.rt k).n _ j=_)∨(k=k∧updf (s.A.rt k).f (s.A.rt k).n _ j=_)
    by_cases e2:j=(s.A.rt k).n
    ·right;rw [e2,updf_same];exact⟨rfl,rfl⟩
    ·left;exact⟨by omega,updf_ne _ _ e2⟩
   ·rw [updf_ne _ _ e] at hj' ⊢
    exact .inl ⟨hj',rfl⟩
  refine⟨rfl,?_,fun _ h=>h,fun _ h=>h.elim,Up.refl _ _,rfl,h.full,fun hp=>?_,fun _ _ h=>h,fun _ _ h=>h.elim⟩
  ·refine Rch.move (fun k j hkm hj=>.inl ?_) (fun j hj hz=>.inl (.var hj hz)) (fun r q hr ht he=>.inl (.field hr ht he)) (fun _ _ h _ _=>h.elim)
   rcases rts k j hj with⟨h1,h2⟩ | ⟨_,h1⟩
   ·rw [h2];exact .root hkm h1
   ·rw [h1];exact hv
  ·refine (h.p3 hp).move (Up.refl _ _) rfl rfl (fun _ h=>h) (fun _ h=>.inl h) (fun _ _ h _=>.inl h) (fun _ _ h _=>.inl h) (fun _ _ _=>.inl rfl) (fun k j hkm hs hj ht=>?_)
   rcases rts k j hj with⟨h1,h2⟩ | ⟨rfl,h1⟩
   ·exact .inl ⟨j,h1,h2⟩
   ·right;left;rw [h1];exact hc hp hs
theorem did_drop {s:Sys} (h:Safe s) (m i:Int):Did s ⟨(s.A.dropR m i).A,s.M⟩ (fun _=>False):=by
 unfold Ar.dropR
 split
 ·exact Did.refl h
 split
 ·exact Did.refl h
 ·have rts:∀ k j,j<((s.A.setRt m.toNat ((s.A.rt m.toNat).drop i.toNat)).rt k).n→∃ l,l<(s.A.rt k).n∧((s.A.setRt m.toNat ((s.A.rt m.toNat).drop i.toNat)).rt k).f j=(s.A.rt k).f l:=fun k j hj=>by
   have hj':j<(updf s.A.rt m.toNat ((s.A.rt m.toNat).drop i.toNat) k).n:=hj
   show ∃ l,l<_∧(updf s.A.rt m.toNat ((s.A.rt m.toNat).drop i.toNat) k).f j=_
   by_cases e:k=m.toNat
   ·subst e
    rw [updf_same] at hj' ⊢
    have hj2:j<(s.A.rt m.toNat).n - 1:=hj'
    show ∃ l,l<_∧(if i.toNat≤j∧j<(s.A.rt m.toNat).n - 1 then (s.A.rt m.toNat).f (j+1) else (s.A.rt m.toNat).f j)=_
    split
    ·exact⟨j+1,by omega,rfl⟩
    ·exact⟨j,by omega,rfl⟩
   ·rw [updf_ne _ _ e] at hj' ⊢
    exact⟨j,hj',rfl⟩
  refine⟨rfl,?_,fun _ h=>h,fun _ h=>h.elim,Up.refl _ _,rfl,h.full,fun hp=>?_,fun _ _ h=>h,fun _ _ h=>h.elim⟩
  ·refine Rch.move (fun k j hkm hj=>.inl ?_) (fun j hj hz=>.inl (.var hj hz)) (fun r q hr ht he=>.inl (.field hr ht he)) (fun _ _ h _ _=>h.elim)
   obtain⟨l,h1,h2⟩:=rts k j hj
   rw [h2];exact .root hkm h1
  ·refine (h.p3 hp).move (Up.refl _ _) rfl rfl (fun _ h=>h) (fun _ h=>.inl h) (fun _ _ h _=>.inl h) (fun _ _ h _=>.inl h) (fun _ _ _=>.inl rfl) (fun k j hkm hs hj ht=>?_)
   exact .inl (rts k j hj)
theorem Rch.rng {s:Sys} (hok:s.Ok) (h:Safe s) {r:Rf} (hr:Rch s.A r):0≤r.s∧r.s<s.M.P.n:=by
 obtain⟨h1,h2,_⟩:=(h.nd r hr).lt
 rw [← hok.n];exact⟨h1,h2⟩
theorem did_store {s:Sys} (hok:s.Ok) (h:Safe s) {k f:Nat} {o v:Rf} (hk:k<s.A.many) (ho:Rch s.A o) (hf:f<4) (hv:v.nz=true→Rch s.A v):
 Did s ⟨{ s.A with H:=s.A.H.setF o.s.toNat f v },(s.M.wroteR k ((s.A.H.ob o.s.toNat).fs f) v).1⟩ (fun _=>False)∧(s.M.wroteR k ((s.A.H.ob o.s.toNat).fs f) v).2=0:=by
 have hto:=h.nd o ho
 obtain⟨_,_,ho3,ho4,_⟩:=hto.lt
 have hwas:((s.A.H.ob o.s.toNat).fs f).nz=true→Rch s.A ((s.A.H.ob o.s.toNat).fs f):=fun hz=>.field ho hto ⟨ho3,ho4,hz,f,hf,rfl⟩
 obtain⟨u1,u2,u3,u4,u5⟩:=up_wrote s.A.H h.full (i:=k) (by rw [← hok.k];exact hk) (was:=(s.A.H.ob o.s.toNat).fs f) (now:=v) (fun hz=>(hwas hz).rng hok h) (fun hz=>(hv hz).rng hok h)
 have hfs:∀ j,j<4→((s.A.H.ob o.s.toNat).set f v).fs j=if j=f then v else (s.A.H.ob o.s.toNat).fs j:=fun j hj=>Ob.set_fs hf hj
 have ed:∀ i r,Edge s.A.H i r→Edge (s.A.H.setF o.s.toNat f v) i r∨(r=(s.A.H.ob o.s.toNat).fs f∧r.nz=true):=fun i r ⟨e1,e2,e3,j,e4,e5⟩=>by
  by_cases e:i=o.s.toNat
  ·by_cases ej:j=f
   ·right;subst ej;rw [e] at e5;exact⟨e5.symm,e3⟩
   ·left
    refine⟨e1,e2,e3,j,e4,?_⟩
    show (updf s.A.H.ob o.s.toNat _ i).fs j=r
    rw [e,updf_same,hfs j e4,if_neg ej,← e];exact e5
  ·left
   refine⟨e1,e2,e3,j,e4,?_⟩
   show (updf s.A.H.ob o.s.toNat _ i).fs j=r
   rw [updf_ne _ _ e];exact e5
 have ed':∀ i r,Edge (s.A.H.setF o.s.toNat f v) i r→Edge s.A.H i r∨(r=v∧r.nz=true):=fun i r ⟨e1,e2,e3,j,e4,e5⟩=>by
  have e5':(updf s.A.H.ob o.s.toNat ((s.A.H.ob o.s.toNat).set f v) i).fs j=r:=e5
  by_cases e:i=o.s.toNat
  ·rw [e,updf_same,hfs j e4] at e5'
   by_cases ej:j=f
   ·rw [if_pos ej] at e5';exact .inr ⟨e5'.symm,e3⟩
   ·rw [if_neg ej,← e] at e5';exact .inl ⟨e1,e2,e3,j,e4,e5'⟩
  ·rw [updf_ne _ _ e] at e5'
   exact .inl ⟨e1,e2,e3,j,e4,e5'⟩
 have hK:=(s.M.wroteR_K k ((s.A.H.ob o.s.toNat).fs f) v).1
 refine⟨⟨rfl,?_,fun _ h=>h,fun _ h=>h.elim,u1,hK,u3,fun hp=>?_,fun hp j hj=>?_,fun _ _ h=>h.elim⟩,u5⟩
 ·refine Rch.move (fun k j hkm hj=>.inl (.root hkm hj)) (fun j hj hz=>.inl (.var hj hz)) (fun r q hr ht he=>.inl ?_) (fun _ _ h _ _=>h.elim)
  rcases ed' _ _ he with h1 | ⟨rfl,h1⟩
  ·exact .field hr ht h1
  ·exact hv h1
 ·obtain⟨n1,n2⟩:=u2 hp
  refine (h.p3 hp).move u1 hK rfl (fun _ h=>h) (fun _ h=>.inl h) (fun i r he _=>?_) (fun i r he _=>?_) (fun _ _ _=>.inl rfl) (fun k j hkm hs hj ht=>.inl ⟨j,hj,rfl⟩)
  ·rcases ed i r he with h1 | ⟨rfl,h1⟩
   ·exact .inl h1
   ·exact .inr (n1 h1)
  ·rcases ed' i r he with h1 | ⟨rfl,h1⟩
   ·exact .inl h1
   ·exact .inr (n2 h1)
 ·rcases u4 j with h1 | h1
  ·rw [← h1];exact hj
  ·have:=h1.2.symm.trans hj;cases this
theorem did_put {s:Sys} (hok:s.Ok) (h:Safe s) {k f:Nat} {v:Rf} (hk:k<s.A.many) (hf:f<8) (hv:v.nz=true→Rch s.A v):
 Did s ⟨{ s.A with gl:=updf s.A.gl f v },(s.M.wroteR k (s.A.gl f) v).1⟩ (fun _=>False)∧(s.M.wroteR k (s.A.gl f) v).2=0:=by
 obtain⟨u1,u2,u3,u4,u5⟩:=up_wrote s.A.H h.full (i:=k) (by rw [← hok.k];exact hk) (was:=s.A.gl f) (now:=v) (fun hz=>(Rch.var hf hz).rng hok h) (fun hz=>(hv hz).rng hok h)
 have hK:=(s.M.wroteR_K k (s.A.gl f) v).1
 refine⟨⟨rfl,?_,fun _ h=>h,fun _ h=>h.elim,u1,hK,u3,fun hp=>?_,fun hp j hj=>?_,fun _ _ h=>h.elim⟩,u5⟩
 ·refine Rch.move (fun k j hkm hj=>.inl (.root hkm hj)) (fun j hj hz=>.inl ?_) (fun r q hr ht he=>.inl (.field hr ht he)) (fun _ _ h _ _=>h.elim)
  have hz':(updf s.A.gl f v j).nz=true:=hz
  show Rch s.A (updf s.A.gl f v j)
  by_cases e:j=f
  ·rw [e,updf_same] at hz' ⊢;exact hv hz'
  ·rw [updf_ne _ _ e] at hz' ⊢;exact .var hj hz'
 ·obtain⟨n1,n2⟩:=u2 hp
  refine (h.p3 hp).move u1 hK rfl (fun _ h=>h) (fun _ h=>.inl h) (fun i r he _=>.inl he) (fun i r he _=>.inl he) (fun j hj ht=>?_) (fun k j hkm hs hj ht=>.inl ⟨j,hj,rfl⟩)
  have ht':There s.A.H (updf s.A.gl f v j):=ht
  show updf s.A.gl f v j=s.A.gl j∨Got _ (updf s.A.gl f v j).s.toNat
  by_cases e:j=f
  ·rw [e,updf_same] at ht' ⊢
   exact .inr (n2 (ht'.nz hok.a))
  ·left;exact updf_ne _ _ e
 ·rcases u4 j with h1 | h1
  ·rw [← h1];exact hj
  ·have:=h1.2.symm.trans hj;cases this
theorem Tri.field {s:Sys} (h:Safe s) (hp:s.M.K.ph=2∨s.M.K.ph=3) {o v:Rf} (ho:There s.A.H o) (hc:Cov s.A.H s.M o.s.toNat) (he:Edge s.A.H o.s.toNat v) (hv:There s.A.H v):Cov s.A.H s.M v.s.toNat:=by
 rcases h.rng o.s.toNat with h0 | h0 | h0
 ·rcases hc with hc | hc
  ·exact absurd h0 hc
  ·exact .inr (.step h0 hc he hv)
 ·exact .inr (.grey h0 he hv)
 ·exact (h.p3 hp).blk _ v h0 he hv
end Go.Proofs.YtnlkfbndlngjaaaGreat
namespace Go.Proofs.YtnlkfbndlngjaaaGreat
theorem rch_root {A:Ar} {m i:Int} (he:(A.rootR m i).2=0):Rch A (A.rootR m i).1∧m.toNat<A.many∧i.toNat<(A.rt m.toNat).n∧(A.rootR m i).1=(A.rt m.toNat).f i.toNat:=by
 unfold Ar.rootR at he ⊢
 split at he
 ·cases he
 ·split at he
  ·cases he
  ·rename_i h1 h2
   rw [if_neg h1,if_neg h2]
   exact⟨.root (by omega) (by omega),by omega,by omega,rfl⟩
theorem rch_value {A:Ar} {m i:Int} (hz:(A.valueR m i).1.nz=true):Rch A (A.valueR m i).1:=by
 unfold Ar.valueR at hz ⊢
 split
 ·rename_i h;rw [if_pos h] at hz;cases hz
 ·rename_i h;rw [if_neg h] at hz
  split
  ·rename_i h2;rw [if_pos h2] at hz;cases hz
  ·rename_i h2;rw [if_neg h2] at hz
   by_cases he:(A.rootR m i).2=0
   ·exact (rch_root he).1
   ·exfalso
    unfold Ar.rootR at he hz
    split at he
    ·rename_i h3;rw [if_pos h3] at hz;cases hz
    ·rename_i h3;rw [if_neg h3] at hz
     split at he
     ·rename_i h4;rw [if_pos h4] at hz;cases hz
     ·exact he rfl
theorem did_same {s:Sys} (h:Safe s) {R:Res} (hA:R.A=s.A) (he:R.e≠0) (k:Int):Did s (Sys.told R s k) (fun _=>False):=by
 unfold Sys.told
 rw [if_neg he,hA]
 exact Did.refl h
theorem did_storeR {s:Sys} (hok:s.Ok) (h:Safe s) {k:Nat} (hk:k<s.A.many) (i f j:Int):Did s (Sys.told (s.A.storeR k i f j) s k) (fun _=>False)∧((s.A.storeR k i f j).e=0→(s.M.wroteR k (s.A.storeR k i f j).was (s.A.storeR k i f j).now).2=0):=by
 by_cases h1:(s.A.rootR k i).2≠0
 ·have e:s.A.storeR k i f j=⟨s.A,.no,.no,(s.A.rootR k i).2⟩:=by unfold Ar.storeR;rw [if_pos h1]
  rw [e];exact⟨did_same h (R:=⟨s.A,.no,.no,(s.A.rootR k i).2⟩) rfl h1 _,fun hx=>absurd hx h1⟩
 by_cases h2:(s.A.valueR k j).2≠0
 ·have e:s.A.storeR k i f j=⟨s.A,.no,.no,(s.A.valueR k j).2⟩:=by unfold Ar.storeR;rw [if_neg h1,if_pos h2]
  rw [e];exact⟨did_same h (R:=⟨s.A,.no,.no,(s.A.valueR k j).2⟩) rfl h2 _,fun hx=>absurd hx h2⟩
 by_cases h3:(s.A.H.storeR (s.A.rootR k i).1 f (s.A.valueR k j).1).2.2≠0
 ·have e:s.A.storeR k i f j=⟨s.A,.no,.no,(s.A.H.storeR (s.A.rootR k i).1 f (s.A.valueR k j).1).2.2⟩:=by unfold Ar.storeR;rw [if_neg h1,if_neg h2,if_pos h3]
  rw [e];exact⟨did_same h (R:=⟨s.A,.no,.no,(s.A.H.storeR (s.A.rootR k i).1 f (s.A.valueR k j).1).2.2⟩) rfl h3 _,fun hx=>absurd hx h3⟩
 have ho:=(rch_root (Decidable.not_not.1 h1)).1
 have hv:=rch_value (A:=s.A) (m:=k) (i:=j)
 have e:s.A.storeR k i f j=⟨{ s.A with H:=(s.A.H.storeR (s.A.rootR k i).1 f (s.A.valueR k j).1).1 },(s.A.H.storeR (s.A.rootR k i).1 f (s.A.valueR k j).1).2.1,(s.A.valueR k j).1,0⟩:=by
  unfold Ar.storeR;rw [if_neg h1,if_neg h2,if_neg h3]
 rw [e]
 generalize (s.A.rootR k i).1=o at *
 generalize (s.A.valueR k j).1=v at *
 have h3':(s.A.H.storeR o f v).2.2=0:=Decidable.not_not.1 h3
 unfold Hp.storeR at h3' ⊢
 split at h3'
 ·rename_i h4;exact absurd h3' h4
 rename_i h4
 split at h3'
 ·cases h3'
 rename_i h5
 split at h3'
 ·rename_i h6;exact absurd h3' h6.2
 rename_i h6
 rw [if_neg h4,if_neg h5,if_neg h6]
 have hn4:=(hok.a.ob o.s.toNat).n4
 obtain⟨d1,d2⟩:=did_store hok h (k:=k) (f:=f.toNat) hk ho (by omega) hv
 refine⟨?_,fun _=>d2⟩
 show Did s (Sys.told ⟨{ s.A with H:=s.A.H.setF o.s.toNat f.toNat v },(s.A.H.ob o.s.toNat).fs f.toNat,v,0⟩ s k) _
 unfold Sys.told
 rw [if_pos rfl]
 exact d1
theorem did_putR {s:Sys} (hok:s.Ok) (h:Safe s) {k:Nat} (hk:k<s.A.many) (i f:Int):Did s (Sys.told (s.A.putR k i f) s k) (fun _=>False)∧((s.A.putR k i f).e=0→(s.M.wroteR k (s.A.putR k i f).was (s.A.putR k i f).now).2=0):=by
 by_cases h1:(s.A.valueR k i).2≠0
 ·have e:s.A.putR k i f=⟨s.A,.no,.no,(s.A.valueR k i).2⟩:=by unfold Ar.putR;rw [if_pos h1]
  rw [e];exact⟨did_same h (R:=⟨s.A,.no,.no,(s.A.valueR k i).2⟩) rfl h1 _,fun hx=>absurd hx h1⟩
 by_cases h2:f<0∨8≤f
 ·have e:s.A.putR k i f=⟨s.A,.no,.no,3⟩:=by unfold Ar.putR;rw [if_neg h1,if_pos h2]
  rw [e];exact⟨did_same h (R:=⟨s.A,.no,.no,3⟩) rfl (fun h=>by cases h) _,fun hx=>by cases hx⟩
 have e:s.A.putR k i f=⟨{ s.A with gl:=updf s.A.gl f.toNat (s.A.valueR k i).1 },s.A.gl f.toNat,(s.A.valueR k i).1,0⟩:=by unfold Ar.putR;rw [if_neg h1,if_neg h2]
 rw [e]
 have hv:=rch_value (A:=s.A) (m:=k) (i:=i)
 obtain⟨d1,d2⟩:=did_put hok h (k:=k) (f:=f.toNat) hk (by omega) hv
 refine⟨?_,fun _=>d2⟩
 unfold Sys.told
 rw [if_pos rfl]
 exact d1
theorem did_getR {s:Sys} (h:Safe s) (m k:Int):Did s ⟨(s.A.getR m k).A,s.M⟩ (fun _=>False):=by
 unfold Ar.getR
 split
 ·exact Did.refl h
 split
 ·exact Did.refl h
 split
 ·exact Did.refl h
 ·rename_i h1 h2 h3
  have hr:Rch s.A (s.A.gl k.toNat):=.var (by omega) (by simpa using h3)
  exact did_push h hr (fun hp _=>(h.p3 hp).var _ (by omega) (h.nd _ hr))
theorem did_loadR {s:Sys} (hok:s.Ok) (h:Safe s) (m i f:Int):Did s ⟨(s.A.loadR m i f).A,s.M⟩ (fun _=>False):=by
 unfold Ar.loadR
 split
 ·exact Did.refl h
 split
 ·exact Did.refl h
 split
 ·exact Did.refl h
 split
 ·exact Did.refl h
 ·rename_i h1 h2 h3 h4
  obtain⟨r1,r2,r3,r4⟩:=rch_root (Decidable.not_not.1 h2)
  have hcv:(s.M.K.ph=2∨s.M.K.ph=3)→(s.M.K.ph=3∨s.M.K.seen m.toNat=true)→Cov s.A.H s.M (s.A.rootR m i).1.s.toNat:=fun hp ha=>by
   have:=(h.p3 hp).root m.toNat i.toNat r2 ha r3
   rw [← r4] at this
   exact this (h.nd _ r1)
  clear r4
  have ht:=h.nd _ r1
  obtain⟨_,_,t3,t4,_⟩:=ht.lt
  generalize (s.A.rootR m i).1=o at *
  have h3':(s.A.H.loadR o f).2=0:=Decidable.not_not.1 h3
  have h4':(s.A.H.loadR o f).1.nz=true:=by simpa using h4
  have he:Edge s.A.H o.s.toNat (s.A.H.loadR o f).1:=by
   refine⟨t3,t4,h4',f.toNat,?_⟩
   unfold Hp.loadR at h3' ⊢
   split at h3'
   ·rename_i h5;exact absurd h3' h5
   rename_i h5
   split at h3'
   ·cases h3'
   rename_i h6
   rw [if_neg h5,if_neg h6]
   have:=(hok.a.ob o.s.toNat).n4
   exact⟨by omega,rfl⟩
  have hv:Rch s.A (s.A.H.loadR o f).1:=.field r1 ht he
  exact did_push h hv (fun hp ha=>Tri.field h hp ht (hcv hp ha) he (h.nd _ hv))
theorem did_makeR {s:Sys} (hok:s.Ok) (h:Safe s) {k:Nat} (hk:k<s.A.many) (n:Int) (hd:Bool):
 ∃ N,Did s ⟨(s.A.makeR k n hd).A,if (s.A.makeR k n hd).e=0 then (s.M.madeR (s.A.makeR k n hd).now).1 else s.M⟩ N∧(∀ r,N r→r=(s.A.makeR k n hd).now)∧((s.A.makeR k n hd).e=0→(s.M.madeR (s.A.makeR k n hd).now).2=0∧N (s.A.makeR k n hd).now):=by
 have same:∀ e:Int,e≠0→∃ N,Did s ⟨s.A,if e=0 then (s.M.madeR Rf.no).1 else s.M⟩ N∧(∀ r,N r→r=Rf.no)∧(e=0→(s.M.madeR Rf.no).2=0∧N Rf.no):=fun e he=>by
  rw [if_neg he];exact⟨_,Did.refl h,fun _ h=>h.elim,fun hx=>absurd hx he⟩
 unfold Ar.makeR
 split
 ·exact same 3 (by decide)
 split
 ·exact same 2 (by decide)
 split
 ·exact same 4 (by decide)
 split
 ·exact same 4 (by decide)
 ·rename_i i g r hx
  obtain⟨h1,h2,h3⟩:=Tb.inn_mem (T:=s.A.H.T) (s:=0) (k:=s.A.H.T.n) (i:=i) (g:=g) (by rw [hx];simp)
  have hd1:=did_made hok h (m:=k) (i:=i) (g:=g) (o:=Ob.new n hd) hk h3 h1 h2 (fun k=>by unfold Ob.fs;split <;> rfl)
  have hg:=(hok.a.tb i h3).1
  refine⟨_,?_,fun _ h=>h,fun _=>⟨?_,rfl⟩⟩
  ·rw [if_pos rfl,Int.toNat_natCast];exact hd1
  ·unfold Mk.madeR
   rw [if_neg (by have:=hok.n;dsimp only;omega)]
   split <;> rfl
theorem Mv.did (x:Mv) {s:Sys} (hok:s.Ok) (h:Safe s) {ms:Nat} (h0:0<ms) (hms:ms≤s.A.many):∃ N,Did s (x.doR s ms) N:=by
 have hk:x.m % ms<s.A.many:=Nat.lt_of_lt_of_le (Nat.mod_lt _ h0) hms
 unfold Mv.doR
 split
 ·obtain⟨N,h1,_⟩:=did_makeR hok h hk (x.b % 5:Nat) false;exact⟨N,h1⟩
 ·obtain⟨N,h1,_⟩:=did_makeR hok h hk (x.b % 5:Nat) false;exact⟨N,h1⟩
 ·exact⟨_,(did_storeR hok h hk _ _ _).1⟩
 ·exact⟨_,(did_storeR hok h hk _ _ _).1⟩
 ·exact⟨_,did_drop h _ _⟩
 ·exact⟨_,(did_putR hok h hk _ _).1⟩
 ·exact⟨_,did_getR h _ _⟩
 ·exact⟨_,did_loadR hok h _ _ _⟩
theorem Mv.safe (x:Mv) {s:Sys} (hok:s.Ok) (h:Safe s) {ms:Nat} (h0:0<ms) (hms:ms≤s.A.many):Safe (x.doR s ms):=by
 obtain⟨N,hd⟩:=x.did hok h h0 hms
 exact hd.safe h
theorem Half.all {s:Sys} (h:s.Ok) (hp:s.M.K.ph=0) (mid:List Mv) (i:Nat):(s.begun.rounds (mid.take 60) i).Ok∧(s.begun.rounds (mid.take 60) i).M.K.cy=s.M.K.cy∧(s.begun.rounds (mid.take 60) i).M.K.many=s.M.K.many∧(s.begun.rounds (mid.take 60) i).M.P.n=s.M.P.n:=by
 have key:∀ i,∃ j,Half s mid j∧s.begun.rounds (mid.take 60) i=s.begun.rounds (mid.take 60) j∧(j=i∨4≤(s.begun.rounds (mid.take 60) i).M.K.ph):=by
  intro i
  induction i with
  | zero=>exact⟨0,Half.zero h hp mid,rfl,.inl rfl⟩
  | succ i ih=>
   obtain⟨j,h2,h3,h5⟩:=ih
   by_cases h4:4≤(s.begun.rounds (mid.take 60) i).M.K.ph
   ·have e:=Sys.rounds_stay h4 1
    exact⟨j,h2,e.trans h3,.inr (by rw [e];exact h4)⟩
   ·obtain rfl:=h5.resolve_right h4
    exact⟨j+1,h2.next (by omega),rfl,.inl rfl⟩
 obtain⟨j,h2,h3,_⟩:=key i
 rw [h3]
 exact⟨h2.at'.ok,h2.cy,h2.many,h2.at'.nn⟩
end Go.Proofs.YtnlkfbndlngjaaaGreat
