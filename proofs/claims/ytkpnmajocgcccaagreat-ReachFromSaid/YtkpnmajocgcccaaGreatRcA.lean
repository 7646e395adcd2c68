import Derived.Test.YtkpnmajocgcccaaGreatNgE
namespace Go.Proofs.YtkpnmajocgcccaaGreat
open Go.RowKit
set_option linter.unusedVariables false
set_option linter.unusedSimpArgs false
def BySlot (l:List Rf):Prop:=l.Pairwise (fun x y=>x.s≤y.s)
def ins (x:Rf):List Rf→List Rf
 | []=>[x]
 | y :: l=>if x.s≤y.s then x :: y :: l else y :: ins x l
def srt:List Rf→List Rf
 | []=>[]
 | x :: l=>ins x (srt l)
theorem ins_perm (x:Rf):∀ l,(ins x l).Perm (x :: l)
 | []=>List.Perm.refl _
 | y :: l=>by
  unfold ins
  split
  ·exact List.Perm.refl _
  ·exact ((ins_perm x l).cons y).trans (List.Perm.swap x y l)
theorem srt_perm:∀ l,(srt l).Perm l
 | []=>List.Perm.refl _
 | x :: l=>(ins_perm x (srt l)).trans ((srt_perm l).cons x)
theorem ins_sorted (x:Rf):∀ l,BySlot l→BySlot (ins x l)
 | [],_=>List.pairwise_singleton _ _
 | y :: l,h=>by
  unfold ins
  obtain⟨h1,h2⟩:=List.pairwise_cons.1 h
  split
  ·rename_i hx
   refine List.pairwise_cons.2 ⟨fun z hz=>?_,h⟩
   rcases List.mem_cons.1 hz with rfl | hz
   ·exact hx
   ·exact Int.le_trans hx (h1 z hz)
  ·rename_i hx
   refine List.pairwise_cons.2 ⟨fun z hz=>?_,ins_sorted x l h2⟩
   rcases List.mem_cons.1 ((ins_perm x l).mem_iff.1 hz) with rfl | hz
   ·omega
   ·exact h1 z hz
theorem srt_sorted:∀ l,BySlot (srt l)
 | []=>List.Pairwise.nil
 | x :: l=>ins_sorted x _ (srt_sorted l)
def OneSlot (l:List Rf):Prop:=∀ x∈l,∀ y∈l,x.s=y.s→x=y
theorem bySlot_unique:∀ {l m:List Rf},l.Perm m→BySlot l→BySlot m→OneSlot l→l=m
 | [],m,hp,_,_,_=>(List.nil_perm.1 hp).symm
 | x :: l,[],hp,_,_,_=>absurd (List.perm_nil.1 hp) (by simp)
 | x :: l,y :: m,hp,h1,h2,hi=>by
  obtain⟨a1,a2⟩:=List.pairwise_cons.1 h1
  obtain⟨b1,b2⟩:=List.pairwise_cons.1 h2
  have hx:x∈y :: m:=hp.mem_iff.1 (by simp)
  have hy:y∈x :: l:=hp.mem_iff.2 (by simp)
  have e:x=y:=by
   refine hi x (by simp) y hy (Int.le_antisymm ?_ ?_)
   ·rcases List.mem_cons.1 hy with rfl | hy
    ·exact Int.le_refl _
    ·exact a1 y hy
   ·rcases List.mem_cons.1 hx with rfl | hx
    ·exact Int.le_refl _
    ·exact b1 x hx
  subst e
  rw [bySlot_unique (List.Perm.cons_inv hp) a2 b2 (fun u hu v hv=>hi u (by simp [hu]) v (by simp [hv]))]
theorem srt_unique {l m:List Rf} (hp:m.Perm l) (hs:BySlot m) (hi:OneSlot l):m=srt l:=
 bySlot_unique (hp.trans (srt_perm l).symm) hs (srt_sorted l) (fun x hx y hy=>hi x (hp.mem_iff.1 hx) y (hp.mem_iff.1 hy))
theorem mem_srt {l:List Rf} {r:Rf}:r∈srt l↔r∈l:=(srt_perm l).mem_iff
theorem There.one {H:Hp} {x y:Rf} (h:There H x) (k:There H y) (e:x.s=y.s):x=y:=by
 obtain⟨_,_,_,_,t5⟩:=h.lt
 obtain⟨_,_,_,_,u5⟩:=k.lt
 obtain⟨xs,xg⟩:=x
 obtain⟨ys,yg⟩:=y
 dsimp only at e t5 u5
 subst e
 rw [← t5,← u5]
theorem oneSlot_there {H:Hp} {l:List Rf} (h:∀ r∈l,There H r):OneSlot l:=fun x hx y hy e=>(h x hx).one (h y hy) e
def kids (H:Hp) (r:Rf):List Rf:=if ckV H.T r.s r.g=0 then hres H (((H.ob r.s.toNat).upto 4).map (·.2)) else []
theorem mem_kids {H:Hp} {r c:Rf}:c∈kids H r↔There H r∧Edge H r.s.toNat c∧There H c:=by
 unfold kids
 constructor
 ·intro h
  split at h
  ·rename_i ht
   obtain⟨h1,h2⟩:=mem_hres.1 h
   obtain⟨⟨k,q⟩,hq,rfl⟩:=List.mem_map.1 h1
   obtain⟨e1,e2,e3⟩:=Ob.upto_mem hq
   obtain⟨_,_,t3,t4,_⟩:=There.lt (r:=r) ht
   exact⟨ht,⟨t3,t4,e2,k,e3,e1⟩,h2⟩
  ·cases h
 ·rintro⟨ht,⟨e1,e2,e3,k,e4,e5⟩,h2⟩
  rw [if_pos (show ckV H.T r.s r.g=0 from ht)]
  refine mem_hres.2 ⟨List.mem_map.2 ⟨(k,c),?_,rfl⟩,h2⟩
  obtain⟨suf,hs⟩:=Ob.upto_split (o:=H.ob r.s.toNat) (k:=k) (n:=4) e4 (by rw [e5];exact e3)
  rw [hs,e5];simp
theorem kids_len (H:Hp) (r:Rf):(kids H r).length≤4:=by
 unfold kids
 split
 ·unfold hres
  exact Nat.le_trans (List.length_filter_le _ _) (by rw [List.length_map];exact Ob.upto_len _ _)
 ·exact Nat.zero_le _
inductive RchL (H:Hp) (l:List Rf):Rf→Prop
 | base {r:Rf}:r∈l→RchL H l r
 | step {r c:Rf}:RchL H l r→c∈kids H r→RchL H l c
theorem RchL.there {H:Hp} {l:List Rf} (hl:∀ r∈l,There H r) {r:Rf} (h:RchL H l r):There H r:=by
 cases h with
 | base h=>exact hl r h
 | step _ h=>exact (mem_kids.1 h).2.2
abbrev Qe:=List (Rf × Rf)
def Qe.keys (q:Qe):List Rf:=q.map (·.1)
def addq (q:Qe) (r b:Rf):Qe:=if r∈q.keys then q else q ++ [(r,b)]
def addqs (q:Qe) (l:List Rf) (b:Rf):Qe:=l.foldl (fun q r=>addq q r b) q
def startq (l:List Rf):Qe:=l.foldl (fun q r=>addq q r r) []
def exq (H:Hp) (q:Qe) (i:Nat):Qe:=match q[i]? with
 | some x=>addqs q (srt (kids H x.1)) x.1
 | none=>q
def expl (H:Hp) (l:List Rf):Nat→Qe
 | 0=>startq (srt l)
 | i+1=>exq H (expl H l i) i
theorem keys_addq (q:Qe) (r b:Rf):(addq q r b).keys=if r∈q.keys then q.keys else q.keys ++ [r]:=by
 unfold addq
 split
 ·rfl
 ·simp [Qe.keys]
theorem addq_pre (q:Qe) (r b:Rf):∃ t,addq q r b=q ++ t:=by
 unfold addq
 split
 ·exact⟨[],by simp⟩
 ·exact⟨_,rfl⟩
theorem addqs_pre (q:Qe) (l:List Rf) (b:Rf):∃ t,addqs q l b=q ++ t:=by
 induction l generalizing q with
 | nil=>exact⟨[],by simp [addqs]⟩
 | cons x l ih=>
  obtain⟨t1,h1⟩:=addq_pre q x b
  obtain⟨t2,h2⟩:=ih (addq q x b)
  exact⟨t1 ++ t2,by show addqs (addq q x b) l b=_;rw [h2,h1,List.append_assoc]⟩
theorem key_addq (q:Qe) (r b:Rf):r∈(addq q r b).keys:=by
 rw [keys_addq]
 split
 ·assumption
 ·simp
theorem nodup_addq {q:Qe} (h:q.keys.Nodup) (r b:Rf):(addq q r b).keys.Nodup:=by
 rw [keys_addq]
 split
 ·exact h
 ·rename_i hn
  exact List.nodup_append.2 ⟨h,by simp,fun x hx y hy e=>by rw [List.mem_singleton.1 hy] at e;exact hn (e ▸ hx)⟩
theorem keys_mono {q q' t:Qe} (h:q'=q ++ t) {r:Rf} (hr:r∈q.keys):r∈q'.keys:=by
 subst h;unfold Qe.keys at hr ⊢;rw [List.map_append];exact List.mem_append.2 (.inl hr)
structure Exp (H:Hp) (l:List Rf) (i:Nat) (q:Qe):Prop where
 nd:q.keys.Nodup
 rch:∀ r∈q.keys,RchL H l r
 st:∀ r∈l,r∈q.keys
 cl:∀ j x,j<i→q[j]?=some x→∀ c∈kids H x.1,c∈q.keys
 by':∀ j x,q[j]?=some x→(x.2=x.1∧x.1∈l)∨(x.2≠x.1∧x.1∈kids H x.2∧∃ k y,k<j∧k<i∧q[k]?=some y∧y.1=x.2)
theorem addq_get {q:Qe} {r b:Rf} {j:Nat} {x:Rf × Rf} (h:(addq q r b)[j]?=some x):q[j]?=some x∨(j=q.length∧x=(r,b)∧r ∉ q.keys):=by
 unfold addq at h
 split at h
 ·exact .inl h
 ·rename_i hn
  rcases Nat.lt_or_ge j q.length with hj | hj
  ·rw [List.getElem?_append_left hj] at h;exact .inl h
  ·rw [List.getElem?_append_right hj] at h
   have:j - q.length=0:=by
    rcases hz:j - q.length with _ | n
    ·rfl
    ·rw [hz] at h;simp at h
   rw [this] at h
   exact .inr ⟨by omega,by simpa using h.symm,hn⟩
theorem pre_get {q q' t:Qe} (h:q'=q ++ t) {j:Nat} {x:Rf × Rf} (hx:q[j]?=some x):q'[j]?=some x:=by
 subst h
 rw [List.getElem?_append_left (List.getElem?_eq_some_iff.1 hx).1];exact hx
theorem exp_start (H:Hp) (l:List Rf):Exp H l 0 (startq (srt l)):=by
 have key:∀ (m:List Rf) (q:Qe),(∀ r∈m,r∈l)→q.keys.Nodup→(∀ (j:Nat) (x:Rf × Rf),q[j]?=some x→x.2=x.1∧x.1∈l)→(Qe.keys (m.foldl (fun q r=>addq q r r) q)).Nodup∧(∀ (j:Nat) (x:Rf × Rf),(m.foldl (fun q r=>addq q r r) q)[j]?=some x→x.2=x.1∧x.1∈l)
  ∧(∀ r,r∈m∨r∈q.keys→r∈Qe.keys (m.foldl (fun q r=>addq q r r) q)):=by
  intro m
  induction m with
  | nil=>intro q _ h1 h2;exact⟨h1,h2,fun r hr=>hr.resolve_left (by simp)⟩
  | cons y m ih=>
   intro q hm h1 h2
   obtain⟨i1,i2,i3⟩:=ih (addq q y y) (fun r hr=>hm r (by simp [hr])) (nodup_addq h1 y y) (fun j x hx=>by
    rcases addq_get hx with h | ⟨_,rfl,_⟩
    ·exact h2 j x h
    ·exact⟨rfl,hm y (by simp)⟩)
   refine⟨i1,i2,fun r hr=>?_⟩
   rcases hr with hr | hr
   ·rcases List.mem_cons.1 hr with rfl | hr
    ·exact i3 r (.inr (key_addq _ _ _))
    ·exact i3 r (.inl hr)
   ·obtain⟨t,ht⟩:=addq_pre q y y
    exact i3 r (.inr (keys_mono ht hr))
 obtain⟨k1,k2,k3⟩:=key (srt l) [] (fun r hr=>mem_srt.1 hr) List.nodup_nil (fun j x hx=>by simp at hx)
 refine⟨k1,fun r hr=>?_,fun r hr=>k3 r (.inl (mem_srt.2 hr)),fun j x hj=>by omega,fun j x hx=>.inl (k2 j x hx)⟩
 obtain⟨x,hx,rfl⟩:=List.mem_map.1 hr
 obtain⟨j,hj⟩:=List.mem_iff_getElem?.1 hx
 exact .base (k2 j x hj).2
theorem exp_step {H:Hp} {l:List Rf} {i:Nat} {q:Qe} (h:Exp H l i q):Exp H l (i+1) (exq H q i):=by
 unfold exq
 split
 ·rename_i x hx
  have hxk:x.1∈q.keys:=List.mem_map.2 ⟨x,List.mem_of_getElem? hx,rfl⟩
  have key:∀ (m:List Rf) (q':Qe),(∃ t,q'=q ++ t)→(∀ r∈m,r∈kids H x.1)→q'.keys.Nodup→(∀ r∈q'.keys,RchL H l r)→
   (∀ j y,q'[j]?=some y→(y.2=y.1∧y.1∈l)∨(y.2≠y.1∧y.1∈kids H y.2∧∃ k z,k<j∧k<i+1∧q'[k]?=some z∧z.1=y.2))→
   (addqs q' m x.1).keys.Nodup∧(∀ r∈(addqs q' m x.1).keys,RchL H l r)∧(∀ j y,(addqs q' m x.1)[j]?=some y→(y.2=y.1∧y.1∈l)∨(y.2≠y.1∧y.1∈kids H y.2∧∃ k z,k<j∧k<i+1∧(addqs q' m x.1)[k]?=some z∧z.1=y.2))
   ∧(∀ r,r∈m→r∈(addqs q' m x.1).keys):=by
   intro m
   induction m with
   | nil=>intro q' _ _ h1 h2 h3;exact⟨h1,h2,h3,fun r hr=>by simp at hr⟩
   | cons y m ih=>
    intro q' hq' hm h1 h2 h3
    obtain⟨t,ht⟩:=hq'
    obtain⟨t2,ht2⟩:=addq_pre q' y x.1
    have hgx:q'[i]?=some x:=pre_get ht hx
    obtain⟨i1,i2,i3,i4⟩:=ih (addq q' y x.1) ⟨t ++ t2,by rw [ht2,ht,List.append_assoc]⟩ (fun r hr=>hm r (by simp [hr])) (nodup_addq h1 _ _) (fun r hr=>by
     rw [keys_addq] at hr
     split at hr
     ·exact h2 r hr
     ·rcases List.mem_append.1 hr with hr | hr
      ·exact h2 r hr
      ·rw [List.mem_singleton.1 hr]
       exact .step (h2 x.1 (keys_mono ht hxk)) (hm y (by simp))) (fun j z hz=>by
     rcases addq_get hz with h | ⟨hj,rfl,hn⟩
     ·rcases h3 j z h with h | ⟨a1,a2,k,u,a3,a4,a5,a6⟩
      ·exact .inl h
      ·exact .inr ⟨a1,a2,k,u,a3,a4,pre_get ht2 a5,a6⟩
     ·refine .inr ⟨fun e=>hn (by have e':x.1=y:=e;rw [← e'];exact keys_mono ht hxk),hm y (by simp),i,x,?_,by omega,pre_get ht2 hgx,rfl⟩
      rw [hj];exact (List.getElem?_eq_some_iff.1 hgx).1)
    refine⟨i1,i2,i3,fun r hr=>?_⟩
    rcases List.mem_cons.1 hr with rfl | hr
    ·obtain⟨t3,ht3⟩:=addqs_pre (addq q' r x.1) m x.1
     exact keys_mono ht3 (key_addq _ _ _)
    ·exact i4 r hr
  obtain⟨k1,k2,k3,k4⟩:=key (srt (kids H x.1)) q ⟨[],by simp⟩ (fun r hr=>mem_srt.1 hr) h.nd h.rch (fun j y hy=>by
   rcases h.by' j y hy with h | ⟨a1,a2,k,u,a3,a4,a5,a6⟩
   ·exact .inl h
   ·exact .inr ⟨a1,a2,k,u,a3,by omega,a5,a6⟩)
  obtain⟨t,ht⟩:=addqs_pre q (srt (kids H x.1)) x.1
  refine⟨k1,k2,fun r hr=>keys_mono ht (h.st r hr),fun j y hj hy c hc=>?_,k3⟩
  rcases Nat.lt_succ_iff_lt_or_eq.1 hj with hj | rfl
  ·have hjl:j<q.length:=Nat.lt_trans hj (List.getElem?_eq_some_iff.1 hx).1
   rw [ht,List.getElem?_append_left hjl] at hy
   exact keys_mono ht (h.cl j y hj hy c hc)
  ·have:y=x:=by rw [pre_get ht hx] at hy;exact (Option.some.inj hy).symm
   subst this
   exact k4 c (mem_srt.2 hc)
 ·rename_i hx
  refine⟨h.nd,h.rch,h.st,fun j y hj hy=>?_,fun j y hy=>?_⟩
  ·rcases Nat.lt_succ_iff_lt_or_eq.1 hj with hj | rfl
   ·exact h.cl j y hj hy
   ·rw [hx] at hy;cases hy
  ·rcases h.by' j y hy with h | ⟨a1,a2,k,u,a3,a4,a5,a6⟩
   ·exact .inl h
   ·exact .inr ⟨a1,a2,k,u,a3,by omega,a5,a6⟩
theorem exp_all (H:Hp) (l:List Rf):∀ i,Exp H l i (expl H l i)
 | 0=>exp_start H l
 | i+1=>exp_step (exp_all H l i)
theorem Exp.done {H:Hp} {l:List Rf} {i:Nat} {q:Qe} (h:Exp H l i q) (hi:q.length≤i) {r:Rf}:r∈q.keys↔RchL H l r:=by
 refine⟨h.rch r,fun hr=>?_⟩
 induction hr with
 | base hr=>exact h.st _ hr
 | step _ hc ih=>
  obtain⟨x,hx,rfl⟩:=List.mem_map.1 ih
  obtain⟨j,hj⟩:=List.mem_iff_getElem?.1 hx
  exact h.cl j x (Nat.lt_of_lt_of_le (List.getElem?_eq_some_iff.1 hj).1 hi) hj _ hc
theorem nodup_lt_len:∀ (n:Nat) (l:List Nat),l.Nodup→(∀ x∈l,x<n)→l.length≤n
 | 0,[],_,_=>Nat.le_refl _
 | 0,x :: l,_,h=>absurd (h x (by simp)) (Nat.not_lt_zero _)
 | n+1,l,hn,h=>by
  by_cases hm:n∈l
  ·have:=nodup_lt_len n (l.erase n) (hn.erase n) (fun x hx=>by
    obtain⟨h1,h2⟩:=(List.Nodup.mem_erase_iff hn).1 hx
    have:=h x h2;omega)
   rw [List.length_erase_of_mem hm] at this
   omega
  ·have:=nodup_lt_len n l hn (fun x hx=>by
    have:=h x hx
    have:x≠n:=fun e=>hm (e ▸ hx)
    omega)
   omega
theorem nodup_there {H:Hp} {l:List Rf} (hn:l.Nodup) (ht:∀ r∈l,There H r):l.length≤H.T.n:=by
 have h1:(l.map (fun r=>r.s.toNat)).Nodup:=by
  rw [List.nodup_iff_pairwise_ne,List.pairwise_map]
  refine List.Pairwise.imp_of_mem ?_ hn
  intro x y hx hy hne he
  obtain⟨x0,_⟩:=(ht x hx).lt
  obtain⟨y0,_⟩:=(ht y hy).lt
  exact hne ((ht x hx).one (ht y hy) (by omega))
 have:=nodup_lt_len H.T.n _ h1 (fun j hj=>by
  obtain⟨r,hr,rfl⟩:=List.mem_map.1 hj
  exact (ht r hr).lt.2.2.1)
 rwa [List.length_map] at this
theorem expl_len {H:Hp} {l:List Rf} (hl:∀ r∈l,There H r) (i:Nat):(expl H l i).length≤H.T.n:=by
 have h:=exp_all H l i
 have:=nodup_there h.nd (fun r hr=>(h.rch r hr).there hl)
 rwa [Qe.keys,List.length_map] at this
def explQ (H:Hp) (l:List Rf):Qe:=expl H l H.T.n
theorem explQ_mem {H:Hp} {l:List Rf} (hl:∀ r∈l,There H r) {r:Rf}:r∈(explQ H l).keys↔RchL H l r:=(exp_all H l H.T.n).done (expl_len hl _)
theorem expl_stay {H:Hp} {l:List Rf} {i:Nat} (h:(expl H l i).length≤i):∀ d,expl H l (i+d)=expl H l i
 | 0=>rfl
 | d+1=>by
  show exq H (expl H l (i+d)) (i+d)=_
  rw [expl_stay h d]
  unfold exq
  rw [List.getElem?_eq_none (by omega)]
theorem explQ_of {H:Hp} {l:List Rf} (hl:∀ r∈l,There H r) {i:Nat} (h:(expl H l i).length≤i):expl H l i=explQ H l:=by
 unfold explQ
 rcases Nat.le_total i H.T.n with hi | hi
 ·obtain⟨d,hd⟩:=Nat.le.dest hi
  rw [← hd]
  exact (expl_stay h d).symm
 ·obtain⟨d,hd⟩:=Nat.le.dest hi
  rw [← hd]
  exact expl_stay (expl_len hl _) d
end Go.Proofs.YtkpnmajocgcccaaGreat
namespace Go.Proofs.YtkpnmajocgcccaaGreat
set_option linter.unusedVariables false
set_option linter.unusedSimpArgs false
theorem key_unique:∀ {q:Qe},q.keys.Nodup→∀ {x y:Rf × Rf},x∈q→y∈q→x.1=y.1→x=y
 | [],_,_,_,hx,_,_=>by cases hx
 | z :: q,hn,x,y,hx,hy,e=>by
  obtain⟨h1,h2⟩:=List.nodup_cons.1 (show (z.1 :: Qe.keys q).Nodup from hn)
  rcases List.mem_cons.1 hx with ex | hx1
  ·rcases List.mem_cons.1 hy with ey | hy1
   ·rw [ex,ey]
   ·exact absurd (show z.1∈Qe.keys q from List.mem_map.2 ⟨y,hy1,by rw [← e,ex]⟩) h1
  ·rcases List.mem_cons.1 hy with ey | hy1
   ·exact absurd (show z.1∈Qe.keys q from List.mem_map.2 ⟨x,hx1,by rw [e,ey]⟩) h1
   ·exact key_unique h2 hx1 hy1 e
def par (q:Qe) (r:Rf):Rf:=match q.find? (fun x=>decide (x.1=r)) with
 | some x=>x.2
 | none=>Rf.no
theorem par_of {q:Qe} (hn:q.keys.Nodup) {r b:Rf} (h:(r,b)∈q):par q r=b:=by
 unfold par
 rcases hf:q.find? (fun x=>decide (x.1=r)) with _ | x
 ·rw [List.find?_eq_none] at hf
  have:=hf (r,b) h
  simp at this
 ·have h1:=List.find?_some hf
  have h2:=List.mem_of_find?_eq_some hf
  rw [hf]
  show x.2=b
  rw [key_unique hn h2 h (by simpa using h1)]
inductive Wy (q:Qe):Rf→List Rf→Prop
 | top {r:Rf}:(r,r)∈q→Wy q r [r]
 | step {r b:Rf} {u:List Rf}:(r,b)∈q→b≠r→Wy q b u→Wy q r (r :: u)
theorem Wy.unique {q:Qe} (hn:q.keys.Nodup) {r:Rf} {u v:List Rf} (h:Wy q r u) (k:Wy q r v):u=v:=by
 induction h generalizing v with
 | top h1=>
  cases k with
  | top _=>rfl
  | step h2 h3 _=>exact absurd ((par_of hn h2).symm.trans (par_of hn h1)) h3
 | step h1 h2 h3 ih=>
  cases k with
  | top h4=>exact absurd ((par_of hn h1).symm.trans (par_of hn h4)) h2
  | step h4 h5 h6=>
   obtain rfl:=(par_of hn h1).symm.trans (par_of hn h4)
   rw [ih h6]
theorem Wy.mono {q q':Qe} (hq:∀ x∈q,x∈q') {r:Rf} {u:List Rf} (h:Wy q r u):Wy q' r u:=by
 induction h with
 | top h1=>exact .top (hq _ h1)
 | step h1 h2 _ ih=>exact .step (hq _ h1) h2 ih
theorem Wy.ne {q:Qe} {r:Rf} {u:List Rf} (h:Wy q r u):u≠[]:=by cases h <;> simp
theorem Wy.head {q:Qe} {r:Rf} {u:List Rf} (h:Wy q r u):u.head?=some r:=by cases h <;> rfl
theorem Wy.ex {H:Hp} {l:List Rf} {i:Nat} {q:Qe} (h:Exp H l i q):∀ (j:Nat) (x:Rf × Rf),q[j]?=some x→∃ u,Wy q x.1 u:=by
 intro j
 induction j using Nat.strongRecOn with
 | _ j ih=>
  rintro⟨r,b⟩ hx
  rcases h.by' j _ hx with⟨e,_⟩ | ⟨e,_,k,y,hk,_,hy,hyb⟩
  ·dsimp only at e;subst e
   exact⟨_,.top (List.mem_of_getElem? hx)⟩
  ·obtain⟨u,hu⟩:=ih k hk y hy
   dsimp only at e hyb
   rw [hyb] at hu
   exact⟨_,.step (List.mem_of_getElem? hx) e hu⟩
theorem Wy.of_key {H:Hp} {l:List Rf} {i:Nat} {q:Qe} (h:Exp H l i q) {r:Rf} (hr:r∈q.keys):∃ u,Wy q r u:=by
 obtain⟨x,hx,rfl⟩:=List.mem_map.1 hr
 obtain⟨j,hj⟩:=List.mem_iff_getElem?.1 hx
 exact Wy.ex h j x hj
theorem Wy.last {H:Hp} {l:List Rf} {i:Nat} {q:Qe} (h:Exp H l i q) {r:Rf} {u:List Rf} (hu:Wy q r u):∃ x,u.getLast?=some x∧x∈l:=by
 induction hu with
 | @top r h1=>
  obtain⟨j,hj⟩:=List.mem_iff_getElem?.1 h1
  rcases h.by' j _ hj with⟨_,e⟩ | ⟨e,_⟩
  ·exact⟨r,rfl,e⟩
  ·exact absurd rfl e
 | @step r b u h1 h2 h3 ih=>
  obtain⟨x,e1,e2⟩:=ih
  refine⟨x,?_,e2⟩
  cases u with
  | nil=>exact absurd rfl h3.ne
  | cons y u=>rw [List.getLast?_cons_cons];exact e1
theorem Wy.drop {q:Qe} {r:Rf} {u:List Rf} (hu:Wy q r u):∀ k x,u[k]?=some x→Wy q x (u.drop k):=by
 induction hu with
 | top h1=>
  intro k x hx
  cases k with
  | zero=>obtain rfl:=Option.some.inj hx;exact .top h1
  | succ k=>simp at hx
 | @step r b u h1 h2 h3 ih=>
  intro k x hx
  cases k with
  | zero=>obtain rfl:=Option.some.inj hx;exact .step h1 h2 h3
  | succ k=>exact ih k x (by simpa using hx)
theorem Wy.len {q:Qe} (hn:q.keys.Nodup) {r:Rf} {u:List Rf} (hu:Wy q r u):(∀ x∈u,x∈q.keys):=by
 induction hu with
 | top h1=>intro x hx;rw [List.mem_singleton.1 hx];exact List.mem_map.2 ⟨_,h1,rfl⟩
 | step h1 h2 h3 ih=>
  intro x hx
  rcases List.mem_cons.1 hx with rfl | hx
  ·exact List.mem_map.2 ⟨_,h1,rfl⟩
  ·exact ih x hx
def Dp (q:Qe) (r:Rf) (d:Nat):Prop:=∃ u,Wy q r u∧u.length=d+1
theorem Dp.unique {q:Qe} (hn:q.keys.Nodup) {r:Rf} {d e:Nat} (h:Dp q r d) (k:Dp q r e):d=e:=by
 obtain⟨u,h1,h2⟩:=h
 obtain⟨v,k1,k2⟩:=k
 rw [h1.unique hn k1] at h2
 omega
theorem Dp.mono {q q':Qe} (hq:∀ x∈q,x∈q') {r:Rf} {d:Nat} (h:Dp q r d):Dp q' r d:=by
 obtain⟨u,h1,h2⟩:=h
 exact⟨u,h1.mono hq,h2⟩
theorem Dp.ex {H:Hp} {l:List Rf} {i:Nat} {q:Qe} (h:Exp H l i q) {r:Rf} (hr:r∈q.keys):∃ d,Dp q r d:=by
 obtain⟨u,hu⟩:=Wy.of_key h hr
 cases u with
 | nil=>exact absurd rfl hu.ne
 | cons x u=>exact⟨u.length,_,hu,rfl⟩
theorem Wy.le {H:Hp} {l:List Rf} {i:Nat} {q:Qe} (h:Exp H l i q):∀ (j:Nat) (x:Rf × Rf),q[j]?=some x→∀ u,Wy q x.1 u→u.length≤j+1:=by
 intro j
 induction j using Nat.strongRecOn with
 | _ j ih=>
  rintro⟨r,b⟩ hx u hu
  cases hu with
  | top _=>simp
  | @step _ b' u h1 h2 h3=>
   obtain rfl:b'=b:=by
    have:=key_unique h.nd h1 (List.mem_of_getElem? hx) rfl
    injection this
   rcases h.by' j _ hx with⟨e,_⟩ | ⟨e,_,k,y,hk,_,hy,hyb⟩
   ·exact absurd e h2
   ·dsimp only at hyb
    rw [← hyb] at h3
    have:=ih k hk y hy u h3
    simp;omega
def upf (q:Qe):Nat→Rf→List Rf
 | 0,r=>[r]
 | n+1,r=>if par q r=r then [r] else r :: upf q n (par q r)
theorem upf_of {q:Qe} (hn:q.keys.Nodup) {r:Rf} {u:List Rf} (h:Wy q r u):∀ n,u.length≤n→upf q n r=u:=by
 induction h with
 | top h1=>
  intro n hl
  cases n with
  | zero=>rfl
  | succ n=>unfold upf;rw [if_pos (par_of hn h1)]
 | @step r b u h1 h2 h3 ih=>
  intro n hl
  cases n with
  | zero=>simp at hl
  | succ n=>
   unfold upf
   rw [par_of hn h1,if_neg h2,ih n (by simpa using hl)]
def wayQ (q:Qe) (r:Rf):List Rf:=if r∈q.keys then (upf q q.length r).reverse else []
theorem wayQ_of {H:Hp} {l:List Rf} {i:Nat} {q:Qe} (h:Exp H l i q) {r:Rf} {u:List Rf} (hr:r∈q.keys) (hu:Wy q r u):wayQ q r=u.reverse:=by
 obtain⟨x,hx,rfl⟩:=List.mem_map.1 hr
 obtain⟨j,hj⟩:=List.mem_iff_getElem?.1 hx
 unfold wayQ
 rw [if_pos (show x.1∈q.keys from List.mem_map.2 ⟨x,hx,rfl⟩),upf_of h.nd hu _ (by
  have:=Wy.le h j x hj u hu
  have:=(List.getElem?_eq_some_iff.1 hj).1
  omega)]
end Go.Proofs.YtkpnmajocgcccaaGreat
