import Derived.Test.YtkpnmajocgcccaaGreatRcH
namespace Go.Proofs.YtkpnmajocgcccaaGreat
open Go.RowKit
set_option linter.unusedVariables false
set_option linter.unusedSimpArgs false
theorem tkm {H:Hp} {r:Rf}:r∈H.T.tk↔There H r:=by
 unfold Tb.tk
 constructor
 ·intro h
  obtain⟨⟨i,g⟩,hi,rfl⟩:=List.mem_map.1 h
  obtain⟨h1,h2,h3⟩:=Tb.inn_mem hi
  exact There.of (by show (0:Int)≤(i:Int);omega) (by show (i:Int)<_;omega) (by simpa [rfOf] using h1) (by simpa [rfOf] using h2)
 ·intro h
  obtain⟨h1,h2,h3,h4,h5⟩:=h.lt
  obtain⟨suf,hs⟩:=Tb.inn_split (T:=H.T) h3 h4
  refine List.mem_map.2 ⟨(r.s.toNat,H.T.gn r.s.toNat),by rw [hs];simp,?_⟩
  obtain⟨s,g⟩:=r
  simp only [rfOf,Rf.mk.injEq]
  exact⟨by show ((s.toNat:Nat):Int)=s;have:(0:Int)≤s:=h1;omega,h5⟩
theorem tks_lt (T:Tb) (n:Nat):∀ r∈(T.inn 1 n).map rfOf,r.s<n:=by
 intro r hr
 obtain⟨⟨i,g⟩,hi,rfl⟩:=List.mem_map.1 hr
 have:=(Tb.inn_mem hi).2.2
 show (i:Int)<n
 omega
theorem tks_sorted (T:Tb):∀ n,((T.inn 1 n).map rfOf).Pairwise (fun x y=>x.s<y.s)
 | 0=>List.Pairwise.nil
 | n+1=>by
  have ih:=tks_sorted T n
  by_cases h:T.st n=1
  ·rw [Tb.inn_yes h,List.map_append]
   refine List.pairwise_append.2 ⟨ih,by simp,fun x hx y hy=>?_⟩
   obtain rfl:y=rfOf (n,T.gn n):=by simpa using hy
   exact tks_lt T n x hx
  ·rw [Tb.inn_no h];exact ih
theorem tk_bySlot (T:Tb):BySlot T.tk:=(tks_sorted T T.n).imp (fun h=>Int.le_of_lt h)
theorem tk_nodup (T:Tb):T.tk.Nodup:=(tks_sorted T T.n).imp (fun h e=>by rw [e] at h;omega)
def srtd (T:Tb) (l:List Rf):List Rf:=T.tk.filter (fun r=>decide (r∈l))
theorem mem_srtd {H:Hp} {l:List Rf} {r:Rf}:r∈srtd H.T l↔r∈l∧There H r:=by
 unfold srtd;rw [List.mem_filter,tkm];simp [and_comm]
theorem srtd_bySlot (T:Tb) (l:List Rf):BySlot (srtd T l):=(tk_bySlot T).filter _
theorem srtd_is {H:Hp} {l m:List Rf} (hm:∀ r,r∈m↔r∈l∧There H r) (hn:m.Nodup):srtd H.T l=srt m:=
 srt_unique ((List.perm_ext_iff_of_nodup ((tk_nodup _).filter _) hn).2 fun r=>by rw [hm];exact mem_srtd) (srtd_bySlot _ _) (oneSlot_there fun r hr=>((hm r).1 hr).2)
def grow1 (out:List Rf) (c:Rf):List Rf:=if c∈out then out else out ++ [c]
def growKs (out cs:List Rf):List Rf:=cs.foldl grow1 out
def growF (H:Hp) (out l:List Rf):List Rf:=l.foldl (fun out r=>growKs out (kids H r)) out
def grow (H:Hp) (l:List Rf):List Rf:=growF H l l
theorem growKs_snoc (out cs:List Rf) (c:Rf):growKs out (cs ++ [c])=grow1 (growKs out cs) c:=by simp [growKs]
theorem growF_snoc (H:Hp) (out l:List Rf) (r:Rf):growF H out (l ++ [r])=growKs (growF H out l) (kids H r):=by simp [growF]
def Gr (H:Hp) (l0 l:List Rf):Prop:=∃ t,l=l0 ++ t∧t.Nodup∧(∀ c∈t,c ∉ l0)∧∀ c∈t,RchL H l0 c
theorem Gr.refl (H:Hp) (l0:List Rf):Gr H l0 l0:=⟨[],by simp,List.nodup_nil,by simp,by simp⟩
theorem Gr.rch {H:Hp} {l0 l:List Rf} (h:Gr H l0 l):∀ r∈l,RchL H l0 r:=by
 obtain⟨t,rfl,_,_,h4⟩:=h
 intro r hr
 rcases List.mem_append.1 hr with hr | hr
 ·exact .base hr
 ·exact h4 r hr
theorem Gr.g1 {H:Hp} {l0 l:List Rf} (h:Gr H l0 l) {c:Rf} (hc:RchL H l0 c):Gr H l0 (grow1 l c):=by
 unfold grow1
 split
 ·exact h
 ·rename_i hn
  obtain⟨t,rfl,h2,h3,h4⟩:=h
  refine⟨t ++ [c],by simp,List.nodup_append.2 ⟨h2,by simp,fun x hx y hy e=>?_⟩,fun x hx=>?_,fun x hx=>?_⟩
  ·rw [List.mem_singleton.1 hy] at e
   exact hn (List.mem_append.2 (.inr (e ▸ hx)))
  ·rcases List.mem_append.1 hx with hx | hx
   ·exact h3 x hx
   ·rw [List.mem_singleton.1 hx];exact fun e=>hn (List.mem_append.2 (.inl e))
  ·rcases List.mem_append.1 hx with hx | hx
   ·exact h4 x hx
   ·rw [List.mem_singleton.1 hx];exact hc
theorem Gr.gK {H:Hp} {l0:List Rf}:∀ (cs:List Rf) {l:List Rf},Gr H l0 l→(∀ c∈cs,RchL H l0 c)→Gr H l0 (growKs l cs)
 | [],_,h,_=>h
 | c :: cs,l,h,hc=>by
  show Gr H l0 (growKs (grow1 l c) cs)
  exact Gr.gK cs (h.g1 (hc c (by simp))) (fun x hx=>hc x (by simp [hx]))
theorem Gr.gF {H:Hp} {l0:List Rf}:∀ (m:List Rf) {l:List Rf},Gr H l0 l→(∀ r∈m,RchL H l0 r)→Gr H l0 (growF H l m)
 | [],_,h,_=>h
 | r :: m,l,h,hm=>by
  show Gr H l0 (growF H (growKs l (kids H r)) m)
  exact Gr.gF m (Gr.gK _ h (fun c hc=>.step (hm r (by simp)) hc)) (fun x hx=>hm x (by simp [hx]))
theorem Gr.gr {H:Hp} {l0 l:List Rf} (h:Gr H l0 l):Gr H l0 (grow H l):=Gr.gF l h h.rch
theorem Gr.len {H:Hp} {l0 l:List Rf} (h:Gr H l0 l) (hl:∀ r∈l0,There H r):l.length≤l0.length+H.T.n:=by
 obtain⟨t,rfl,h2,_,h4⟩:=h
 have:=nodup_there h2 (fun r hr=>(h4 r hr).there hl)
 simp;omega
theorem grow1_pre (l:List Rf) (c:Rf):∃ t,grow1 l c=l ++ t:=by
 unfold grow1
 split
 ·exact⟨[],by simp⟩
 ·exact⟨_,rfl⟩
theorem growKs_pre:∀ (cs l:List Rf),∃ t,growKs l cs=l ++ t
 | [],l=>⟨[],by simp [growKs]⟩
 | c :: cs,l=>by
  obtain⟨t,h⟩:=grow1_pre l c
  obtain⟨u,k⟩:=growKs_pre cs (grow1 l c)
  exact⟨t ++ u,by show growKs (grow1 l c) cs=_;rw [k,h,List.append_assoc]⟩
theorem growF_pre (H:Hp):∀ (m l:List Rf),∃ t,growF H l m=l ++ t
 | [],l=>⟨[],by simp [growF]⟩
 | r :: m,l=>by
  obtain⟨t,h⟩:=growKs_pre (kids H r) l
  obtain⟨u,k⟩:=growF_pre H m (growKs l (kids H r))
  exact⟨t ++ u,by show growF H (growKs l (kids H r)) m=_;rw [k,h,List.append_assoc]⟩
theorem growKs_mem:∀ (cs l:List Rf) {c:Rf},c∈cs→c∈growKs l cs
 | c' :: cs,l,c,h=>by
  show c∈growKs (grow1 l c') cs
  rcases List.mem_cons.1 h with rfl | h
  ·obtain⟨t,k⟩:=growKs_pre cs (grow1 l c)
   rw [k]
   refine List.mem_append.2 (.inl ?_)
   unfold grow1
   split
   ·assumption
   ·simp
  ·exact growKs_mem cs _ h
theorem growF_mem (H:Hp):∀ (m l:List Rf) {r c:Rf},r∈m→c∈kids H r→c∈growF H l m
 | r' :: m,l,r,c,h,hc=>by
  show c∈growF H (growKs l (kids H r')) m
  rcases List.mem_cons.1 h with rfl | h
  ·obtain⟨t,k⟩:=growF_pre H m (growKs l (kids H r))
   rw [k]
   exact List.mem_append.2 (.inl (growKs_mem _ _ hc))
  ·exact growF_mem H m _ h hc
theorem grow_len_le (H:Hp) (l:List Rf):l.length≤(grow H l).length:=by
 obtain⟨t,h⟩:=growF_pre H l l
 show l.length≤(growF H l l).length
 rw [h];simp
theorem grow_same {H:Hp} {l:List Rf} (h:(grow H l).length=l.length):grow H l=l:=by
 obtain⟨t,k⟩:=growF_pre H l l
 have e:grow H l=l ++ t:=k
 rw [e] at h ⊢
 have:t=[]:=List.length_eq_zero_iff.1 (by simp at h;simp [h])
 rw [this];simp
theorem Gr.done {H:Hp} {l0 l:List Rf} (h:Gr H l0 l) (hg:(grow H l).length=l.length) {r:Rf}:r∈l↔RchL H l0 r:=by
 refine⟨h.rch r,fun hr=>?_⟩
 have e:=grow_same hg
 induction hr with
 | base hr=>obtain⟨t,rfl,_⟩:=h;exact List.mem_append.2 (.inl hr)
 | step _ hc ih=>rw [← e];exact growF_mem H l l ih hc
theorem Gr.is {H:Hp} {l0 l:List Rf} (h:Gr H l0 l) (hl:∀ r∈l0,There H r) (hg:(grow H l).length=l.length):srtd H.T l=srt (explQ H l0).keys:=
 srtd_is (fun r=>by rw [explQ_mem hl,← h.done hg];exact⟨fun hr=>⟨hr,((h.rch r hr)).there hl⟩,fun hr=>hr.1⟩) (exp_all H l0 H.T.n).nd
theorem filter_len_imp {p q:Rf→Bool}:∀ {l:List Rf},(∀ x∈l,p x=true→q x=true)→(l.filter p).length≤(l.filter q).length∧((l.filter p).length=(l.filter q).length→∀ x∈l,q x=true→p x=true)
 | [],_=>⟨Nat.le_refl _,fun _ x hx=>by cases hx⟩
 | y :: l,h=>by
  obtain⟨h1,h2⟩:=filter_len_imp (l:=l) (fun x hx=>h x (by simp [hx]))
  have hy:=h y (by simp)
  by_cases hp:p y=true
  ·have hq:=hy hp
   rw [List.filter_cons_of_pos hp,List.filter_cons_of_pos hq]
   refine⟨by simp;exact h1,fun e x hx hqx=>?_⟩
   rcases List.mem_cons.1 hx with rfl | hx
   ·exact hp
   ·exact h2 (by simpa using e) x hx hqx
  ·by_cases hq:q y=true
   ·rw [List.filter_cons_of_neg hp,List.filter_cons_of_pos hq]
    refine⟨by simp;omega,fun e=>?_⟩
    simp at e;omega
   ·rw [List.filter_cons_of_neg hp,List.filter_cons_of_neg hq]
    refine⟨h1,fun e x hx hqx=>?_⟩
    rcases List.mem_cons.1 hx with rfl | hx
    ·exact absurd hqx hq
    ·exact h2 e x hx hqx
theorem clos_is {H:Hp} {l:List Rf} (hl:∀ r∈l,There H r):((srtd H.T (grow H l)).length == (srtd H.T l).length)=closB H l:=by
 have hpre:∀ r∈l,r∈grow H l:=by
  obtain⟨t,h⟩:=growF_pre H l l
  intro r hr
  show r∈growF H l l
  rw [h];exact List.mem_append.2 (.inl hr)
 obtain⟨h1,h2⟩:=filter_len_imp (p:=fun r=>decide (r∈l)) (q:=fun r=>decide (r∈grow H l)) (l:=H.T.tk) (fun x _ hx=>by simpa using hpre x (by simpa using hx))
 by_cases hc:closB H l=true
 ·rw [hc,beq_iff_eq]
  have hsub:∀ r∈grow H l,r∈l:=by
   have key:∀ (m out:List Rf),(∀ r∈m,r∈l)→(∀ r∈out,r∈l)→∀ r∈growF H out m,r∈l:=by
    intro m
    induction m with
    | nil=>intro out _ h;exact h
    | cons x m ih=>
     intro out hm ho
     refine ih _ (fun r hr=>hm r (by simp [hr])) ?_
     have hx:∀ c∈kids H x,c∈l:=fun c hc'=>by
      have:=(List.all_eq_true.1 hc) x (hm x (by simp))
      simpa using (List.all_eq_true.1 this) c hc'
     have key2:∀ (cs out:List Rf),(∀ r∈cs,r∈l)→(∀ r∈out,r∈l)→∀ r∈growKs out cs,r∈l:=by
      intro cs
      induction cs with
      | nil=>intro out _ h;exact h
      | cons c cs ih=>
       intro out hcs ho
       refine ih _ (fun r hr=>hcs r (by simp [hr])) ?_
       intro r hr
       unfold grow1 at hr
       split at hr
       ·exact ho r hr
       ·rcases List.mem_append.1 hr with hr | hr
        ·exact ho r hr
        ·rw [List.mem_singleton.1 hr];exact hcs c (by simp)
     exact key2 _ _ hx ho
   exact key l l (fun _ h=>h) (fun _ h=>h)
  unfold srtd
  congr 1
  refine List.filter_congr fun x _=>?_
  exact decide_eq_decide.2 ⟨hsub x,hpre x⟩
 ·rw [show closB H l=false from by simpa using hc,beq_eq_false_iff_ne]
  intro e
  refine hc (List.all_eq_true.2 fun r hr=>List.all_eq_true.2 fun c hc'=>?_)
  have hct:c∈H.T.tk:=tkm.2 (mem_kids.1 hc').2.2
  have hm:c∈grow H l:=growF_mem H l l hr hc'
  exact h2 (by unfold srtd at e;exact e.symm) c hct (by simpa using hm)
end Go.Proofs.YtkpnmajocgcccaaGreat
namespace Go.Proofs.YtkpnmajocgcccaaGreat
open Go.RowKit
set_option linter.unusedVariables false
set_option linter.unusedSimpArgs false
def Pos (q:Qe) (b:Rf) (i:Nat):Prop:=∃ c,q[i]?=some (b,c)
theorem Pos.mono {q t:Qe} {b:Rf} {i:Nat} (h:Pos q b i):Pos (q ++ t) b i:=by
 obtain⟨c,h⟩:=h;exact⟨c,pre_get rfl h⟩
theorem Pos.lt {q:Qe} {b:Rf} {i:Nat} (h:Pos q b i):i<q.length:=by
 obtain⟨c,h⟩:=h;exact (List.getElem?_eq_some_iff.1 h).1
theorem Pos.key {q:Qe} {b:Rf} {i:Nat} (h:Pos q b i):b∈q.keys:=by
 obtain⟨c,h⟩:=h;exact List.mem_map.2 ⟨_,List.mem_of_getElem? h,rfl⟩
theorem Pos.unique {q:Qe} (hn:q.keys.Nodup) {b:Rf} {i j:Nat} (h:Pos q b i) (k:Pos q b j):i=j:=by
 obtain⟨c,h⟩:=h
 obtain⟨d,k⟩:=k
 have h':q.keys[i]?=some b:=by unfold Qe.keys;rw [List.getElem?_map,h];rfl
 have k':q.keys[j]?=some b:=by unfold Qe.keys;rw [List.getElem?_map,k];rfl
 exact (List.getElem?_inj (List.getElem?_eq_some_iff.1 h').1 hn).1 (h'.trans k'.symm)
theorem Pos.of_key {q:Qe} {b:Rf} (h:b∈q.keys):∃ i,Pos q b i:=by
 obtain⟨x,hx,rfl⟩:=List.mem_map.1 h
 obtain⟨i,hi⟩:=List.mem_iff_getElem?.1 hx
 exact⟨i,x.2,hi⟩
theorem Pos.inj {q:Qe} {b c:Rf} {i:Nat} (h:Pos q b i) (k:Pos q c i):b=c:=by
 obtain⟨x,h⟩:=h
 obtain⟨y,k⟩:=k
 rw [h] at k
 exact congrArg Prod.fst (Option.some.inj k)
inductive Wk (H:Hp) (r:Rf):Rf→Nat→Prop
 | nil:Wk H r r 0
 | step {y c:Rf} {d:Nat}:c∈kids H y→Wk H r c d→Wk H r y (d+1)
abbrev Be:=List (Rf × Nat)
structure Bk (H:Hp) (r:Rf) (i:Nat) (q:Be):Prop where
 nd:(q.map (·.1)).Nodup
 wk:∀ x d,(x,d)∈q→Wk H r x d
 th:∀ x d,(x,d)∈q→There H x
 mono:∀ (j j':Nat) (x:Rf) (d:Nat) (x':Rf) (d':Nat),j≤j'→q[j]?=some (x,d)→q[j']?=some (x',d')→d≤d'
 le:∀ (x:Rf) (d:Nat) (x':Rf) (d':Nat),q[i]?=some (x,d)→(x',d')∈q→d'≤d+1
 cl:∀ (j:Nat) (x:Rf) (d:Nat),j<i→q[j]?=some (x,d)→∀ y,x∈kids H y→∃ d',d'≤d+1∧(y,d')∈q
 r0:(r,0)∈q
theorem Bk.len {H:Hp} {r:Rf} {i:Nat} {q:Be} (h:Bk H r i q):q.length≤H.T.n:=by
 have:=nodup_there h.nd (fun x hx=>by obtain⟨⟨y,d⟩,hy,rfl⟩:=List.mem_map.1 hx;exact h.th y d hy)
 simpa using this
structure Far (H:Hp) (r:Rf) (q:Be):Prop where
 nd:(q.map (·.1)).Nodup
 wk:∀ x d,(x,d)∈q→Wk H r x d
 th:∀ x d,(x,d)∈q→There H x
 le:∀ x d,Wk H r x d→∃ d',d'≤d∧(x,d')∈q
theorem Far.unique {H:Hp} {r:Rf} {q:Be} (h:Far H r q) {x:Rf} {d e:Nat} (h1:(x,d)∈q) (h2:(x,e)∈q):d=e:=by
 obtain⟨i,hi⟩:=List.mem_iff_getElem?.1 h1
 obtain⟨j,hj⟩:=List.mem_iff_getElem?.1 h2
 have h':(q.map (·.1))[i]?=some x:=by rw [List.getElem?_map,hi];rfl
 have k':(q.map (·.1))[j]?=some x:=by rw [List.getElem?_map,hj];rfl
 have:=(List.getElem?_inj (List.getElem?_eq_some_iff.1 h').1 h.nd).1 (h'.trans k'.symm)
 subst this
 rw [hi] at hj
 exact (Prod.mk.inj (Option.some.inj hj)).2
theorem Far.min {H:Hp} {r:Rf} {q:Be} (h:Far H r q) {x:Rf} {d e:Nat} (h1:(x,d)∈q) (h2:Wk H r x e):d≤e:=by
 obtain⟨d',a,b⟩:=h.le x e h2
 rw [h.unique h1 b];exact a
theorem Far.zero {H:Hp} {r:Rf} {q:Be} (h:Far H r q) {x:Rf} {d:Nat} (h1:(x,d)∈q):d=0↔x=r:=by
 constructor
 ·rintro rfl
  cases h.wk x 0 h1
  rfl
 ·rintro rfl
  exact Nat.le_zero.1 (h.min h1 .nil)
inductive Gdy (H:Hp) (q:Be) (l:List Rf):List Rf→Rf→Nat→Prop
 | top {x:Rf} {d:Nat}:x∈l→(x,d)∈q→(∀ y d',y∈l→(y,d')∈q→d≤d')→(∀ y,y∈l→(y,d)∈q→x.s≤y.s)→Gdy H q l [x] x d
 | step {u:List Rf} {x c:Rf} {d:Nat}:Gdy H q l u x (d+1)→c∈kids H x→(c,d)∈q→(∀ y,y∈kids H x→(y,d)∈q→c.s≤y.s)→Gdy H q l (u ++ [c]) c d
theorem Wk.snoc {H:Hp} {r c z:Rf} {k:Nat} (h:Wk H c z k) (hc:r∈kids H c):Wk H r z (k+1):=by
 induction h with
 | nil=>exact .step hc .nil
 | step hk _ ih=>exact .step hk ih
theorem Wk.trans {H:Hp} {r c z:Rf} {k d:Nat} (h:Wk H c z k) (h2:Wk H r c d):Wk H r z (k+d):=by
 induction h with
 | nil=>simpa using h2
 | @step y c' k hk _ ih=>rw [show k+1+d=k+d+1 by omega];exact .step hk ih
theorem Dp.wk {H:Hp} {l:List Rf} {i:Nat} {q:Qe} (E:Exp H l i q) {y:Rf} {u:List Rf} (hu:Wy q y u):∃ z∈l,Wk H y z (u.length - 1):=by
 induction hu with
 | @top r h1=>
  obtain⟨x,e1,e2⟩:=(Wy.top h1).last E
  obtain rfl:r=x:=by simpa using e1
  exact⟨r,e2,.nil⟩
 | @step r b u h1 h2 h3 ih=>
  obtain⟨z,hz,hw⟩:=ih
  obtain⟨j,hj⟩:=List.mem_iff_getElem?.1 h1
  rcases E.by' j _ hj with⟨e,_⟩ | ⟨_,e,_⟩
  ·exact absurd e h2
  ·refine⟨z,hz,?_⟩
   have hl:0<u.length:=List.length_pos_iff.2 h3.ne
   rw [show (r :: u).length - 1=u.length - 1+1 by simp;omega]
   exact hw.snoc e
theorem Wy.par {q:Qe} {r:Rf} {u:List Rf} (h:Wy q r u) (hl:1<u.length):∃ b v,(r,b)∈q∧b≠r∧Wy q b v∧u=r :: v:=by
 cases h with
 | top=>simp at hl
 | step h1 h2 h3=>exact⟨_,_,h1,h2,h3,rfl⟩
theorem Gdy.congr {H:Hp} {q:Be} {l m:List Rf} (h:∀ r,r∈l↔r∈m) {u:List Rf} {x:Rf} {d:Nat} (hg:Gdy H q l u x d):Gdy H q m u x d:=by
 induction hg with
 | top h1 h2 h3 h4=>exact .top ((h _).1 h1) h2 (fun y d' hy=>h3 y d' ((h y).2 hy)) (fun y hy=>h4 y ((h y).2 hy))
 | step _ h2 h3 h4 ih=>exact .step ih h2 h3 h4
def okW (want:Int) (d:Nat):Prop:=want=-1∨(d:Int)=want
instance (want:Int) (d:Nat):Decidable (okW want d):=by unfold okW;infer_instance
end Go.Proofs.YtkpnmajocgcccaaGreat
