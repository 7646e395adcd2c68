import Derived.Test.YtkpnmajocgcccaaGreatRcD
set_option maxHeartbeats 4000000
set_option maxRecDepth 100000
namespace Go.Proofs.YtkpnmajocgcccaaGreat
open Go.RowKit
set_option linter.unusedVariables false
set_option linter.unusedSimpArgs false
structure ExS (N:Nat) (w3 wr:World) (Bf Bo bm:Nat) (q:Qe) (vo:Value):Prop where
 f:wr.heap[Bf]?=some (.cells #[.map (some bm)] 85)
 o:wr.heap[Bo]?=some (.cells #[vo] 23)
 m:VMap wr bm (QV q)
 r:Row wr N vo q.keys
 k:Keeps (fun y=>N≤y) w3 wr
 n:N≤Bf∧N≤Bo∧N≤bm
 ne:Bf≠bm∧Bo≠bm
variable {N:Nat} {w3 wr w':World} {Bf Bo bm:Nat} {q:Qe} {vo:Value}
theorem ExS.quiet (h:ExS N w3 wr Bf Bo bm q vo) (hk:Keeps (fun _=>False) wr w'):ExS N w3 w' Bf Bo bm q vo:=
 ⟨block_keep h.f hk (fun h=>h),block_keep h.o hk (fun h=>h),h.m.keeps hk (fun h=>h),h.r.keeps hk (fun _ _ _ _ h=>h),h.k.trans hk.up,h.n,h.ne⟩
theorem ExS.add (h:ExS N w3 wr Bf Bo bm q vo) (h3:N≤w3.heap.size) (r p:Rf) (hr:r.Nm) (hn:q.length≤5000):
 Calls Tryz.prog 81 #[.agg #[.int .i64 r.s,.int .u32 r.g],.agg #[.int .i64 p.s,.int .u32 p.g],.pointer (some ⟨Bf,0,none⟩),.pointer (some ⟨Bo,0,none⟩)] wr fun e w'=>
  e = .returned (.tuple #[])∧∃ v',ExS N w3 w' Bf Bo bm (addq q r p) v'∧(v'.ownBlock=vo.ownBlock∨∃ y,v'.ownBlock=some y∧wr.heap.size≤y)∧Keeps (fun y=>y=Bo∨y=bm∨vo.ownBlock=some y) wr w':=by
 refine (radd_ok Bf Bo bm N q r p vo wr hr h.f h.o h.m h.r (by have:=h.k.size;omega) hn h.ne).mono ?_
 rintro e w' ⟨rfl,v',h1,h2,h3,h4,h5⟩
 refine⟨rfl,v',⟨block_keep h.f h5 ?_,h1,h3,h2,h.k.trans' h5 (fun _ _ h=>h) (fun y _ hy=>?_),h.n,h.ne⟩,h4,h5⟩
 ·rintro (e | e | e)
  ·have:=h.f;rw [e,h.o] at this;injection this with this;injection this with _ this;exact absurd this (by decide)
  ·exact h.ne.1 e
  ·exact own_ne h.r h.f (by decide) e
 ·have hn:=h.n
  rcases hy with rfl | rfl | hy
  ·exact hn.2.1
  ·exact hn.2.2
  ·exact (h.r.lt y hy).1
theorem qe_len (q:Qe):q.keys.length=q.length:=List.length_map _
theorem addq_len (q:Qe) (r p:Rf):(addq q r p).length≤q.length+1:=by
 unfold addq;split <;> simp
theorem addqs_len (l:List Rf) (b:Rf):∀ q:Qe,(addqs q l b).length≤q.length+l.length:=by
 induction l with
 | nil=>intro q;simp [addqs]
 | cons x l ih=>intro q;have:=ih (addq q x b);have h2:=addq_len q x b;show (addqs (addq q x b) l b).length≤_;simp;omega
theorem startq_len (l:List Rf):(startq l).length≤l.length:=by
 have key:∀ (l:List Rf) (q:Qe),(l.foldl (fun q r=>addq q r r) q).length≤q.length+l.length:=by
  intro l
  induction l with
  | nil=>intro q;simp
  | cons x l ih=>intro q;have:=ih (addq q x x);have h2:=addq_len q x x;simp at *;omega
 simpa [startq] using key l []
theorem foldl_take {α β:Type} (f:β→α→β) (b:β) (l:List α) (k:Nat) {x:α} (h:l[k]?=some x):(l.take (k+1)).foldl f b=f ((l.take k).foldl f b) x:=by
 rw [List.take_add_one,h,List.foldl_append];rfl
theorem There.nm {H:Hp} {r:Rf} (h:There H r) (hn:H.T.n≤256) (hw:r.Wf):r.Nm:=by
 obtain⟨h1,h2,_⟩:=h.lt
 exact⟨h1,by omega,hw⟩
theorem kid_wf {H:Hp} (hg:∀ i,(H.ob i).Good) {r c:Rf} (h:c∈kids H r):c.Wf:=by
 obtain⟨_,⟨_,_,_,k,_,e⟩,_⟩:=mem_kids.1 h
 rw [← e];exact (hg _).wf k
theorem rchl_wf {H:Hp} (hg:∀ i,(H.ob i).Good) {l:List Rf} (hl:∀ r∈l,r.Wf) {r:Rf} (h:RchL H l r):r.Wf:=by
 cases h with
 | base h=>exact hl r h
 | step _ h=>exact kid_wf hg h
theorem qkey_get {q:Qe} {i:Nat} (hi:i<q.length):∃ x,q[i]?=some x∧q.keys[i]?=some x.1:=by
 obtain⟨x,hx⟩:∃ x,q[i]?=some x:=⟨_,List.getElem?_eq_getElem hi⟩
 exact⟨x,hx,by unfold Qe.keys;rw [List.getElem?_map,hx];rfl⟩
theorem explore_ok (b t:Nat) (H:Hp) (v:Value) (l:List Rf) (base:Nat) (w:World) (h:HpAt w b t H) (hl:∀ r∈l,There H r) (hw:∀ r∈l,r.Wf) (hv:Row w base v l) (hn:l.length≤4096):
 Calls Tryz.prog 38 #[.pointer (some ⟨b,0,none⟩),v] w fun e w'=>∃ v' bm,e = .returned (.tuple #[v',.map (some bm)])∧Row w' w.heap.size v' (explQ H l).keys∧w.heap.size≤bm∧VMap w' bm (QV (explQ H l))∧Keeps (fun y=>v.ownBlock=some y) w w':=by
 have hg:=h.good
 have hn12:=h.tab.n12
 have hbl:=h.lt;have htl:=h.tab.lt
 obtain⟨p,c,rfl⟩:=hv.refs.slice
 have hvb:=own_ne hv h.own.choose_spec.1 (by decide)
 have hvt:(Value.slice p l.length c).ownBlock≠some t:=own_tab hv h.tab
 have hone:=oneSlot_there hl
 have HS:=hid (fun W (hk:Keeps (fun _=>False) w W)=>rsort_ok _ l base W (hv.keeps hk (fun _ _ _ _ h=>h)) (fun r hr=>⟨(hl r hr).lt.1,by have:=(hl r hr).lt.2.1;omega⟩) hone (by omega))
 have hsl:(srt l).length=l.length:=(srt_perm l).length_eq
 have HSN:=hid (fun r (hr:r∈srt l)=>(show r.Nm from (hl r (mem_srt.1 hr)).nm hn12.2 (hw r (mem_srt.1 hr))))
 have HXN:=hid (fun i r (hr:r∈(expl H l i).keys)=>(show There H r∧r.Nm from⟨((exp_all H l i).rch r hr).there hl,(((exp_all H l i).rch r hr).there hl).nm hn12.2 (rchl_wf hg hw ((exp_all H l i).rch r hr))⟩))
 have HKN:=hid (fun r c (hc:c∈kids H r)=>(show c.Nm from (mem_kids.1 hc).2.2.nm hn12.2 (kid_wf hg hc)))
 have HL:=hid hl
 have HW:=hid h;have HLT:=hid hv.lt
 have eadd:∀ args w,(callFunc 81 args).run Tryz.prog w = .ok (.enter 81 args) w:=enters_of Tryz.func81 (by kernel_rfl) rfl
 have ekid:∀ args w,(callFunc 85 args).run Tryz.prog w = .ok (.enter 85 args) w:=enters_of Tryz.func85 (by kernel_rfl) rfl
 have hmm:Sem.run Tryz.prog (Instr.makeMap 85 none) w = .ok (.map (some w.heap.size)) (w.alloc (.map #[] 0)):=run_makeMap _ _
 obtain⟨wm,hwm⟩:∃ wm,(w.alloc (.map #[] 0)).alloc (.cells #[.map (some w.heap.size)] 85)=wm:=⟨_,rfl⟩
 have km:Keeps (fun _=>False) w wm:=by rw [← hwm];exact ((Keeps.refl _ _).alloc _).alloc _
 have qm:VMap wm w.heap.size []:=by rw [← hwm];exact (VMap.made w).keeps ((Keeps.refl (fun _=>False) _).alloc _) (fun h=>h)
 have qf:wm.heap[w.heap.size+1]?=some (.cells #[.map (some w.heap.size)] 85):=by rw [← hwm];exact alloc_new' (by simp)
 have hsm:wm.heap.size=w.heap.size+2:=by rw [← hwm];simp
 have HWM:=hid hwm;have KM:=hid km;have QM:=hid qm;have QF:=hid qf
 clear hl hw hv h hg km qm qf hwm hone
 go_enter Tryz.func38,Tryz.ntmps38
 go_wp2_with fail
 rw [HWM.out]
 clear hmm
 refine (HS.out _ KM.out).mono ?_
 rintro e w2 ⟨rfl,hr2,hk2⟩
 have hs2:=hk2.size
 have hown:∀ y,(Value.slice p l.length c).ownBlock=some y→y<w.heap.size:=fun y hy=>(HLT.out y hy).2
 have HR2:=hid hr2;have HK2:=hid hk2
 clear hr2 hk2
 go_wp2_with fail
 obtain⟨w3,hw3⟩:∃ w3,w2.alloc (.cells #[.slice none 0 0] 23)=w3:=⟨_,rfl⟩
 have k3:Keeps (fun _=>False) w2 w3:=by rw [← hw3];exact (Keeps.refl _ _).alloc _
 have q3:w3.heap[w2.heap.size]?=some (.cells #[.slice none 0 0] 23):=by rw [← hw3];exact alloc_new
 have hs3:w3.heap.size=w2.heap.size+1:=by rw [← hw3];simp
 rw [hw3]
 have K3:=hid (show Keeps (fun y=>(Value.slice p l.length c).ownBlock=some y) w w3 from (KM.out.trans' HK2.out (fun _ _ h=>h.elim) (fun _ _ h=>h)).trans' k3 (fun _ _ h=>h) (fun _ _ h=>h.elim))
 have E3:=hid (show ExS w.heap.size w3 w3 (w.heap.size+1) w2.heap.size w.heap.size [] (.slice none 0 0) from
  ⟨block_keep (block_keep QF.out HK2.out (fun h=>by have:=hown _ h;omega)) k3 (fun h=>h),q3,(QM.out.keeps HK2.out (fun h=>by have:=hown _ h;omega)).keeps k3 (fun h=>h),Row.nil _ _,Keeps.refl _ _,⟨by omega,by omega,Nat.le_refl _⟩,⟨by omega,by omega⟩⟩)
 have HR3:=hid (show Row w3 base (.slice p l.length c) (srt l) from HR2.out.keeps k3 (fun _ _ _ _ h=>h))
 have HH3:=hid (show HpAt w3 b t H from HW.out.keeps K3.out hvb hvt)
 clear q3 k3 hw3
 obtain⟨Bf,hBf⟩:∃ Bf,w.heap.size+1=Bf:=⟨_,rfl⟩
 obtain⟨Bo,hBo⟩:∃ Bo,w2.heap.size=Bo:=⟨_,rfl⟩
 obtain⟨bm,hbm⟩:∃ bm,w.heap.size=bm:=⟨_,rfl⟩
 have hN:bm≤w3.heap.size:=by omega
 rw [hBf,hBo,hbm] at E3
 rw [hbm] at hbl htl hown
 rw [hBf,hBo,hbm]
 go_wp2_with fail
 go_loopw [20] (fun ix wr=>∃ (k:Nat) (vo:Value),k≤l.length∧ix = .int .i64 k∧Hid (ExS bm w3 wr Bf Bo bm (((srt l).take k).foldl (fun q r=>addq q r r) []) vo)) (fun ix _=>l.length - (intOf ix).toNat)
 case atStart=>exact⟨0,_,Nat.zero_le _,rfl,E3⟩
 case round=>
  obtain⟨k,vo,hk,rfl,HE⟩:=hrel
  by_cases hlt:k<l.length
  ·obtain⟨x,hx⟩:∃ x,(srt l)[k]?=some x:=⟨_,List.getElem?_eq_getElem (by omega)⟩
   have hxn:=HSN.out x (List.mem_of_getElem? hx)
   have hrr:=HR3.out.keeps HE.out.k (fun y _ _ hy h=>by have:=hown y hy;omega)
   have hcell:=hrr.refs.cell.2
   obtain⟨g,hpg,hgl,c0,c1⟩:=hcell k x hx
   subst hpg
   have hlt':(k:Int)<(l.length:Int):=by omega
   have hk0:(0:Int)≤k:=by omega
   have hql:(((srt l).take k).foldl (fun q r=>addq q r r) []).length≤5000:=by
    have:=startq_len ((srt l).take k)
    unfold startq at this
    rw [List.length_take] at this
    omega
   have HE2:=hid (HE.out.quiet ((Keeps.refl _ _).alloc (.cells #[.int .i64 x.s,.int .u32 x.g] 41)))
   have HADD:=hid (HE2.out.add hN x x hxn hql)
   have HFT:=hid (foldl_take (fun q r=>addq q r r) ([]:Qe) (srt l) k hx)
   clear hrr hcell hx
   go_wp2_with fail
   refine HADD.out.mono ?_
   rintro e w5 ⟨rfl,v5,he5,_,_⟩
   go_wp2_with fail
   refine⟨⟨k+1,v5,by omega,by go_num,?_⟩,by simp [intOf];omega⟩
   rw [HFT.out]
   exact hid he5
  ·have hnl:¬ (k:Int)<(l.length:Int):=by omega
   have HEQ:=hid (show ExS bm w3 wr Bf Bo bm (expl H l 0) vo from by
    have:=HE.out
    rw [List.take_of_length_le (by omega)] at this
    exact this)
   clear HE hlt
   go_wp2_with fail
   go_loopw [11] (fun ix wr=>∃ (i:Nat) (vo:Value),i≤H.T.n∧ix = .int .i64 i∧Hid (ExS bm w3 wr Bf Bo bm (expl H l i) vo)) (fun ix _=>H.T.n - (intOf ix).toNat)
   case atStart=>exact⟨0,_,Nat.zero_le _,rfl,HEQ⟩
   case round=>
    clear HEQ
    obtain⟨i,vi,hi,rfl,HE⟩:=hrel
    have hle:=expl_len HL.out i
    obtain⟨po,co,hvo⟩:=HE.out.r.refs.slice
    rw [qe_len] at hvo
    subst hvo
    obtain⟨o0,of,ol⟩:=cells1 HE.out.o
    have hi0:(0:Int)≤i:=by omega
    by_cases hil:i<(expl H l i).length
    ·obtain⟨x,hx,hxk⟩:=qkey_get hil
     have hcell:=HE.out.r.refs.cell.2
     obtain⟨g,hpg,hgl,c0,c1⟩:=hcell i x.1 hxk
     subst hpg
     obtain⟨⟨xr,xb⟩,hxe⟩:∃ y,x=y:=⟨_,rfl⟩
     subst hxe
     dsimp only at hxk c0 c1
     obtain⟨hxt,hxn⟩:=HXN.out i xr (List.mem_of_getElem? hxk)
     obtain⟨xi,xg,rfl,hxi⟩:∃ (xi:Nat) (xg:Int),xr=⟨xi,xg⟩∧xi<H.T.n:=by
      obtain⟨j,e1,e2,_⟩:=ckV_ok hxt
      exact⟨j,xr.g,by rw [← e1],e2⟩
     dsimp only at c0 c1
     have hlt':(i:Int)<((expl H l i).length:Int):=by omega
     have HX:=hid hx;have HXT:=hid hxt
     have HHr:=hid (show HpAt wr b t H from HH3.out.keeps HE.out.k (by omega) (by omega))
     clear hcell hx hxk hxt
     have HCC:=hid (fun W=>rchildren_call b ⟨xi,xg⟩ W)
     go_wp2_with fail
     refine (HCC.out _).mono ?_
     rintro e w4 ⟨Bh,Br,rfl,k4,qh,qr,bh,br⟩
     have HE4:=hid (HE.out.quiet k4)
     have HSF:=hid (rsorted_ok 85 _ (kids H ⟨xi,xg⟩) _ w4 (rch_gives b t Bh Br H xi xg HXT.out) ekid
      (fun W hk=>⟨block_keep qh hk (by omega),block_keep qr hk (by omega),(HHr.out.keeps k4 (fun h=>h) (fun h=>h)).keeps hk (by have:=k4.size;have:=HE.out.k.size;omega) (by have:=k4.size;have:=HE.out.k.size;omega)⟩)
      (by have:=kids_len H ⟨xi,xg⟩;omega) (fun r hr=>⟨(HKN.out _ r hr).s0,(HKN.out _ r hr).s1⟩) (oneSlot_there (fun r hr=>(mem_kids.1 hr).2.2)))
     clear k4 qh qr c0 c1 o0 of ol HE hgl bh br
     go_wp2_with fail
     refine HSF.out.mono ?_
     rintro e w5 ⟨vc,rfl,hr5,k5⟩
     obtain⟨ml,hml⟩:∃ ml,srt (kids H ⟨xi,xg⟩)=ml:=⟨_,rfl⟩
     have hml4:ml.length≤4:=by rw [← hml,(srt_perm _).length_eq];exact kids_len H _
     have hmn:∀ r∈ml,r.Nm:=fun r hr=>HKN.out ⟨xi,xg⟩ r (mem_srt.1 (by rw [hml];exact hr))
     have HML:=hid hml
     have HMN:=hid hmn
     rw [hml] at hr5
     obtain⟨pc,cc,rfl⟩:=hr5.refs.slice
     have HE5:=hid (HE4.out.quiet k5)
     have HR5:=hid hr5
     have hsep:∀ y,(Value.slice pc ml.length cc).ownBlock=some y→(Value.slice (some ⟨g,0,none⟩) (expl H l i).length co).ownBlock≠some y:=fun y hy hz=>by
      have h1:=(hr5.lt y hy).1
      have h2:=(HE4.out.r.lt y hz).2
      omega
     have HSP:=hid hsep
     clear hr5 k5 hsep HSF hml hmn HE4
     go_wp2_with fail
     go_loopw [43] (fun ix wr=>∃ (k:Nat) (vo:Value),k≤ml.length∧ix = .int .i64 k∧Hid (ExS bm w3 wr Bf Bo bm (addqs (expl H l i) (ml.take k) ⟨xi,xg⟩) vo)∧Hid (Row wr w4.heap.size (.slice pc ml.length cc) ml)∧Hid (∀ y,(Value.slice pc ml.length cc).ownBlock=some y→vo.ownBlock≠some y)) (fun ix _=>ml.length - (intOf ix).toNat)
     case atStart=>exact⟨0,_,Nat.zero_le _,rfl,HE5,HR5,HSP⟩
     case round=>
      clear HE5 HR5 HSP
      obtain⟨k,vk,hk,rfl,HE,HR,HSP⟩:=hrel
      have hk0:(0:Int)≤k:=by omega
      by_cases hkl:k<ml.length
      ·obtain⟨y,hy⟩:∃ y,ml[k]?=some y:=⟨_,List.getElem?_eq_getElem hkl⟩
       have hcell:=HR.out.refs.cell.2
       obtain⟨gc,hpg,hgl,c0,c1⟩:=hcell k y hy
       subst hpg
       have hkl':(k:Int)<(ml.length:Int):=by omega
       have hyn:=HMN.out y (List.mem_of_getElem? hy)
       obtain⟨q,hq⟩:∃ q,addqs (expl H l i) (ml.take k) ⟨xi,xg⟩=q:=⟨_,rfl⟩
       have hqn:q.length≤5000:=by
        rw [← hq]
        have:=addqs_len (ml.take k) ⟨xi,xg⟩ (expl H l i)
        rw [List.length_take] at this
        omega
       obtain⟨tl,htl2⟩:=addqs_pre (expl H l i) (ml.take k) ⟨xi,xg⟩
       have hqx:q[i]?=some (⟨xi,xg⟩,xb):=by rw [← hq];exact pre_get htl2 HX.out
       have hqk:q.keys[i]?=some ⟨xi,xg⟩:=by unfold Qe.keys;rw [List.getElem?_map,hqx];rfl
       have hil2:i<q.length:=(List.getElem?_eq_some_iff.1 hqx).1
       have hil':(i:Int)<(q.length:Int):=by omega
       have HFT:=hid (show addqs (expl H l i) (ml.take (k+1)) ⟨xi,xg⟩=addq q y ⟨xi,xg⟩ from by rw [← hq];exact foldl_take (fun q r=>addq q r ⟨xi,xg⟩) _ ml k hy)
       rw [hq] at HE
       obtain⟨wa,hwa⟩:∃ wa,wr.alloc (.cells #[.int .i64 y.s,.int .u32 y.g] 41)=wa:=⟨_,rfl⟩
       have ka:Keeps (fun _=>False) wr wa:=by rw [← hwa];exact (Keeps.refl _ _).alloc _
       have qy:wa.heap[wr.heap.size]?=some (.cells #[.int .i64 y.s,.int .u32 y.g] 41):=by rw [← hwa];exact alloc_new
       obtain⟨y0,y1,_,yl⟩:=cells2 qy
       have HEa:=hid (HE.out.quiet ka)
       have HRa:=hid (HR.out.keeps ka (fun _ _ _ _ h=>h))
       obtain⟨pk,ck,hvk⟩:=HEa.out.r.refs.slice
       rw [qe_len] at hvk
       subst hvk
       have hcell2:=HEa.out.r.refs.cell.2
       obtain⟨gk,hpk,hgk,d0,d1⟩:=hcell2 i _ hqk
       subst hpk
       dsimp only at d0 d1
       obtain⟨o0,of,ol⟩:=cells1 HEa.out.o
       have HWa:=hid hwa
       have HADD:=hid (fun W (hk:Keeps (fun _=>False) wa W)=>(HEa.out.quiet hk).add hN y ⟨xi,xg⟩ hyn hqn)
       clear hcell hcell2 hy hq hqx hqk htl2 ka qy hwa HE HR
       go_upto_region 16 with (fail)
       rw [HWa.out]
       go_region_with (go_at_fn 81;refine (HADD.out _ (by repeat (first | exact Keeps.refl _ _ | apply Keeps.alloc | apply Keeps.drewN | apply Keeps.drew))).mono ?_;rintro e w6 ⟨rfl,v6,he6,ho6,hk6⟩)
       all_goals
        go_wp2_with fail
        refine⟨⟨k+1,v6,by omega,by go_num,?_,?_,?_⟩,by simp [intOf];omega⟩
        ·rw [HFT.out];exact hid he6
        ·refine hid (HRa.out.keeps ((show Keeps (fun _=>False) wa _ from (by repeat (first | exact Keeps.refl _ _ | apply Keeps.alloc | apply Keeps.drewN | apply Keeps.drew))).up.trans hk6) (fun z _ _ hz h=>?_))
         rcases h with h | h | h
         ·exact own_ne HRa.out HEa.out.o (by decide) (by rw [hz,h])
         ·exact own_vmap HRa.out HEa.out.m (by rw [hz,h])
         ·exact HSP.out z hz h
        ·refine hid (fun z hz h=>?_)
         rcases ho6 with h6 | ⟨u,h6,h7⟩
         ·exact HSP.out z hz (by rw [← h6];exact h)
         ·rw [h6] at h
          have h8:=(HRa.out.lt z hz).2
          have h9:=Option.some.inj h
          have h10:wa.heap.size≤u:=h7
          omega
      ·have hkl':¬ (k:Int)<(ml.length:Int):=by omega
       have HEX:=hid (show ExS bm w3 wr Bf Bo bm (expl H l (i+1)) vk from by
        have e1:expl H l (i+1)=addqs (expl H l i) (srt (kids H ⟨xi,xg⟩)) ⟨xi,xg⟩:=by
         show exq H (expl H l i) i=_
         unfold exq;rw [HX.out]
        have:=HE.out
        rw [List.take_of_length_le (by omega)] at this
        rw [e1,HML.out];exact this)
       clear HE HR HSP
       go_wp2_with fail
       exact⟨⟨i+1,vk,by omega,by go_num,HEX⟩,by simp [intOf];omega⟩
    ·have hlt':¬ (i:Int)<((expl H l i).length:Int):=by omega
     have HEE:=hid (explQ_of HL.out (Nat.le_of_not_lt hil))
     obtain⟨f0,_,_⟩:=cells1 HE.out.f
     go_wp2_with fail
     go_quiet (fail)
     obtain⟨wz,hwz⟩:∃ wz,wr.drewN nq=wz:=⟨_,rfl⟩
     have kz:Keeps (fun _=>False) wr wz:=by rw [← hwz];exact (Keeps.refl _ _).drewN _
     rw [hwz]
     have he:=HE.out.quiet kz
     rw [HEE.out] at he
     rw [HEE.out]
     have HEZ:=hid he
     clear he hwz kz
     go_wp2_with fail
     go_ret2
     rw [hbm]
     exact⟨_,_,rfl,HEZ.out.r,HEZ.out.n.2.2,HEZ.out.m,K3.out.trans' HEZ.out.k (fun _ _ h=>h) (fun y hy h=>by omega)⟩
end Go.Proofs.YtkpnmajocgcccaaGreat
