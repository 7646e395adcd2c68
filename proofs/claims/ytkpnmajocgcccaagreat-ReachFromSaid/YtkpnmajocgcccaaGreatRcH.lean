import Derived.Test.YtkpnmajocgcccaaGreatRcF
import Derived.Shelf.SlicesQ.Reverse
set_option maxHeartbeats 4000000
set_option maxRecDepth 100000
namespace Go.Proofs.YtkpnmajocgcccaaGreat
open Go.RowKit
set_option linter.unusedVariables false
set_option linter.unusedSimpArgs false
theorem rreverse_ok (v:Value) (l:List Rf) (base:Nat) (w:World) (hv:Row w base v l) (hl:∀ r∈l,0≤r.s∧r.s<4611686018427387904) (hn:l.length≤65536):
 Calls Tryz.prog 73 #[v] w fun e w'=>e = .returned (.tuple #[])∧Row w' base v l.reverse∧Keeps (fun k=>v.ownBlock=some k) w w':=by
 obtain⟨ss,rfl⟩:∃ ss:List Rs,ss.map (·.1)=l:=⟨l.pmap (fun r h=>⟨r,h⟩) hl,by simp [List.map_pmap]⟩
 rw [List.length_map] at hn
 obtain⟨hv1,hv2⟩:=hv
 rw [List.length_map] at hv1 hv2
 rcases hv2 with⟨rfl,h0⟩ | ⟨g,cap,cur,rfl,hb,hg,r1,r2,r3,r4⟩
 ·obtain rfl:ss=[]:=List.eq_nil_of_length_eq_zero h0
  exact (AnyQ.slices_Reverse_empty lay_rev none 0 w).mono fun e w' ⟨he,hw⟩=>⟨he,by rw [hw];exact Row.nil _ _,by rw [hw];exact Keeps.refl _ _⟩
 ·have e0:(ss.map (·.1)).flatMap encR=ss.flatMap encS:=by rw [List.flatMap_map];rfl
  rw [e0] at hv1 r4
  have hcon:=AnyQ.slices_Reverse lay_rev 2 isAgg_ref sizeOf_ref encS (fun _=>rfl) (fun x v hv=>by simp [encS,encR] at hv;rcases hv with rfl | rfl <;> rfl) g 0 cap ss.toArray w (holdsK_of hg r4) (by simp;omega)
  refine hcon.mono ?_
  rintro e w' ⟨rfl,n,rfl⟩
  have ew:Go.Sort.putRowK encS 2 (Go.Sort.ahead w n) g 0 ss.toArray.reverse=Go.Proofs.sortWorldK encS 2 w g 0 n ss.reverse.toArray #[]:=by
   unfold Go.Proofs.sortWorldK
   rw [Go.Sort.grow_empty,List.reverse_toArray]
  rw [ew]
  refine⟨rfl,?_,(keeps_sortedK _).mono (fun k _ h=>by subst h;rfl)⟩
  rw [← List.map_reverse]
  refine⟨?_,.inr ⟨g,cap,_,?_,hb,heap_sortedK _ hg,?_,r2,by simp [Go.Sort.putCells,r3],?_⟩⟩
  ·rw [List.flatMap_map]
   show (ss.reverse.flatMap encS).length=_
   rw [flatMap_len,List.length_map]
  ·simp
  ·simp;exact r1
  ·rw [List.flatMap_map,List.length_map]
   exact take_putK cur ss.reverse (by rw [r3,List.length_reverse];exact Nat.mul_le_mul_right 2 (by omega))
theorem vmap_ne {w:World} {b x:Nat} {q:List (Rf × Value)} (h:VMap w b q) {c:Array Value} {t:TypeId} (hx:w.heap[x]?=some (.cells c t)):b≠x:=by
 rintro rfl
 obtain⟨⟨es,cl,h1,_⟩,_⟩:=h
 rw [h1] at hx
 cases hx
def slLen:Value→Nat
 | .slice _ n _=>n
 | _=>0
theorem tk_th {A:Ar} {r:Rf} (h:r∈A.H.T.tk):There A.H r:=by
 obtain⟨⟨j,g⟩,h1,rfl⟩:=List.mem_map.1 h
 obtain⟨h2,h3,h4⟩:=Tb.inn_mem h1
 exact There.of (by simp [rfOf]) (by simp [rfOf];omega) (by simp [rfOf];exact h2) (by simp [rfOf];exact h3)
theorem all_ok (a:Nat) (LA:ArL) (A:Ar) (w:World) (h:ArIn w a LA A) (hok:A.Ok):
 Calls Tryz.prog 17 #[.pointer (some ⟨a,0,none⟩)] w fun e w'=>∃ v,e = .returned (.tuple #[v,.int .i64 0])∧Row w' w.heap.size v (srt A.rq.keys)∧Keeps (fun _=>False) w w':=by
 have HL:=hid (look_ok a LA A w h hok)
 have hn256:=hok.n2
 have hl:=rq_len A
 have HS:=hid (fun v W (hv:Row W w.heap.size v A.rq.keys)=>rsort_ok v A.rq.keys w.heap.size W hv (fun r hr=>⟨(rq_there hr).lt.1,by have:=(rq_there hr).lt.2.1;omega⟩) (oneSlot_there (fun r hr=>rq_there hr)) (by omega))
 clear h hok
 go_enter Tryz.func17,Tryz.ntmps17
 go_wp2_with fail
 refine HL.out.mono ?_
 rintro e w1 ⟨b,t,v,bm,rfl,hh,hr,hm,k1⟩
 obtain⟨p,c,rfl⟩:=hr.refs.slice
 obtain⟨wb,hwb⟩:∃ wb,w1.alloc (.cells #[.pointer (some ⟨b,0,none⟩),.slice p A.rq.keys.length c,.map (some bm)] 105)=wb:=⟨_,rfl⟩
 have kb:Keeps (fun _=>False) w1 wb:=by rw [← hwb];exact (Keeps.refl _ _).alloc _
 have qb:wb.heap[w1.heap.size]?=some (.cells #[.pointer (some ⟨b,0,none⟩),.slice p A.rq.keys.length c,.map (some bm)] 105):=by rw [← hwb];exact alloc_new
 have HR:=hid (hr.keeps kb (fun _ _ _ _ h=>h));have QB:=hid qb;have K:=hid (k1.trans kb)
 have HSV:=hid (HS.out _ wb HR.out)
 clear hh hr hm k1 kb qb HL HS
 subst hwb
 go_wp2_with fail
 refine HSV.out.mono ?_
 rintro e w2 ⟨rfl,hr2,k2⟩
 have hG:=own_ne HR.out QB.out (by decide)
 obtain⟨b0,b1,b2,bl⟩:=cells3 (block_keep QB.out k2 hG)
 have HR2:=hid hr2
 have K2:=hid ((K.out.trans' k2 (U:=fun y=>w.heap.size≤y) (fun _ _ h=>h.elim) (fun y _ h=>(HR.out.lt y h).1)).fresh)
 clear hr2 k2 hG
 go_wp2_with fail
 go_ret2
 exact⟨_,rfl,HR2.out,K2.out⟩
theorem lost1 (G b bm:Nat) (v:Value) (q:Qe) (r:Rf) (w:World) (hq:w.heap[G]?=some (.cells #[.pointer (some ⟨b,0,none⟩),v,.map (some bm)] 105)) (hm:VMap w bm (QV q)) (hn:q.keys.Nodup) (hr:r.Nm):
 Calls Tryz.prog 68 #[.agg #[.int .i64 r.s,.int .u32 r.g],.pointer (some ⟨G,0,none⟩)] w fun e w'=>e = .returned (.bool (decide (r∈q.keys)))∧Keeps (fun _=>False) w w':=by
 obtain⟨c0,c1,c2,cl⟩:=cells3 hq
 have ka:Keeps (fun _=>False) w (w.alloc (.cells #[.int .i64 r.s,.int .u32 r.g] 41)):=(Keeps.refl _ _).alloc _
 have hlook:=(hm.keeps ka (fun h=>h)).look (t:=85) Tryz.underlying85 (ways_zero _) hr true
 obtain⟨x,hx⟩:∃ x:Rf,Sem.run Tryz.prog (Instr.lookup 85 (.map (some bm)) (.agg #[.int .i64 r.s,.int .u32 r.g]) true) (w.alloc (.cells #[.int .i64 r.s,.int .u32 r.g] 41)) = .ok (.tuple #[.agg #[.int .i64 x.s,.int .u32 x.g],.bool (decide (r∈q.keys))]) (w.alloc (.cells #[.int .i64 r.s,.int .u32 r.g] 41)):=by
  rcases hlook with⟨h1,h2⟩ | ⟨x,h1,h2⟩
  ·refine⟨.no,?_⟩
   rw [decide_eq_false (fun hk=>by
    obtain⟨y,hy,e⟩:=List.mem_map.1 hk
    exact h1 (y.1,y.2.val) (List.mem_map.2 ⟨y,hy,rfl⟩) e)]
   rw [if_pos rfl] at h2
   exact h2
  ·obtain⟨y,hy,e⟩:=List.mem_map.1 h1
   injection e with e1 e2
   refine⟨y.2,?_⟩
   rw [decide_eq_true (QV.yes h1)]
   rw [if_pos rfl,← e2] at h2
   exact h2
 obtain⟨is,his⟩:∃ is,decide (r∈q.keys)=is:=⟨_,rfl⟩
 rw [his] at hx ⊢
 clear hq hm hn hr hlook his ka
 go_enter Tryz.func68,Tryz.ntmps68
 go_wp2_with fail
 go_ret
 exact⟨rfl,((Keeps.refl _ _).alloc _).alloc _⟩
def Ar.lostL (A:Ar):List Rf:=A.H.T.tk.filter (fun r=>!decide (r∈A.rq.keys))
theorem lost_ok (a:Nat) (LA:ArL) (A:Ar) (w:World) (h:ArIn w a LA A) (hok:A.Ok):
 Calls Tryz.prog 19 #[.pointer (some ⟨a,0,none⟩)] w fun e w'=>∃ v,e = .returned (.tuple #[v,.int .i64 0])∧Row w' w.heap.size v A.lostL∧Keeps (fun _=>False) w w':=by
 have HL:=hid (look_ok a LA A w h hok)
 have hn256:=hok.n2
 have HNM:=hid (fun r (hr:r∈A.H.T.tk)=>(show r.Nm from (tk_th hr).nm hn256 (there_wf hok (tk_th hr))))
 have hl:=tk_len A.H.T
 have elost:∀ args w,(callFunc 68 args).run Tryz.prog w = .ok (.enter 68 args) w:=enters_of Tryz.func68 (by kernel_rfl) rfl
 clear h hok
 go_enter Tryz.func19,Tryz.ntmps19
 go_wp2_with fail
 refine HL.out.mono ?_
 rintro e w1 ⟨b,t,v,bm,rfl,hh,hr,hm,k1⟩
 obtain⟨p,c,rfl⟩:=hr.refs.slice
 obtain⟨wb,hwb⟩:∃ wb,w1.alloc (.cells #[.pointer (some ⟨b,0,none⟩),.slice p A.rq.keys.length c,.map (some bm)] 105)=wb:=⟨_,rfl⟩
 have kb:Keeps (fun _=>False) w1 wb:=by rw [← hwb];exact (Keeps.refl _ _).alloc _
 have qb:wb.heap[w1.heap.size]?=some (.cells #[.pointer (some ⟨b,0,none⟩),.slice p A.rq.keys.length c,.map (some bm)] 105):=by rw [← hwb];exact alloc_new
 have HAL:=hid (hall_ok b t A.H wb (hh.keeps kb (fun h=>h) (fun h=>h)))
 have QB:=hid qb;have K:=hid (k1.trans kb);have HM:=hid (hm.keeps kb (fun h=>h))
 have hsb:w.heap.size≤wb.heap.size:=K.out.size
 obtain⟨G,hG⟩:∃ G,w1.heap.size=G:=⟨_,rfl⟩
 rw [hG] at QB
 have hGl:=lt_block QB.out
 have hbl:=HM.out.lt
 have hb2:=hwb
 clear hh hr hm k1 kb qb HL
 subst hwb
 go_wp2_with fail
 refine HAL.out.mono ?_
 rintro e w2 ⟨v2,rfl,hr2,k2⟩
 have HD:=hid (rdelete_row 68 #[.pointer (some ⟨G,0,none⟩)] (fun r=>decide (r∈A.rq.keys)) v2 A.H.T.tk _ w2 hr2 (by omega) elost
  (fun x hx W hk=>lost1 G b bm _ A.rq x W (block_keep (block_keep QB.out k2 (fun h=>h)) hk (fun h=>by have:=(hr2.lt _ h).1;omega)) ((HM.out.keeps k2 (fun h=>h)).keeps hk (fun h=>by have:=(hr2.lt _ h).1;omega)) (rq_nd A) (HNM.out x hx)))
 have HR2:=hid hr2
 have K2:=hid (K.out.trans k2)
 clear hr2 k2
 try rw [hG]
 go_wp2_with fail
 refine HD.out.mono ?_
 rintro e w3 ⟨v3,rfl,hr3,_,k3⟩
 have HR3:=hid (hr3.mono hsb)
 have K3:=hid ((K2.out.trans' k3 (U:=fun y=>w.heap.size≤y) (fun _ _ h=>h.elim) (fun y _ h=>by have:=(HR2.out.lt y h).1;omega)).fresh)
 clear hr3 k3
 go_wp2_with fail
 go_ret2
 exact⟨_,rfl,HR3.out,K3.out⟩
def Ar.wayL (A:Ar) (r:Rf):List Rf:=wayQ A.rq r
theorem qv_mem {q:Qe} (hn:q.keys.Nodup) {r:Rf} {v:Value} (h:(r,v)∈QV q):v=(par q r).val:=by
 obtain⟨y,hy,e⟩:=List.mem_map.1 h
 injection e with e1 e2
 rw [← e2,par_of (b:=y.2) hn (by rw [← e1];exact hy)]
theorem VMap.par {w:World} {b:Nat} {q:Qe} {r:Rf} (h:VMap w b (QV q)) (hn:q.keys.Nodup) (hr:r.Nm) (hk:r∈q.keys):
 Sem.run Tryz.prog (Instr.lookup 85 (.map (some b)) (.agg #[.int .i64 r.s,.int .u32 r.g]) false) w = .ok (.agg #[.int .i64 (par q r).s,.int .u32 (par q r).g]) w:=by
 rcases h.look (t:=85) Tryz.underlying85 (ways_zero w) hr false with⟨h1,_⟩ | ⟨x,h1,h2⟩
 ·obtain⟨y,hy,e⟩:=List.mem_map.1 hk
  exact absurd e (h1 (y.1,y.2.val) (List.mem_map.2 ⟨y,hy,rfl⟩))
 ·rw [qv_mem hn h1] at h2
  exact h2
theorem rq_exp (A:Ar):Exp A.H A.orig A.H.T.n A.rq:=exp_all A.H A.orig A.H.T.n
theorem way_len {A:Ar} {r:Rf} {u:List Rf} (h:Wy A.rq r u):u.length≤A.H.T.n:=by
 have hr:=h.len (rq_nd A) r (by have:=h.head;cases u with | nil=>cases this | cons x u=>obtain rfl:=Option.some.inj this;simp)
 obtain⟨x,hx,rfl⟩:=List.mem_map.1 hr
 obtain⟨j,hj⟩:=List.mem_iff_getElem?.1 hx
 have h1:=Wy.le (rq_exp A) j x hj u h
 have h2:=(List.getElem?_eq_some_iff.1 hj).1
 have h3:A.rq.length≤A.H.T.n:=expl_len orig_there _
 omega
theorem path_ok (a:Nat) (LA:ArL) (A:Ar) (r:Rf) (w:World) (h:ArIn w a LA A) (hok:A.Ok) (hw:r.Wf):
 Calls Tryz.prog 24 #[.pointer (some ⟨a,0,none⟩),.agg #[.int .i64 r.s,.int .u32 r.g]] w fun e w'=>∃ v,e = .returned (.tuple #[v,.bool (decide (r∈A.rq.keys)),.int .i64 (ckV A.H.T r.s r.g)])∧Row w' w.heap.size v (A.wayL r)∧Keeps (fun _=>False) w w':=by
 have HL:=hid (fun W (hk:Keeps (fun _=>False) w W)=>look_ok a LA A W (h.keeps0 hk) hok)
 obtain⟨ec,hec⟩:∃ ec,ckV A.H.T r.s r.g=ec:=⟨_,rfl⟩
 obtain⟨is,his⟩:∃ is,decide (r∈A.rq.keys)=is:=⟨_,rfl⟩
 obtain⟨wl,hwl⟩:∃ wl,A.wayL r=wl:=⟨_,rfl⟩
 have hn256:=hok.n2
 have HNM:=hid (fun x (hx:x∈A.rq.keys)=>(show x.Nm from (rq_there hx).nm hn256 (there_wf hok (rq_there hx))))
 have HEC:=hid hec;have HIS:=hid his;have HWL:=hid hwl;have HWF:=hid hw
 obtain⟨wa,hwa⟩:∃ wa,w.alloc (.cells #[.int .i64 r.s,.int .u32 r.g] 41)=wa:=⟨_,rfl⟩
 have ka:Keeps (fun _=>False) w wa:=by rw [← hwa];exact (Keeps.refl _ _).alloc _
 have qa:wa.heap[w.heap.size]?=some (.cells #[.int .i64 r.s,.int .u32 r.g] 41):=by rw [← hwa];exact alloc_new
 have hsa:wa.heap.size=w.heap.size+1:=by rw [← hwa];simp
 have HWA:=hid hwa;have KA:=hid ka;have QA:=hid qa
 rw [hec,his,hwl]
 clear h hok hw ka qa hwa hec his hwl
 go_enter Tryz.func24,Tryz.ntmps24
 go_wp2_with fail
 rw [HWA.out]
 refine (HL.out _ KA.out).mono ?_
 rintro e w1 ⟨b,t,v,bm,rfl,hh,hr,hm,k1⟩
 obtain⟨p,c,rfl⟩:=hr.refs.slice
 obtain⟨wb,hwb⟩:∃ wb,w1.alloc (.cells #[.pointer (some ⟨b,0,none⟩),.slice p A.rq.keys.length c,.map (some bm)] 105)=wb:=⟨_,rfl⟩
 have kb:Keeps (fun _=>False) w1 wb:=by rw [← hwb];exact (Keeps.refl _ _).alloc _
 have qb:wb.heap[w1.heap.size]?=some (.cells #[.pointer (some ⟨b,0,none⟩),.slice p A.rq.keys.length c,.map (some bm)] 105):=by rw [← hwb];exact alloc_new
 obtain⟨G,hG⟩:∃ G,w1.heap.size=G:=⟨_,rfl⟩
 have hNG:w.heap.size<G:=by have:=k1.size;omega
 rw [hG] at qb
 have HWB:=hid hwb;have QB:=hid qb
 have KB:=hid (show Keeps (fun _=>False) w wb from (KA.out.trans k1).trans kb)
 have KAB:=hid (show Keeps (fun _=>False) wa wb from k1.trans kb)
 obtain⟨o,ho⟩:=hobject_any b t A.H r wb (hh.keeps kb (fun h=>h) (fun h=>h))
 rw [HEC.out] at ho
 have HO:=hid ho
 have HM:=hid (hm.keeps kb (fun h=>h))
 obtain⟨a0,a1,_,al⟩:=cells2 (block_keep QA.out k1 (fun h=>h))
 rw [hG] at al
 clear hh hr hm k1 kb qb hwb ho HL hNG
 go_wp2_with fail
 rw [HWB.out]
 clear a0 a1
 have hNG:=al
 refine HO.out.mono ?_
 rintro e w2 ⟨rfl,k2⟩
 dsimp only [Ob.arr]
 obtain⟨wc,hwc⟩:∃ wc,w2.alloc (.cells o.arr 122)=wc:=⟨_,rfl⟩
 have kc:Keeps (fun _=>False) wb wc:=by rw [← hwc];exact k2.alloc _
 have KC:=hid (KB.out.trans kc)
 unfold Ob.arr at hwc
 have HWC:=hid hwc
 obtain⟨a0,a1,_,al2⟩:=cells2 (block_keep QA.out (KAB.out.trans k2) (fun h=>h))
 obtain⟨b0,b1,b2,bl2⟩:=cells3 (block_keep QB.out k2 (fun h=>h))
 have al3:w.heap.size<w2.heap.size+1:=by omega
 have bl3:G<w2.heap.size+1:=by omega
 have hsc:wc.heap.size=w2.heap.size+1:=by rw [← hwc];simp
 have QBC:=hid (block_keep QB.out kc (fun h=>h))
 have QAC:=hid (block_keep QA.out (KAB.out.trans kc) (fun h=>h))
 have HMC:=hid (HM.out.keeps kc (fun h=>h))
 by_cases he:ec=0
 ·subst he
  have hth:There A.H r:=HEC.out
  have hnm:r.Nm:=hth.nm hn256 HWF.out
  have hlook:=HMC.out.look (t:=85) Tryz.underlying85 (ways_zero wc) hnm true
  by_cases hk:r∈A.rq.keys
  ·have hl2:Sem.run Tryz.prog (Instr.lookup 85 (.map (some bm)) (.agg #[.int .i64 r.s,.int .u32 r.g]) true) wc = .ok (.tuple #[.agg #[.int .i64 (par A.rq r).s,.int .u32 (par A.rq r).g],.bool true]) wc:=by
    rcases hlook with⟨h1,_⟩ | ⟨x,h1,h2⟩
    ·obtain⟨y,hy,e⟩:=List.mem_map.1 hk
     exact absurd e (h1 (y.1,y.2.val) (List.mem_map.2 ⟨y,hy,rfl⟩))
    ·rw [qv_mem (rq_nd A) h1] at h2
     rw [if_pos rfl] at h2
     exact h2
   obtain⟨U,hU⟩:=Wy.of_key (rq_exp A) hk
   have HU:=hid hU
   have HWU:=hid (show wl=U.reverse by rw [← HWL.out];exact wayQ_of (rq_exp A) hk hU)
   have HIS1:=hid (show is=true by rw [← HIS.out];exact decide_eq_true hk)
   obtain⟨by0,hby⟩:∃ by0,par A.rq r=by0:=⟨_,rfl⟩
   rw [hby] at hl2
   obtain⟨wd,hwd⟩:∃ wd,wc.alloc (.cells #[.int .i64 by0.s,.int .u32 by0.g] 41)=wd:=⟨_,rfl⟩
   have kd:Keeps (fun _=>False) wc wd:=by rw [← hwd];exact (Keeps.refl _ _).alloc _
   have qd:wd.heap[wc.heap.size]?=some (.cells #[.int .i64 by0.s,.int .u32 by0.g] 41):=by rw [← hwd];exact alloc_new
   have hsd:wd.heap.size=wc.heap.size+1:=by rw [← hwd];simp
   obtain⟨B,hB⟩:∃ B,wc.heap.size=B:=⟨_,rfl⟩
   rw [hB] at qd
   have hGB:G<B:=by have:=lt_block QBC.out;omega
   have HWD:=hid hwd;have QD:=hid qd
   have QAD:=hid (block_keep QAC.out kd (fun h=>h));have QBD:=hid (block_keep QBC.out kd (fun h=>h));have HMD:=hid (HMC.out.keeps kd (fun h=>h))
   have KD:=hid (KC.out.trans kd)
   have HBY:=hid hby
   obtain⟨we,hwe⟩:∃ we,wd.alloc (.cells #[.int .i64 r.s,.int .u32 r.g] 41)=we:=⟨_,rfl⟩
   have kee:Keeps (fun _=>False) wd we:=by rw [← hwe];exact (Keeps.refl _ _).alloc _
   have qe:we.heap[wd.heap.size]?=some (.cells #[.int .i64 r.s,.int .u32 r.g] 41):=by rw [← hwe];exact alloc_new
   have HRE:=hid (show Row we (B+1) (.slice (some ⟨wd.heap.size,0,none⟩) 1 1) [r] from row_of (l:=[r]) (by omega) qe (Nat.le_refl _) (by unfold maxLen;omega) rfl (fun j q hj=>by
    match j,hj with
    | 0,hj=>obtain rfl:r=q:=Option.some.inj hj;exact⟨rfl,rfl⟩))
   have HWE:=hid hwe
   have KE:=hid kee
   have hnm0:=hnm
   have hB2:w2.heap.size+1=B:=by omega
   have hB3:wd.heap.size=B+1:=by omega
   have al4:w.heap.size<B:=by omega
   rw [hB3] at HRE
   rw [← hwc] at hl2
   clear hlook hk hU hby kd qd hwd kc k2 hwc qe kee hwe hth hB hsd hsc
   go_wp2_with fail
   rw [HWC.out,HWD.out,HWE.out]
   clear hl2 a0 a1 b0 b1 b2
   go_loopw [13] (fun s13 wr=>∃ (pre u:List Rf) (cur:Rf) (p:Option Addr) (c:Nat),s13 = .slice p (pre ++ [cur]).length c∧Hid (Row wr (B+1) (.slice p (pre ++ [cur]).length c) (pre ++ [cur]))∧Hid (Wy A.rq cur u)∧Hid (pre ++ u=U)∧
    Hid (wr.heap[w.heap.size]?=some (.cells #[.int .i64 cur.s,.int .u32 cur.g] 41))∧Hid (wr.heap[B]?=some (.cells #[.int .i64 (par A.rq cur).s,.int .u32 (par A.rq cur).g] 41))∧Hid (Keeps (fun y=>y=w.heap.size∨B≤y) wd wr)) (fun s13 _=>U.length+1 - slLen s13)
   case atStart=>
    exact⟨[],U,r,_,1,rfl,HRE,HU,hid rfl,hid (block_keep QAD.out KE.out (fun h=>h)),hid (by rw [HBY.out];exact block_keep QD.out KE.out (fun h=>h)),hid KE.out.up⟩
   case round=>
    obtain⟨pre,u,cur,p3,c3,rfl,HR,HY,HP,Q3,Q11,HK⟩:=hrel
    obtain⟨y0,y1,yf,yl⟩:=cells2 Q3.out
    obtain⟨z0,z1,zf,zl⟩:=cells2 Q11.out
    have hneq:=fun W=>neq_ref W (par A.rq cur).s (par A.rq cur).g cur.s cur.g
    simp only [Rf.eq_iff] at hneq
    obtain⟨bb,hbb⟩:∃ bb,par A.rq cur=bb:=⟨_,rfl⟩
    have HBB:=hid hbb
    rw [hbb] at hneq z0 z1 Q11
    clear hbb
    have hUn:U.length≤A.H.T.n:=way_len HU.out
    have hlen:(pre ++ [cur]).length=pre.length+1:=by simp
    have hr:=HR.out
    rw [hlen] at hr ⊢
    have HYC:=HY.out
    cases HYC with
    | top h1=>
     have hb:bb=cur:=by rw [← HBB.out];exact par_of (rq_nd A) h1
     have hd:decide (bb=cur)=true:=decide_eq_true hb
     rw [hd] at hneq
     have hlU:(pre ++ [cur]).length≤256:=by rw [HP.out];omega
     have HRV:=hid (rreverse_ok _ (pre ++ [cur]) (B+1) wr hr (fun x hx=>by
      rw [HP.out] at hx
      have:=HNM.out x (HU.out.len (rq_nd A) x hx)
      exact⟨this.s0,this.s1⟩) (by omega))
     have HR2:=hid hr
     clear hd hb h1 HY hr hlU hUn
     go_wp2_with fail
     refine HRV.out.mono ?_
     rintro e w5 ⟨rfl,hr5,k5⟩
     have HR5:=hid hr5;have K5:=hid k5
     clear hr5 k5
     go_wp2_with fail
     go_ret3
     refine⟨.slice p3 (pre.length+1) c3,by rw [HIS1.out];rfl,?_,?_⟩
     ·rw [HWU.out,← HP.out]
      exact HR5.out.mono (by omega)
     ·exact ((KD.out.trans' HK.out (U:=fun y=>w.heap.size≤y) (fun _ _ h=>h.elim) (fun y _ h=>by omega)).trans' K5.out (fun _ _ h=>h) (fun y _ h=>by have:=(HR2.out.lt y h).1;omega)).fresh
    | @step _ b' u' h1 h2 h3=>
     obtain rfl:bb=b':=by rw [← HBB.out];exact par_of (rq_nd A) h1
     have hd:decide (bb=cur)=false:=decide_eq_false h2
     rw [hd] at hneq
     have hbk:bb∈A.rq.keys:=h3.len (rq_nd A) bb (by have:=h3.head;cases u' with | nil=>cases this | cons x u=>obtain rfl:=Option.some.inj this;simp)
     have hbn:=HNM.out bb hbk
     have HY3:=hid h3
     have HBK:=hid hbk
     have HPU:=hid HP.out
     have hul:1≤u'.length:=by have:=h3.ne;cases u' with | nil=>exact absurd rfl this | cons x u=>simp
     have hpl:pre.length+1+u'.length≤A.H.T.n:=by have:=congrArg List.length HP.out;simp at this;omega
     obtain⟨ws,hws⟩:∃ ws,(wr.setCell ⟨w.heap.size,0,none⟩ (.int .i64 bb.s)).setCell ⟨w.heap.size,1,none⟩ (.int .u32 bb.g)=ws:=⟨_,rfl⟩
     have ks:Keeps (fun y=>y=w.heap.size) wr ws:=by
      rw [← hws]
      exact Keeps.setCell (p:=⟨w.heap.size,1,none⟩) (Keeps.setCell (p:=⟨w.heap.size,0,none⟩) (Keeps.refl (fun y=>y=w.heap.size) wr) (.inl rfl) _) (.inl rfl) _
     have q3s:ws.heap[w.heap.size]?=some (.cells #[.int .i64 bb.s,.int .u32 bb.g] 41):=by rw [← hws];exact set_block (set_block Q3.out 0 _) 1 _
     have hsws:ws.heap.size=wr.heap.size:=by rw [← hws];simp
     have HWS:=hid hws
     have KS:=hid ks;have Q3S:=hid q3s
     have HVS:=hid (hr.keeps ks (fun y h1 _ _ h=>by omega))
     have HRO:=hid (refs_one (alloc_new (w:=ws) (o:=.cells #[.int .i64 bb.s,.int .u32 bb.g] 41)))
     have HVD:=hid (HVS.out.keeps ((Keeps.refl (fun _=>False) _).alloc (.cells #[.int .i64 bb.s,.int .u32 bb.g] 41)) (fun _ _ _ _ h=>h))
     have KA:=hid ((KS.out.alloc (.cells #[.int .i64 bb.s,.int .u32 bb.g] 41)))
     have Q3A:=hid (alloc_old (o:=.cells #[.int .i64 bb.s,.int .u32 bb.g] 41) Q3S.out)
     rw [hsws] at HRO
     rw [← hws] at HRO HVD KA Q3A
     have HVDL:=hid HVD.out.lt
     have hsA:B+1≤wr.heap.size:=by have:=HK.out.size;omega
     have HBMS:=hid (fun (W:World) (hk:Keeps (fun y=>y=w.heap.size∨B≤y) wd W)=>(show VMap W bm (QV A.rq)∧W.heap[G]?=some (.cells #[.pointer (some ⟨b,0,none⟩),.slice p A.rq.keys.length c,.map (some bm)] 105) from
      ⟨HMD.out.keeps hk (fun h=>by
       rcases h with h | h
       ·exact vmap_ne HMD.out QAD.out h
       ·have h1:=HMC.out.lt;have h2:=lt_block QD.out;have h3:=vmap_ne HMD.out QD.out;have h4:=HMD.out.lt;omega),block_keep QBD.out hk (by omega)⟩))
     clear ks q3s hws hd h1 h2 h3 hr hbk HY
     go_wp2_with (first
      | (at_builtin;refine wpList_append_refs _ rfl _ _ rfl (B+1) _ _ (pre ++ [cur]) [bb] rfl rfl HVD.out HRO.out (by rw [List.length_singleton];omega) (by simp;omega) ?_;intro v5 w5 hr5 hk5 ho5;obtain⟨p5,c5,rfl⟩:=hr5.refs.slice;rw [show (pre ++ [cur] ++ [bb]).length=pre.length+1+1 from by simp] at hr5;have k5:=KA.out.trans' hk5 (U:=fun y=>y=w.heap.size∨B<y) (fun _ _ h=>.inl h) (fun y _ h=>.inr (by have:=(HVDL.out y h).1;omega));have k5d:=HK.out.trans' k5 (fun _ _ h=>h) (fun y _ h=>by omega);obtain⟨m5,g5⟩:=HBMS.out w5 k5d;obtain⟨f0,f1,f2,fl⟩:=cells3 g5;have q35:=block_keep Q3A.out hk5 (fun h=>by have:=(HVDL.out _ h).1;omega);obtain⟨d0,d1,df,dl⟩:=cells2 q35;have q11:=block_keep Q11.out k5 (by omega);obtain⟨e0,e1,ef,el⟩:=cells2 q11;have hl5:=m5.par (rq_nd A) hbn HBK.out;have HR5:=hid hr5;have K5:=hid k5d;have Q35:=hid q35;have Q115:=hid q11;clear hr5 hk5 ho5 k5 k5d m5 g5 q35 q11)
      | fail)
     obtain⟨w6,hw6⟩:∃ w6,(w5.setCell ⟨B,0,none⟩ (.int .i64 (par A.rq bb).s)).setCell ⟨B,1,none⟩ (.int .u32 (par A.rq bb).g)=w6:=⟨_,rfl⟩
     have k6:Keeps (fun y=>y=B) w5 w6:=by
      rw [← hw6]
      exact Keeps.setCell (p:=⟨B,1,none⟩) (Keeps.setCell (p:=⟨B,0,none⟩) (Keeps.refl (fun y=>y=B) w5) (.inl rfl) _) (.inl rfl) _
     have q6:w6.heap[B]?=some (.cells #[.int .i64 (par A.rq bb).s,.int .u32 (par A.rq bb).g] 41):=by rw [← hw6];exact set_block (set_block Q115.out 0 _) 1 _
     rw [hw6]
     have e7:(pre ++ [cur] ++ [bb]).length=pre.length+1+1:=by simp
     refine⟨⟨pre ++ [cur],u',bb,p5,c5,?_,?_,HY3,hid (by rw [List.append_assoc];exact HPU.out),hid (block_keep Q35.out k6 (by omega)),hid q6,hid (K5.out.trans' k6 (fun _ _ h=>h) (fun y _ h=>by omega))⟩,?_⟩
     ·rw [e7]
     ·rw [e7];exact hid (HR5.out.keeps k6 (fun y h1 _ _ h=>by omega))
     ·have hul2:U.length=pre.length+(u'.length+1):=by rw [← HPU.out];simp
      simp only [slLen]
      omega
  ·have hl2:Sem.run Tryz.prog (Instr.lookup 85 (.map (some bm)) (.agg #[.int .i64 r.s,.int .u32 r.g]) true) wc = .ok (.tuple #[.agg #[.int .i64 0,.int .u32 0],.bool false]) wc:=by
    rcases hlook with⟨_,h2⟩ | ⟨x,h1,_⟩
    ·rw [if_pos rfl] at h2;exact h2
    ·exact absurd (QV.yes h1) hk
   have HIS1:=hid (show is=false by rw [← HIS.out];exact decide_eq_false hk)
   have HW1:=hid (show wl=[] by rw [← HWL.out];exact if_neg hk)
   rw [← hwc] at hl2
   clear hlook hk kc k2 hwc hsc hth
   go_wp2_with fail
   rw [HWC.out]
   go_ret3
   refine⟨.slice none 0 0,by rw [HIS1.out];rfl,?_,KC.out.alloc _⟩
   rw [HW1.out]
   exact Row.nil _ _
 ·have hne:(ec == 0)=false:=by simpa using he
  have hnk:r ∉ A.rq.keys:=fun hk=>he (HEC.out.symm.trans (rq_there hk))
  have HIS1:=hid (show is=false by rw [← HIS.out];exact decide_eq_false hnk)
  have HW1:=hid (show wl=[] by rw [← HWL.out];exact if_neg hnk)
  clear he hnk kc k2 hwc hsc
  go_wp2_with fail
  rw [HWC.out]
  go_ret3
  refine⟨.slice none 0 0,by rw [HIS1.out];rfl,?_,KC.out⟩
  rw [HW1.out]
  exact Row.nil _ _
end Go.Proofs.YtkpnmajocgcccaaGreat
namespace Go.Proofs.YtkpnmajocgcccaaGreat
open Go.RowKit
attribute [local go_sem] Oper.semAt_some
set_option linter.unusedVariables false
set_option linter.unusedSimpArgs false
theorem wayQ_len {A:Ar} {r:Rf}:(A.wayL r).length≤A.H.T.n:=by
 by_cases hk:r∈A.rq.keys
 ·obtain⟨u,hu⟩:=Wy.of_key (rq_exp A) hk
  unfold Ar.wayL
  rw [wayQ_of (rq_exp A) hk hu,List.length_reverse]
  exact way_len hu
 ·unfold Ar.wayL wayQ
  rw [if_neg hk];exact Nat.zero_le _
theorem depth_ok (a:Nat) (LA:ArL) (A:Ar) (r:Rf) (w:World) (h:ArIn w a LA A) (hok:A.Ok) (hw:r.Wf):
 Calls Tryz.prog 26 #[.pointer (some ⟨a,0,none⟩),.agg #[.int .i64 r.s,.int .u32 r.g]] w fun e w'=>e = .returned (.tuple #[.int .i64 ((A.wayL r).length - 1:Nat),.bool (decide (r∈A.rq.keys)),.int .i64 (ckV A.H.T r.s r.g)])∧Keeps (fun _=>False) w w':=by
 have HP:=hid (fun W (hk:Keeps (fun _=>False) w W)=>path_ok a LA A r W (h.keeps0 hk) hok hw)
 have hwl:=wayQ_len (A:=A) (r:=r)
 have hn256:=hok.n2
 obtain⟨ec,hec⟩:∃ ec,ckV A.H.T r.s r.g=ec:=⟨_,rfl⟩
 obtain⟨is,his⟩:∃ is,decide (r∈A.rq.keys)=is:=⟨_,rfl⟩
 obtain⟨wl,hwl2⟩:∃ wl,A.wayL r=wl:=⟨_,rfl⟩
 rw [hwl2] at hwl
 rw [hec,his,hwl2] at HP ⊢
 clear h hok hw hec his hwl2
 obtain⟨n,hn⟩:∃ n,wl.length=n:=⟨_,rfl⟩
 rw [hn] at hwl ⊢
 obtain⟨D,hD⟩:∃ D:Int,((n - 1:Nat):Int)=D:=⟨_,rfl⟩
 rw [hD]
 have hmx:max ((n:Int) - 1) 0=D:=by omega
 go_enter Tryz.func26,Tryz.ntmps26
 go_wp2_with fail
 refine (HP.out _ ((Keeps.refl _ _).alloc _)).mono ?_
 rintro e w1 ⟨v,rfl,hr,k1⟩
 obtain⟨p,c,rfl⟩:=hr.refs.slice
 rw [hn]
 have K:=hid (((Keeps.refl (fun _=>False) w).alloc (.cells #[.int .i64 r.s,.int .u32 r.g] 41)).trans k1)
 clear hr k1 hD
 go_wp2_with fail
 go_ret3
 exact⟨rfl,K.out⟩
theorem leave_marks {P:Program} {fn:Func} {R:Ending→World→Prop} {tmps:Array Value}:∀ (ds:List Nat) (W:World),ds.Nodup→(∀ D∈ds,W.heap[D]?=some (.deferred (some [])))→
 (∀ W',Keeps (fun k=>k∈ds) W W'→∃ v,(results fn tmps).run P W' = .ok v W'∧R (.returned v) W')→
 LeavesInM Wd 0 P fn tmps R (ds.map fun D=>{ target:=.collected D,args:=#[] }) .returning W
 | [],W,_,_,h=>by
  obtain⟨v,h1,h2⟩:=h W (Keeps.refl _ _)
  exact⟨v,h1,h2⟩
 | D :: ds,W,hn,hD,h=>by
  obtain⟨n1,n2⟩:=List.nodup_cons.1 hn
  refine⟨by simp,.inl ⟨_,_,rfl,run_takeDeferred (hD D (by simp)),leave_marks ds _ n2 (fun E hE=>?_) (fun W' hk=>h W' ?_)⟩⟩
  ·exact (World.putObj_heap_other (fun e=>n1 (by rw [e] at hE;exact hE))).trans (hD E (by simp [hE]))
  ·exact ((Keeps.refl (fun k=>k∈D :: ds) W).putObj (r:=D) (.inl (by simp)) (.deferred none)).trans (hk.mono (fun y _ h=>by simp [h]))
def closB (H:Hp) (l:List Rf):Bool:=l.all fun r=>(kids H r).all fun c=>decide (c∈l)
theorem closed_ok (b t:Nat) (H:Hp) (v:Value) (l:List Rf) (w:World) (h:HpAt w b t H) (hv:Refs w v l) (hw:∀ r∈l,r.Wf) (hn:l.length≤4096):
 Calls Tryz.prog 9 #[.pointer (some ⟨b,0,none⟩),v] w fun e w'=>e = .returned (.tuple #[.bool (thrE H l == 0 && closB H (l.filter (·.nz))),.int .i64 (thrE H l)])∧Keeps (fun _=>False) w w':=by
 obtain⟨p,c,rfl⟩:=hv.slice
 have HT:=hid (fun W (hk:Keeps (fun _=>False) w W)=>there_ok b t H _ l W (h.keeps hk (fun h=>h) (fun h=>h)) (hv.keeps hk (fun _ _ h=>h)) hn)
 have HW:=hid (fun W (hk:Keeps (fun _=>False) w W)=>h.keeps hk (fun h=>h) (fun h=>h))
 obtain⟨E,hE⟩:∃ E,thrE H l=E:=⟨_,rfl⟩
 have HTH:=hid (fun (h:E=0)=>thrE_zero (H:=H) (l:=l) (hE.trans h))
 have HWF:=hid hw
 obtain⟨fl,hfl⟩:∃ fl,l.filter (·.nz)=fl:=⟨_,rfl⟩
 have hfn:fl.length≤4096:=by rw [← hfl];exact Nat.le_trans (List.length_filter_le _ _) hn
 rw [hfl] at HTH
 simp only [hE,hfl] at HT ⊢
 clear h hv hw hE hfl
 refine (callsIn_wide (n:=0)).1 ?_
 refine callsIn_of_wp_marks Tryz.func9 rfl trivial ?_ rfl
 simp only [Tryz.ntmps9,List.size_toArray,List.length_cons,List.length_nil,Nat.reduceAdd,Nat.reduceSub,Array.replicate_succ,Array.replicate_zero,List.push_toArray,List.append_toArray,List.nil_append,List.cons_append]
 obtain⟨wa,hwa⟩:∃ wa,((w.alloc (.cells #[.slice p l.length c] 23)).alloc (.cells #[.bool false] 4)).alloc (.cells #[.int .i64 0] 26)=wa:=⟨_,rfl⟩
 have ka:Keeps (fun _=>False) w wa:=by rw [← hwa];exact (((Keeps.refl _ _).alloc _).alloc _).alloc _
 have qa3:wa.heap[w.heap.size]?=some (.cells #[.slice p l.length c] 23):=by rw [← hwa];exact alloc_old (alloc_old alloc_new)
 have qa4:wa.heap[w.heap.size+1]?=some (.cells #[.bool false] 4):=by rw [← hwa];exact alloc_old (alloc_new' (by simp))
 have qa5:wa.heap[w.heap.size+1+1]?=some (.cells #[.int .i64 0] 26):=by rw [← hwa];exact alloc_new' (by simp)
 have HWA:=hid hwa;have KA:=hid ka;have Q3:=hid qa3;have Q4:=hid qa4;have Q5:=hid qa5
 have hl5:=lt_block qa5
 clear hwa ka qa3 qa4 qa5
 gi_wp2_with fail
 rw [HWA.out]
 refine⟨trivial,rfl,callsIn_wide.2 ((HT.out _ KA.out).mono ?_)⟩
 rintro e w1 ⟨v1,rfl,hr1,hr2,k1⟩
 by_cases he:E=0
 ·subst he
  have hr:=hr1 rfl
  obtain⟨p1,c1,rfl⟩:=hr.refs.slice
  have K1:=hid (KA.out.trans k1)
  have Q31:=block_keep Q3.out k1 (fun h=>h)
  obtain⟨d0,df,dl⟩:=cells1 Q31
  obtain⟨f0,ff,fl4⟩:=cells1 (block_keep Q4.out k1 (fun h=>h))
  obtain⟨g0,gf,gl5⟩:=cells1 (block_keep Q5.out k1 (fun h=>h))
  gi_wp2_with fail
  obtain⟨w2,hw2⟩:∃ w2,w1.setCell ⟨w.heap.size,0,none⟩ (.slice p1 fl.length c1)=w2:=⟨_,rfl⟩
  have k2:Keeps (fun y=>y=w.heap.size) w1 w2:=by rw [← hw2];exact keeps_set1 _ _ _ _
  have q32:w2.heap[w.heap.size]?=some (.cells #[.slice p1 fl.length c1] 23):=by rw [← hw2];exact set_block Q31 0 _
  rw [hw2]
  have hsa:w.heap.size<wa.heap.size:=by omega
  have HR2:=hid (hr.keeps k2 (fun y h1 _ _ h=>by omega))
  have Q42:=hid (block_keep (block_keep Q4.out k1 (fun h=>h)) k2 (by omega))
  have Q52:=hid (block_keep (block_keep Q5.out k1 (fun h=>h)) k2 (by omega))
  have K2:=hid (show Keeps (fun y=>w.heap.size≤y) w w2 from K1.out.up.trans' k2 (fun _ _ h=>h) (fun y _ h=>by omega))
  have Q32:=hid q32
  have HTH2:=hid (HTH.out trivial)
  have HW2:=hid (show HpAt w2 b t H from (HW.out _ (KA.out.trans k1)).keeps k2 (fun h=>by have:=(HW.out _ (Keeps.refl _ _)).lt;omega) (fun h=>by have:=(HW.out _ (Keeps.refl _ _)).tab.lt;omega))
  have ekid:∀ args w,(callFunc 85 args).run Tryz.prog w = .ok (.enter 85 args) w:=enters_of Tryz.func85 (by kernel_rfl) rfl
  have hb2:w.heap.size+2<w2.heap.size:=by have:=lt_block Q52.out;omega
  clear hr hr1 hr2 k1 k2 q32 hw2 d0 df dl f0 ff fl4 g0 gf gl5 Q31 HT HTH HWA
  refine wpIn_loop (fun a wr=>∃ (u8 u9 u22 u23 u24 u25 u26 u27 u28 u29 u30 u31 u32 u33:Value) (k:Nat) (ds:List Nat),a={ tmps:=#[.pointer (some ⟨b,0,none⟩),.slice p l.length c,undef,.pointer (some ⟨w.heap.size,0,none⟩),.pointer (some ⟨w.heap.size+1,0,none⟩),.pointer (some ⟨w.heap.size+1+1,0,none⟩),.int .i64 0,undef,u8,u9,
   .tuple #[.slice p1 fl.length c1,.int .i64 0],.pointer (some ⟨b,0,none⟩),.slice p l.length c,.tuple #[.slice p1 fl.length c1,.int .i64 0],.slice p1 fl.length c1,.int .i64 0,.int .i64 0,.bool false,undef,.slice p1 fl.length c1,.int .i64 fl.length,.int .i64 k,u22,u23,u24,u25,u26,u27,u28,u29,u30,u31,u32,u33],defers:=ds.map fun D=>{ target:=.collected D,args:=#[] } }∧
   (k≤fl.length∧ds.Nodup∧(∀ D∈ds,w2.heap.size≤D∧wr.heap[D]?=some (.deferred (some [])))∧Keeps (fun _=>False) w2 wr∧(∀ r∈fl.take k,∀ c∈kids H r,c∈fl))) (fun a _=>fl.length - (intOf (a.tmps.getD 21 undef)).toNat) ?start ?round
  case start=>
   exact⟨_,_,_,_,_,_,_,_,_,_,_,_,_,_,0,[],rfl,Nat.zero_le _,List.nodup_nil,(fun D h=>nomatch h),Keeps.refl _ _,(fun r h=>by simp at h)⟩
  case round=>
   rintro a wr ⟨u8,u9,u22,u23,u24,u25,u26,u27,u28,u29,u30,u31,u32,u33,k,ds,rfl,hk,hnd,hds,hkr,hcl⟩
   have HND:=hid hnd;have HDS:=hid hds;have HKR:=hid hkr;have HCL:=hid hcl
   have hk0:(0:Int)≤k:=by omega
   have hszr:=hkr.size
   clear hnd hds hkr hcl
   by_cases hlt:k<fl.length
   ·obtain⟨x,hx⟩:∃ x,fl[k]?=some x:=⟨_,List.getElem?_eq_getElem hlt⟩
    have hrr:=HR2.out.keeps HKR.out (fun _ _ _ _ h=>h)
    obtain⟨g,hpg,hgl,c0,c1'⟩:=hrr.refs.cell.2 k x hx
    subst hpg
    have hxt:=HTH2.out x (List.mem_of_getElem? hx)
    obtain⟨xi,xg,rfl⟩:∃ (xi:Nat) (xg:Int),x=⟨xi,xg⟩:=by
     obtain⟨j,e1,_⟩:=ckV_ok hxt
     exact⟨j,x.g,by rw [← e1]⟩
    dsimp only at c0 c1'
    have hlt':(k:Int)<(fl.length:Int):=by omega
    have HXT:=hid hxt;have HX:=hid hx
    have HCC:=hid (fun W=>rchildren_call b ⟨xi,xg⟩ W)
    clear hrr hxt hx
    gi_wp2_with fail
    refine⟨trivial,rfl,callsIn_wide.2 ((HCC.out _).mono ?_)⟩
    rintro e w4 ⟨Bh,Br,rfl,k4,qh,qr,bh,br⟩
    have K4:=hid (show Keeps (fun _=>False) wr w4 from ((Keeps.refl _ _).alloc _).trans k4)
    have QH:=hid qh;have QR:=hid qr
    have hs4:=K4.out.size
    clear k4 qh qr c0 c1'
    gi_wp2_with fail
    have hk24:Keeps (fun _=>False) w2 w4:=HKR.out.trans K4.out
    have Q34:=hid (block_keep Q32.out hk24 (fun h=>h));have Q44:=hid (block_keep Q42.out hk24 (fun h=>h));have Q54:=hid (block_keep Q52.out hk24 (fun h=>h))
    have HR4:=hid (HR2.out.keeps hk24 (fun _ _ _ _ h=>h))
    have hbt:b<w2.heap.size∧t<w2.heap.size:=⟨HW2.out.lt,HW2.out.tab.lt⟩
    have HPW:=hid (fun W (hk:Keeps (fun y=>w4.heap.size≤y) w4 W)=>(HW2.out.keeps hk24 (fun h=>h) (fun h=>h)).keeps hk (by omega) (by omega))
    have K24:=hid hk24
    clear hk24
    refine wp_overM (gf:=85) (lb:=#[.pointer (some ⟨Bh,0,none⟩),.pointer (some ⟨Br,0,none⟩)]) rfl ekid (rch_gives b t Bh Br H xi xg HXT.out) (fun _=>rfl)
     (fun M pre W=>(∀ c∈pre,c∈fl)∧Keeps (fun y=>w4.heap.size≤y) w4 W) (fun cd W=>cd = .ret∧closB H fl=false∧(∃ W0,Keeps (fun y=>w4.heap.size≤y) w4 W0∧Keeps (fun y=>y=w.heap.size+1∨y=w.heap.size+2∨w4.heap.size≤y) W0 W∧W.heap[w.heap.size+1]?=some (.cells #[.bool false] 4)∧W.heap[w.heap.size+1+1]?=some (.cells #[.int .i64 0] 26)))
     ?hI ?hIx ?hRd ?hRd0 ?h0 ?body ?done ?stop
    case hI=>
     rintro M pre W W' ⟨h1,h2⟩ hk
     exact⟨h1,h2.trans' hk (fun _ _ h=>h) (fun y _ h=>by rcases h with h | h <;> omega)⟩
    case hIx=>
     rintro cd W W' ⟨rfl,hc,W0,h1,h2,h3,h4⟩ hk
     exact⟨rfl,hc,W0,h1,h2.trans' hk (fun _ _ h=>h) (fun y _ h=>.inr (.inr (by rcases h with h | h <;> omega))),block_keep h3 hk (not_two (by omega)),block_keep h4 hk (not_two (by omega))⟩
    case hRd=>
     rintro M pre W ⟨_,h2⟩
     exact⟨block_keep QH.out h2 (by omega),block_keep QR.out h2 (by omega),HPW.out W h2⟩
    case hRd0=>
     intro W hk
     exact⟨block_keep QH.out hk (fun h=>h),block_keep QR.out hk (fun h=>h),HPW.out W hk.up⟩
    case h0=>exact fun W hk _=>⟨(fun c h=>nomatch h),hk.up⟩
    case body=>
     rintro l' M pre x suf W hx ⟨h1,h2⟩ hsW
     have HXM:=hid (show x∈kids H ⟨xi,xg⟩ by rw [hx];simp)
     have H1:=hid h1;have H2:=hid h2
     clear h1 h2 hx
     simp only [encV,List.zip_toArray,List.zip_cons_cons,List.zip_nil_left]
     gi_wp2_with fail
     refine⟨⟨(Keeps.refl _ _).alloc _,(Keeps.refl _ _).alloc _⟩,fun W2 hk2=>?_⟩
     have hbk:Keeps (Two w4) W W2:=((Keeps.refl _ _).alloc _).trans hk2
     have k42:Keeps (fun y=>w4.heap.size≤y) w4 W2:=H2.out.trans' hbk (fun _ _ h=>h) (fun y _ h=>by rcases h with h | h <;> omega)
     obtain⟨x0,x1,_,xl⟩:=cells2 (block_keep (alloc_new (w:=W)) hk2 (not_two' hsW))
     obtain⟨d0,df,dl⟩:=cells1 (block_keep Q34.out k42 (by omega))
     obtain⟨f0,ff,fl4⟩:=cells1 (block_keep Q44.out k42 (by omega))
     obtain⟨g0,gf,gl5⟩:=cells1 (block_keep Q54.out k42 (by omega))
     have HCT:=hid (rcontains _ fl x W2 (HR4.out.keeps k42 (fun y _ h2 _ h=>by omega)).refs (by omega))
     have K42:=hid k42
     have hs42:=k42.size
     clear hbk k42 hk2
     gi_wp2_with fail
     refine⟨trivial,rfl,CallsIn.inRound l' (callsIn_wide.2 (HCT.out.mono ?_))⟩
     rintro e W3 ⟨rfl,k3⟩
     by_cases hm:x∈fl
     ·rw [decide_eq_true hm]
      have HMM:=hid hm
      have K3:=hid k3
      clear hm k3
      gi_wp2_with fail
      refine⟨⟨K3.out.up,K3.out.up⟩,fun c hc=>?_,K42.out.trans K3.out.up⟩
      rcases List.mem_append.1 hc with hc | hc
      ·exact H1.out c hc
      ·rw [List.mem_singleton.1 hc];exact HMM.out
     ·rw [decide_eq_false hm]
      have HNO:=hid (show closB H fl=false from by
       unfold closB
       rw [List.all_eq_false]
       refine⟨_,List.mem_of_getElem? HX.out,?_⟩
       rw [Bool.not_eq_true,List.all_eq_false]
       exact⟨x,HXM.out,by simpa using hm⟩)
      have K3:=hid k3
      have Q43:=hid (block_keep (block_keep Q44.out K42.out (by omega)) k3 (fun h=>h))
      have Q53:=hid (block_keep (block_keep Q54.out K42.out (by omega)) k3 (fun h=>h))
      obtain⟨f0,ff,fl4⟩:=cells1 Q43.out
      obtain⟨g0,gf,gl5⟩:=cells1 Q53.out
      clear hm k3
      gi_wp2_with fail
      obtain⟨W5,hW5⟩:∃ W5,(W3.setCell ⟨w.heap.size+1,0,none⟩ (.bool false)).setCell ⟨w.heap.size+1+1,0,none⟩ (.int .i64 0)=W5:=⟨_,rfl⟩
      have k5:Keeps (fun y=>y=w.heap.size+1∨y=w.heap.size+2) W3 W5:=by
       rw [← hW5]
       exact Keeps.setCell (p:=⟨w.heap.size+1+1,0,none⟩) (Keeps.setCell (p:=⟨w.heap.size+1,0,none⟩) (Keeps.refl _ W3) (.inl (.inl rfl)) _) (.inl (.inr rfl)) _
      have q45:W5.heap[w.heap.size+1]?=some (.cells #[.bool false] 4):=by
       rw [← hW5];exact set_oth (set_block Q43.out 0 _) (by simp)
      have q55:W5.heap[w.heap.size+1+1]?=some (.cells #[.int .i64 0] 26):=by
       rw [← hW5];exact set_block (set_oth Q53.out (by simp)) 0 _
      rw [hW5]
      have k35:Keeps (fun y=>y=w.heap.size+1∨y=w.heap.size+2) W2 W5:=K3.out.up.trans k5
      refine⟨⟨k35.mono (fun y _ h h'=>by rcases h' with h' | h' <;> omega),k35.mono (fun y _ h=>.inl (by omega))⟩,rfl,HNO.out,W2,K42.out,k35.mono (fun y _ h=>by omega),q45,q55⟩
    case done=>
     rintro M W ⟨h1,h2⟩ hD
     have H1:=hid h1;have H2:=hid h2;have HD:=hid hD
     clear h1 h2 hD
     gi_wp2_with fail
     refine⟨⟨_,_,_,_,_,_,_,_,_,_,_,_,_,_,k+1,w4.heap.size :: ds,rfl,by omega,?_,?_,?_,?_⟩,?_⟩
     ·refine List.nodup_cons.2 ⟨fun h=>?_,HND.out⟩
      have:=lt_block (HDS.out _ h).2
      omega
     ·intro D hd
      rcases List.mem_cons.1 hd with rfl | hd
      ·exact⟨by omega,HD.out⟩
      ·have h1:=HDS.out D hd
       have h2:=lt_block h1.2
       exact⟨h1.1,block_keep (block_keep h1.2 K4.out (fun h=>h)) H2.out (by omega)⟩
     ·exact (K24.out.trans' H2.out (U:=fun y=>w4.heap.size≤y) (fun _ _ h=>h.elim) (fun _ _ h=>h)).mono (fun y hy h=>by have:=K24.out.size;omega)
     ·intro r hr c' hc'
      rw [List.take_add_one,HX.out] at hr
      rcases List.mem_append.1 hr with hr | hr
      ·exact HCL.out r hr c' hc'
      ·simp at hr
       rw [hr] at hc'
       exact H1.out c' hc'
     ·simp [intOf];omega
    case stop=>
     rintro cd W ⟨rfl,hc,W0,h1,h2,h3,h4⟩ hD
     have H1:=hid h1;have H2:=hid h2;have H3:=hid h3;have H4:=hid h4;have HD:=hid hD
     clear h1 h2 h3 h4 hD
     gi_wp2_with fail
     refine leave_marks (w4.heap.size :: ds) W (List.nodup_cons.2 ⟨fun h=>by have:=lt_block (HDS.out _ h).2;omega,HND.out⟩) (fun D hd=>?_) (fun W' hk'=>?_)
     ·rcases List.mem_cons.1 hd with rfl | hd
      ·exact HD.out
      ·have h1:=HDS.out D hd
       have h2:=lt_block h1.2
       exact block_keep (block_keep (block_keep h1.2 K4.out (fun h=>h)) H1.out (by omega)) H2.out (by omega)
     ·have hnm:∀ y,y<w2.heap.size→¬ y∈w4.heap.size :: ds:=fun y hy h=>by
       rcases List.mem_cons.1 h with h | h
       ·omega
       ·have:=(HDS.out y h).1;omega
      obtain⟨f0,_,_⟩:=cells1 (block_keep H3.out hk' (hnm _ (by omega)))
      obtain⟨g0,_,_⟩:=cells1 (block_keep H4.out hk' (hnm _ (by omega)))
      refine⟨.tuple #[.bool false,.int .i64 0],by simp [results,Tryz.results9,go_sem,f0,g0],by rw [hc];rfl,?_⟩
      have q1:Keeps (fun y=>w.heap.size≤y) w w4:=K2.out.trans' K24.out (fun _ _ h=>h) (fun _ _ h=>h.elim)
      have q2:Keeps (fun y=>w.heap.size≤y) w W0:=q1.trans' H1.out (fun _ _ h=>h) (fun y _ h=>by omega)
      have q3:Keeps (fun y=>w.heap.size≤y) w W:=q2.trans' H2.out (fun _ _ h=>h) (fun y _ h=>by omega)
      exact (q3.trans' hk' (fun _ _ h=>h) (fun y _ h=>by rcases List.mem_cons.1 h with h | h;omega;have:=(HDS.out y h).1;omega)).fresh
   ·have hlt':¬ (k:Int)<(fl.length:Int):=by omega
    obtain⟨f0,ff,fl4⟩:=cells1 (block_keep Q42.out HKR.out (fun h=>h))
    obtain⟨g0,gf,gl5⟩:=cells1 (block_keep Q52.out HKR.out (fun h=>h))
    gi_wp2_with fail
    obtain⟨W5,hW5⟩:∃ W5,(wr.setCell ⟨w.heap.size+1,0,none⟩ (.bool true)).setCell ⟨w.heap.size+1+1,0,none⟩ (.int .i64 0)=W5:=⟨_,rfl⟩
    have k5:Keeps (fun y=>y=w.heap.size+1∨y=w.heap.size+2) wr W5:=by
     rw [← hW5]
     exact Keeps.setCell (p:=⟨w.heap.size+1+1,0,none⟩) (Keeps.setCell (p:=⟨w.heap.size+1,0,none⟩) (Keeps.refl _ wr) (.inl (.inl rfl)) _) (.inl (.inr rfl)) _
    have q45:W5.heap[w.heap.size+1]?=some (.cells #[.bool true] 4):=by
     rw [← hW5];exact set_oth (set_block (block_keep Q42.out HKR.out (fun h=>h)) 0 _) (by simp)
    have q55:W5.heap[w.heap.size+1+1]?=some (.cells #[.int .i64 0] 26):=by
     rw [← hW5];exact set_block (set_oth (block_keep Q52.out HKR.out (fun h=>h)) (by simp)) 0 _
    have hc:closB H fl=true:=by
     unfold closB
     rw [List.all_eq_true]
     intro r hr
     rw [List.all_eq_true]
     intro c' hc'
     have:=HCL.out r (by rw [List.take_of_length_le (by omega)];exact hr) c' hc'
     simpa using this
    rw [hW5]
    have hnm:∀ y,y<w2.heap.size→¬ y∈ds:=fun y hy h=>by have:=(HDS.out y h).1;omega
    refine leave_marks ds W5 HND.out (fun D hd=>block_keep (HDS.out D hd).2 k5 (by have:=(HDS.out D hd).1;omega)) (fun W' hk'=>?_)
    obtain⟨f0,_,_⟩:=cells1 (block_keep q45 hk' (hnm _ (by omega)))
    obtain⟨g0,_,_⟩:=cells1 (block_keep q55 hk' (hnm _ (by omega)))
    refine⟨.tuple #[.bool true,.int .i64 0],by simp [results,Tryz.results9,go_sem,f0,g0],by rw [hc],?_⟩
    have q1:Keeps (fun y=>w.heap.size≤y) w wr:=K2.out.trans' HKR.out (fun _ _ h=>h) (fun _ _ h=>h.elim)
    have q2:Keeps (fun y=>w.heap.size≤y) w W5:=q1.trans' k5 (fun _ _ h=>h) (fun y _ h=>by omega)
    exact (q2.trans' hk' (fun _ _ h=>h) (fun y _ h=>by have:=(HDS.out y h).1;omega)).fresh
 ·have hne:(E == 0)=false:=by simpa using he
  have hv1:=hr2 he
  subst hv1
  have K1:=hid (KA.out.trans k1)
  obtain⟨d0,df,dl⟩:=cells1 (block_keep Q3.out k1 (fun h=>h))
  have Q41:=hid (block_keep Q4.out k1 (fun h=>h));have Q51:=hid (block_keep Q5.out k1 (fun h=>h))
  obtain⟨f0,ff,fl4⟩:=cells1 Q41.out
  obtain⟨g0,gf,gl5⟩:=cells1 Q51.out
  have hwl1:=K1.out.size
  clear hr1 hr2 k1
  gi_wp2_with fail
  obtain⟨W5,hW5⟩:∃ W5,((w1.setCell ⟨w.heap.size,0,none⟩ (.slice none 0 0)).setCell ⟨w.heap.size+1,0,none⟩ (.bool false)).setCell ⟨w.heap.size+1+1,0,none⟩ (.int .i64 E)=W5:=⟨_,rfl⟩
  have k5:Keeps (fun y=>y=w.heap.size∨y=w.heap.size+1∨y=w.heap.size+2) w1 W5:=by
   rw [← hW5]
   exact Keeps.setCell (p:=⟨w.heap.size+1+1,0,none⟩) (Keeps.setCell (p:=⟨w.heap.size+1,0,none⟩) (Keeps.setCell (p:=⟨w.heap.size,0,none⟩) (Keeps.refl _ w1) (.inl (.inl rfl)) _) (.inl (.inr (.inl rfl))) _) (.inl (.inr (.inr rfl))) _
  have q45:W5.heap[w.heap.size+1]?=some (.cells #[.bool false] 4):=by
   rw [← hW5];exact set_oth (set_block (set_oth Q41.out (by simp)) 0 _) (by simp)
  have q55:W5.heap[w.heap.size+1+1]?=some (.cells #[.int .i64 E] 26):=by
   rw [← hW5];exact set_block (set_oth (set_oth Q51.out (by simp <;> omega)) (by simp <;> omega)) 0 _
  rw [hW5]
  refine leave_marks [] W5 List.nodup_nil (fun D hd=>nomatch hd) (fun W' hk'=>?_)
  obtain⟨f0,_,_⟩:=cells1 (block_keep q45 hk' (fun h=>nomatch h))
  obtain⟨g0,_,_⟩:=cells1 (block_keep q55 hk' (fun h=>nomatch h))
  refine⟨.tuple #[.bool false,.int .i64 E],by simp [results,Tryz.results9,go_sem,f0,g0],by rw [hne];rfl,?_⟩
  have q2:Keeps (fun y=>w.heap.size≤y) w W5:=K1.out.up.trans' k5 (fun _ _ h=>h) (fun y _ h=>by omega)
  exact (q2.trans' hk' (fun _ _ h=>h) (fun y _ h=>nomatch h)).fresh
end Go.Proofs.YtkpnmajocgcccaaGreat
namespace Go.Proofs.YtkpnmajocgcccaaGreat
open Go.RowKit
set_option linter.unusedVariables false
set_option linter.unusedSimpArgs false
structure Ay (N:Nat) (w0 w:World) (a:Nat) (L:ArL) (A:Ar):Prop where
 ar:ArIn w a L A
 ok:A.Ok
 lo:∀ y,L.foot A.many y→N≤y
 k:Keeps (fun y=>N≤y) w0 w
variable {N:Nat} {w0 w w':World} {a:Nat} {L:ArL} {A A':Ar}
theorem Ay.quiet (h:Ay N w0 w a L A) (hk:Keeps (fun _=>False) w w'):Ay N w0 w' a L A:=⟨h.ar.keeps0 hk,h.ok,h.lo,h.k.trans hk.up⟩
theorem Ay.op (h:Ay N w0 w a L A) (hk:Keeps (fun y=>L.foot A.many y) w w') (ha:ArIn w' a L A') (ok:A'.Ok) (hm:A'.many=A.many):Ay N w0 w' a L A':=
 ⟨ha,ok,fun y hy=>h.lo y (by rw [← hm];exact hy),h.k.trans' hk (fun _ _ h=>h) (fun y _ hy=>h.lo y hy)⟩
theorem Ay.make (h:Ay N w0 w a L A) (m n:Int) (hd:Bool):Calls Tryz.prog 43 #[.pointer (some ⟨a,0,none⟩),.int .i64 m,.int .i64 n,.bool hd] w
 fun e w'=>e = .returned (.tuple #[(A.makeR m n hd).now.val,.int .i64 (A.makeR m n hd).e])∧Ay N w0 w' a L (A.makeR m n hd).A∧Keeps (fun y=>L.foot A.many y) w w':=
 (amake_any a L A m n hd w h.ar h.ok).mono fun _ _ ⟨h1,h2,h3⟩=>⟨h1,h.op h2 h3 (h.ok.makeR _ _ _) (A.makeR_n _ _ _).2,h2⟩
theorem Ay.store (h:Ay N w0 w a L A) (m i f j:Int):Calls Tryz.prog 47 #[.pointer (some ⟨a,0,none⟩),.int .i64 m,.int .i64 i,.int .i64 f,.int .i64 j] w
 fun e w'=>e = .returned (.tuple #[(A.storeR m i f j).was.val,(A.storeR m i f j).now.val,.int .i64 (A.storeR m i f j).e])∧Ay N w0 w' a L (A.storeR m i f j).A∧Keeps (fun y=>L.foot A.many y) w w':=
 (astore_any a L A m i f j w h.ar h.ok).mono fun _ _ ⟨h1,h2,h3⟩=>⟨h1,h.op h2 h3 (h.ok.storeR _ _ _ _) (A.storeR_n _ _ _ _).2,h2⟩
theorem Ay.put (h:Ay N w0 w a L A) (m i k:Int):Calls Tryz.prog 50 #[.pointer (some ⟨a,0,none⟩),.int .i64 m,.int .i64 i,.int .i64 k] w
 fun e w'=>e = .returned (.tuple #[(A.putR m i k).was.val,(A.putR m i k).now.val,.int .i64 (A.putR m i k).e])∧Ay N w0 w' a L (A.putR m i k).A∧Keeps (fun y=>L.foot A.many y) w w':=
 (aput_any a L A m i k w h.ar h.ok).mono fun _ _ ⟨h1,h2,h3⟩=>⟨h1,h.op h2 h3 (h.ok.putR _ _ _) (A.putR_n _ _ _).2,h2⟩
theorem Ay.drop (h:Ay N w0 w a L A) (m i:Int):Calls Tryz.prog 32 #[.pointer (some ⟨a,0,none⟩),.int .i64 m,.int .i64 i] w
 fun e w'=>e = .returned (.tuple #[(A.dropR m i).now.val,.int .i64 (A.dropR m i).e])∧Ay N w0 w' a L (A.dropR m i).A∧Keeps (fun y=>L.foot A.many y) w w':=
 (adrop_any a L A m i w h.ar).mono fun _ _ ⟨h1,h2,h3⟩=>⟨h1,h.op h2 h3 (h.ok.dropR _ _) (A.dropR_n _ _).2,h2⟩
theorem Ay.load (h:Ay N w0 w a L A) (m i f:Int):Calls Tryz.prog 45 #[.pointer (some ⟨a,0,none⟩),.int .i64 m,.int .i64 i,.int .i64 f] w
 fun e w'=>e = .returned (.tuple #[(A.loadR m i f).now.val,.int .i64 (A.loadR m i f).e])∧Ay N w0 w' a L (A.loadR m i f).A∧Keeps (fun y=>L.foot A.many y) w w':=
 (aload_any a L A m i f w h.ar h.ok).mono fun _ _ ⟨h1,h2,h3⟩=>⟨h1,h.op h2 h3 (h.ok.loadR _ _ _) (A.loadR_n _ _ _).2,h2⟩
theorem Ay.get (h:Ay N w0 w a L A) (m k:Int):Calls Tryz.prog 52 #[.pointer (some ⟨a,0,none⟩),.int .i64 m,.int .i64 k] w
 fun e w'=>e = .returned (.tuple #[(A.getR m k).now.val,.int .i64 (A.getR m k).e])∧Ay N w0 w' a L (A.getR m k).A∧Keeps (fun y=>L.foot A.many y) w w':=
 (aget_any a L A m k w h.ar h.ok).mono fun _ _ ⟨h1,h2,h3⟩=>⟨h1,h.op h2 h3 (h.ok.getR _ _) (A.getR_n _ _).2,h2⟩
theorem Ay.free (h:Ay N w0 w a L A) (r:Rf):Calls Tryz.prog 54 #[.pointer (some ⟨a,0,none⟩),.agg #[.int .i64 r.s,.int .u32 r.g]] w
 fun e w'=>e = .returned (.int .i64 (A.freeR r).2)∧Ay N w0 w' a L (A.freeR r).1∧Keeps (fun y=>L.foot A.many y) w w':=
 (afree_any a L A r w h.ar h.ok).mono fun _ _ ⟨h1,h2,h3⟩=>⟨h1,h.op h2 h3 (h.ok.freeR _) (A.freeR_n _).2,h2⟩
theorem Ay.new (n k:Nat) (w:World) (n1:1≤n) (n2:n≤256) (k1:1≤k) (k4:k≤4):
 Calls Tryz.prog 6 #[.int .i64 n,.int .i64 k,.int .u32 1] w fun e w'=>∃ a L,e = .returned (.tuple #[.pointer (some ⟨a,0,none⟩),.int .i64 0])∧Ay w.heap.size w w' a L (Ar.new n k 1):=by
 refine (anew_ok n k 1 w (by omega) (by omega) k1 k4 (by omega) (by omega)).mono ?_
 rintro e w' ⟨a,rfl,hk,L,h1,h2⟩
 rw [Int.toNat_natCast] at h1 h2
 refine⟨a,L,rfl,h1,Ar.Ok.new n1 n2 k1 k4 (by omega) (by omega),fun y hy=>?_,hk.up⟩
 rcases hy with rfl | rfl | rfl | ⟨j,hj,rfl⟩
 ·exact h2.b.1
 ·exact h2.t.1
 ·exact h2.g.1
 ·exact (h2.ss j hj).1
theorem ref19 (s:Int) (w:World):Calls Tryz.prog 30 #[.int .i64 s] w fun e w'=>e = .returned (.agg #[.int .i64 s,.int .u32 1])∧Keeps (fun _=>False) w w':=by
 go_enter Tryz.func30,Tryz.ntmps30
 go_wp2
 have q:=alloc_new (w:=w) (o:=.cells #[.int .i64 s,.int .u32 1] 41)
 obtain⟨c0,c1,_,_⟩:=cells2 q
 have z0:=isAgg_ref (w.alloc (.cells #[.int .i64 s,.int .u32 1] 41))
 have z1:=sizeOf_ref (w.alloc (.cells #[.int .i64 s,.int .u32 1] 41))
 refine bodyPost_ret_by (v:=.agg #[.int .i64 s,.int .u32 1]) (by simp [results,Tryz.results30,go_sem,z0,z1,c0,c1]) rfl ⟨rfl,(Keeps.refl _ _).alloc _⟩
def IntsB (w:World) (v:Value) (l:List Int):Prop:=∃ b c cur,v = .slice (some ⟨b,0,none⟩) l.length c∧w.heap[b]?=some (.cells cur 3)∧∀ (j:Nat) (x:Int),l[j]?=some x→cur[j]?=some (.int .i64 x)
theorem IntsB.keeps {v:Value} {l:List Int} (h:IntsB w v l) (hk:Keeps (fun _=>False) w w'):IntsB w' v l:=by
 obtain⟨b,c,cur,h1,h2,h3⟩:=h
 exact⟨b,c,cur,h1,block_keep h2 hk (fun h=>h),h3⟩
theorem refs19 (v:Value) (l:List Int) (w:World) (hv:IntsB w v l) (hn:l.length≤256):
 Calls Tryz.prog 31 #[v] w fun e w'=>∃ v',e = .returned v'∧Row w' w.heap.size v' (l.map fun s=>⟨s,1⟩)∧Keeps (fun _=>False) w w':=by
 obtain⟨b,c,cur,rfl,hb,hc⟩:=hv
 have HB:=hid hb;have HC:=hid hc
 clear hb hc
 go_enter Tryz.func31,Tryz.ntmps31
 go_wp2_with fail
 go_loopw [3,8] (fun s3 ix wr=>∃ (k:Nat) (p:Option Addr) (c:Nat),k≤l.length∧ix = .int .i64 k∧s3 = .slice p k c∧Hid (Row wr w.heap.size (.slice p k c) ((l.take k).map fun s=>⟨s,1⟩))∧Hid (Keeps (fun _=>False) w wr)) (fun _ ix _=>l.length - (intOf ix).toNat)
 case atStart=>exact⟨0,none,0,Nat.zero_le _,rfl,rfl,hid (Row.nil _ _),hid (Keeps.refl _ _)⟩
 case round=>
  obtain⟨k,p3,c3,hk,rfl,rfl,HR,HK⟩:=hrel
  have hk0:(0:Int)≤k:=by omega
  by_cases hlt:k<l.length
  ·obtain⟨x,hx⟩:∃ x,l[k]?=some x:=⟨_,List.getElem?_eq_getElem hlt⟩
   have c0:=cell_at (block_keep HB.out HK.out (fun h=>h)) (HC.out k x hx)
   have hbl:=lt_block (block_keep HB.out HK.out (fun h=>h))
   have hlt':(k:Int)<(l.length:Int):=by omega
   have HX:=hid hx
   have htl:((l.take k).map fun s=>(⟨s,1⟩:Rf)).length=k:=by simp;omega
   have HTL:=hid htl
   have HL7:=hid (show (((l.take k).map fun s=>(⟨s,1⟩:Rf)) ++ [(⟨x,1⟩:Rf)]).length=k+1 from by rw [List.length_append,HTL.out];rfl)
   clear hx htl
   go_wp2_with fail
   refine (ref19 x wr).mono ?_
   rintro e w5 ⟨rfl,k5⟩
   have HK5:=hid (HK.out.trans k5)
   have HR5:=hid (HR.out.keeps k5 (fun _ _ _ _ h=>h))
   have HRO:=hid (refs_one (x:=⟨x,1⟩) (alloc_new (w:=w5)))
   have HVD:=hid (HR5.out.keeps ((Keeps.refl (fun _=>False) _).alloc (.cells #[.int .i64 x,.int .u32 1] 41)) (fun _ _ _ _ h=>h))
   have hs5:=HK5.out.size
   clear k5
   go_wp2_with (first
    | (at_builtin;refine wpList_append_refs _ rfl _ _ rfl w.heap.size _ _ ((l.take k).map fun s=>⟨s,1⟩) [⟨x,1⟩] rfl rfl HVD.out HRO.out (by rw [HTL.out,List.length_singleton];omega) (by rw [World.size_alloc];omega) ?_;intro v7 w7 hr7 hk7 ho7;obtain⟨p7,c7,rfl⟩:=hr7.refs.slice;rw [HL7.out] at hr7)
    | fail)
   have hlt7:=HVD.out.lt
   refine⟨⟨k+1,p7,c7,by omega,by go_num,rfl,?_,?_⟩,by simp [intOf];omega⟩
   ·rw [List.take_add_one,HX.out,List.map_append];exact hid hr7
   ·exact hid ((HK5.out.alloc _).trans' hk7 (fun _ _ h=>h) (fun y hy hz=>by have:=(hlt7 y hz).1;omega))
  ·have hlt':¬ (k:Int)<(l.length:Int):=by omega
   have ht:l.take k=l:=List.take_of_length_le (by omega)
   rw [ht] at HR
   clear ht
   go_wp2_with fail
   go_ret
   exact⟨_,rfl,HR.out,HK.out⟩
def exM:Nat→Ar
 | 0=>Ar.new 5 1 1
 | k+1=>((exM k).makeR 0 4 false).A
def exX:List (Int × Int × Int):=[(0,0,1),(0,3,2),(1,0,2),(1,1,2),(2,2,3),(3,0,0)]
def exS:List (Int × Int × Int)→Ar
 | []=>exM 5
 | x :: l=>((exS l).storeR 0 x.1 x.2.1 x.2.2).A
def exP:Ar:=((exS exX.reverse).putR 0 4 6).A
def exD:List Int→Ar
 | []=>exP
 | x :: l=>((exD l).dropR 0 x).A
def exA:Ar:=exD [1,2,3,4]
def exB:Ar:=(exA.dropR 0 0).A
theorem exM_e0:((exM 0).makeR 0 4 false).e=0:=by kernel_rfl
theorem exM_e1:((exM 1).makeR 0 4 false).e=0:=by kernel_rfl
theorem exM_e2:((exM 2).makeR 0 4 false).e=0:=by kernel_rfl
theorem exM_e3:((exM 3).makeR 0 4 false).e=0:=by kernel_rfl
theorem exM_e4:((exM 4).makeR 0 4 false).e=0:=by kernel_rfl
theorem exM_e:∀ k,k<5→((exM k).makeR 0 4 false).e=0:=by
 intro k hk
 match k,hk with
 | 0,_=>exact exM_e0
 | 1,_=>exact exM_e1
 | 2,_=>exact exM_e2
 | 3,_=>exact exM_e3
 | 4,_=>exact exM_e4
theorem exS_e0:((exS (exX.take 0).reverse).storeR 0 0 0 1).e=0:=by kernel_rfl
theorem exS_e1:((exS (exX.take 1).reverse).storeR 0 0 3 2).e=0:=by kernel_rfl
theorem exS_e2:((exS (exX.take 2).reverse).storeR 0 1 0 2).e=0:=by kernel_rfl
theorem exS_e3:((exS (exX.take 3).reverse).storeR 0 1 1 2).e=0:=by kernel_rfl
theorem exS_e4:((exS (exX.take 4).reverse).storeR 0 2 2 3).e=0:=by kernel_rfl
theorem exS_e5:((exS (exX.take 5).reverse).storeR 0 3 0 0).e=0:=by kernel_rfl
theorem exS_e:∀ k x,exX[k]?=some x→((exS (exX.take k).reverse).storeR 0 x.1 x.2.1 x.2.2).e=0:=by
 intro k x hx
 match k,hx with
 | 0,hx=>obtain rfl:=Option.some.inj hx;exact exS_e0
 | 1,hx=>obtain rfl:=Option.some.inj hx;exact exS_e1
 | 2,hx=>obtain rfl:=Option.some.inj hx;exact exS_e2
 | 3,hx=>obtain rfl:=Option.some.inj hx;exact exS_e3
 | 4,hx=>obtain rfl:=Option.some.inj hx;exact exS_e4
 | 5,hx=>obtain rfl:=Option.some.inj hx;exact exS_e5
theorem exP_e:((exS exX.reverse).putR 0 4 6).e=0:=by kernel_rfl
theorem exD_e0:((exD ([4,3,2,1].take 0).reverse).dropR 0 4).e=0:=by kernel_rfl
theorem exD_e1:((exD ([4,3,2,1].take 1).reverse).dropR 0 3).e=0:=by kernel_rfl
theorem exD_e2:((exD ([4,3,2,1].take 2).reverse).dropR 0 2).e=0:=by kernel_rfl
theorem exD_e3:((exD ([4,3,2,1].take 3).reverse).dropR 0 1).e=0:=by kernel_rfl
theorem exD_e:∀ (k:Nat) (x:Int),([4,3,2,1]:List Int)[k]?=some x→((exD (([4,3,2,1]:List Int).take k).reverse).dropR 0 x).e=0:=by
 intro k x hx
 match k,hx with
 | 0,hx=>obtain rfl:=Option.some.inj hx;exact exD_e0
 | 1,hx=>obtain rfl:=Option.some.inj hx;exact exD_e1
 | 2,hx=>obtain rfl:=Option.some.inj hx;exact exD_e2
 | 3,hx=>obtain rfl:=Option.some.inj hx;exact exD_e3
theorem exB_e:(exA.dropR 0 0).e=0:=by kernel_rfl
theorem ex_all:srt exA.rq.keys=[⟨0,1⟩,⟨1,1⟩,⟨2,1⟩,⟨3,1⟩,⟨4,1⟩]:=by kernel_rfl
theorem ex_lost:exA.lostL=[]:=by kernel_rfl
theorem ex_way:exA.wayL ⟨3,1⟩=[⟨0,1⟩,⟨2,1⟩,⟨3,1⟩]:=by kernel_rfl
theorem ex_in:decide ((⟨3,1⟩:Rf)∈exA.rq.keys)=true:=by kernel_rfl
theorem ex_ck:ckV exA.H.T 3 1=0:=by kernel_rfl
theorem ex_thr:thrE exA.H [⟨0,0⟩,⟨2,1⟩]=0:=by kernel_rfl
theorem ex_from:fromL exA.H [⟨0,0⟩,⟨2,1⟩]=[⟨0,1⟩,⟨1,1⟩,⟨2,1⟩,⟨3,1⟩]:=by kernel_rfl
theorem ex_cl1:(thrE exA.H [⟨2,1⟩,⟨3,1⟩] == 0 && closB exA.H ([⟨2,1⟩,⟨3,1⟩].filter (·.nz)))=false∧thrE exA.H [⟨2,1⟩,⟨3,1⟩]=0:=by constructor <;> kernel_rfl
theorem ex_cl2:(thrE exA.H [⟨0,1⟩,⟨1,1⟩,⟨2,1⟩,⟨3,1⟩] == 0 && closB exA.H ([⟨0,1⟩,⟨1,1⟩,⟨2,1⟩,⟨3,1⟩].filter (·.nz)))=true∧thrE exA.H [⟨0,1⟩,⟨1,1⟩,⟨2,1⟩,⟨3,1⟩]=0:=by constructor <;> kernel_rfl
theorem ey_all:srt exB.rq.keys=[⟨4,1⟩]:=by kernel_rfl
theorem ey_lost:exB.lostL=[⟨0,1⟩,⟨1,1⟩,⟨2,1⟩,⟨3,1⟩]:=by kernel_rfl
theorem ey_in:decide ((⟨3,1⟩:Rf)∈exB.rq.keys)=false:=by kernel_rfl
theorem ey_ck:ckV exB.H.T 3 1=0:=by kernel_rfl
end Go.Proofs.YtkpnmajocgcccaaGreat
