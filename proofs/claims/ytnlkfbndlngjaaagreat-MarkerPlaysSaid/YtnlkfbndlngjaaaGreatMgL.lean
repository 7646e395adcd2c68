import Derived.Test.YtnlkfbndlngjaaaGreatMgK
set_option maxHeartbeats 1000000
set_option maxRecDepth 100000
namespace Go.Proofs.YtnlkfbndlngjaaaGreat
open Go.RowKit
attribute [local go_sem] Oper.semAt_some
theorem Row.cells {w:World} {base:Nat} {v:Value} {l:List Rf} (h:Row w base v l):
 (v = .slice none 0 0∧l=[])∨∃ g cap cur,v = .slice (some ⟨g,0,none⟩) l.length cap∧base≤g∧w.heap[g]?=some (.cells cur 34)∧∀ j r,l[j]?=some r→cur[j * 2]?=some (.int .i64 r.s)∧cur[j * 2+1]?=some (.int .u32 r.g):=by
 obtain⟨h1,h2⟩:=h
 rcases h2 with⟨rfl,h2⟩ | ⟨g,cap,cur,rfl,hb,hg,r1,r2,r3,r4⟩
 ·exact .inl ⟨rfl,List.eq_nil_of_length_eq_zero h2⟩
 ·refine .inr ⟨g,cap,cur,rfl,hb,hg,fun j r hj=>?_⟩
  have hlt:j<l.length:=(List.getElem?_eq_some_iff.1 hj).1
  obtain⟨a,b⟩:=encR_at hj
  rw [← r4] at a b
  rw [List.getElem?_take_of_lt (by omega),Array.getElem?_toList] at a b
  exact⟨a,b⟩
def hres (H:Hp) (l:List Rf):List Rf:=l.filter (fun r=>ckV H.T r.s r.g == 0)
def chs (H:Hp) (o:Ob):List Int:=(hres H ((o.upto 4).map (·.2))).map (·.s)
theorem hres_yes {H:Hp} {l:List Rf} {k:Nat} {r:Rf} (hk:l[k]?=some r) (h:(ckV H.T r.s r.g == 0)=true):(hres H (l.take (k+1))).map (·.s)=(hres H (l.take k)).map (·.s) ++ [r.s]∧∃ suf,(hres H l).map (·.s)=(hres H (l.take k)).map (·.s) ++ r.s :: suf:=by
 have hlt:k<l.length:=(List.getElem?_eq_some_iff.1 hk).1
 have e1:l.take (k+1)=l.take k ++ [r]:=by rw [List.take_add_one,hk];rfl
 have e2:l=l.take k ++ r :: l.drop (k+1):=by
  obtain⟨_,h⟩:=List.getElem?_eq_some_iff.1 hk
  rw [← h,List.getElem_cons_drop,List.take_append_drop]
 refine⟨by rw [e1];simp [hres,h],?_⟩
 refine⟨(hres H (l.drop (k+1))).map (·.s),?_⟩
 conv=>lhs;rw [e2]
 simp [hres,h]
theorem hres_no {H:Hp} {l:List Rf} {k:Nat} {r:Rf} (hk:l[k]?=some r) (h:(ckV H.T r.s r.g == 0)=false):hres H (l.take (k+1))=hres H (l.take k):=by
 have e1:l.take (k+1)=l.take k ++ [r]:=by rw [List.take_add_one,hk];rfl
 rw [e1];simp [hres,h]
theorem sch_gives (b t Bo Bh:Nat) (H:Hp) (o:Ob):
 GivesM Tryz.prog 285 #[.pointer (some ⟨Bo,0,none⟩),.pointer (some ⟨Bh,0,none⟩)] encI (chs H o)
  (fun W=>W.heap[Bo]?=some (.cells o.arr 111)∧W.heap[Bh]?=some (.cells #[.pointer (some ⟨b,0,none⟩)] 47)∧HpAt W b t H):=by
 intro l J Jx W0 hJ hJx hRd hY h0 hR0
 have HJ:=hid hJ;have HR:=hid hRd;have HY:=hid hY;have H0:=hid h0
 obtain⟨qo,qh,hh⟩:=hR0
 obtain⟨o0,o1,o2,o3,o4,o5,o6,o7,o8,o9,_,_⟩:=cells10 qo
 have HF:=hid (fun w=>frefs_any o w)
 simp only [Ob.arr] at HF
 clear hJ hRd hY h0 hJx hh qo qh
 refine (callsIn_wide (n:=0)).1 ?_
 refine callsIn_of_wp Tryz.func285 rfl trivial ?_ rfl
 simp only [Tryz.ntmps285,List.size_toArray,List.length_cons,List.length_nil,Nat.reduceAdd,Nat.reduceSub,Array.replicate_succ,Array.replicate_zero,List.push_toArray,List.append_toArray,List.nil_append,List.cons_append]
 gi_wp2_with fail
 refine⟨trivial,rfl,callsIn_wide.2 ((HF.out _).mono ?_)⟩
 rintro e w1 ⟨v,rfl,hrow,hk1⟩
 have hj1:=H0.out _ hk1
 have hsz:=hk1.size
 obtain⟨ll,hll⟩:∃ ll,(o.upto 4).map (·.2)=ll:=⟨_,rfl⟩
 rw [hll] at hrow
 have HLL:=hid (show chs H o=(hres H ll).map (·.s) by rw [chs,hll])
 have hlen:ll.length≤4:=by rw [← hll,List.length_map];exact Ob.upto_len o 4
 rcases Row.cells hrow with⟨rfl,rfl⟩ | ⟨g,cap,cur,rfl,hb,hg,hcur⟩
 ·have HJ1:=hid hj1
  clear hrow hj1 hll
  gi_wp2_with fail
  gi_loopw [9] (fun i wr=>i = .int .i64 0∧J w1.heap.size [] wr) (fun _ _=>0)
  case atStart=>exact⟨rfl,HJ1.out⟩
  case round=>
   obtain⟨rfl,hj⟩:=hrel
   gi_wp2_with fail
   go_end0
   exact⟨⟨_,rfl⟩,.inl ⟨_,by rw [HLL.out];exact hj⟩⟩
 ·have HJ1:=hid hj1;have HG:=hid hg;have HC:=hid hcur
  have hgl:=lt_block hg
  clear hrow hj1 hll hg hcur
  gi_wp2_with fail
  gi_loopw [9] (fun i wr=>∃ k:Nat,k≤ll.length∧i = .int .i64 k∧J w1.heap.size ((hres H (ll.take k)).map (·.s)) wr∧wr.heap[g]?=some (.cells cur 34)) (fun i _=>ll.length - (intOf i).toNat)
  case atStart=>exact⟨0,Nat.zero_le _,rfl,by simpa [hres] using HJ1.out,HG.out⟩
  case round=>
   obtain⟨k,hk,rfl,hj,hg⟩:=hrel
   clear o0 o1 o2 o3 o4 o5 o6 o7 o8 o9
   by_cases hlt:k<ll.length
   ·obtain⟨r,hr⟩:∃ r,ll[k]?=some r:=⟨_,List.getElem?_eq_getElem hlt⟩
    obtain⟨c0,c1⟩:=HC.out k r hr
    have x0:=cell_at hg c0
    have x1:=cell_at hg c1
    have hgl2:=lt_block hg
    have hlt':(k:Int)<(ll.length:Int):=by omega
    have hk0:(0:Int)≤k:=by omega
    obtain⟨qo,qh,hh⟩:=HR.out _ _ _ hj
    obtain⟨h0',_,_⟩:=cells1 qh
    have hbh:=lt_block qh
    have ka:Keeps (fun _=>False) wr (wr.alloc (.cells #[.int .i64 r.s,.int .u32 r.g] 34)):=(Keeps.refl _ _).alloc _
    have HH:=hid (hhas_any b t H r.s r.g _ (hh.keeps ka (fun h=>h) (fun h=>h)))
    have HJ2:=hid (HJ.out _ _ _ _ hj ka)
    have HG2:=hid (block_keep hg ka (fun h=>h))
    have HRR:=hid hr
    clear hg hj qo qh hh hr ka c0 c1
    gi_wp2_with fail
    refine⟨trivial,rfl,callsIn_wide.2 (HH.out.mono ?_)⟩
    rintro e w2 ⟨rfl,hk2⟩
    have hj2:=HJ.out _ _ _ _ HJ2.out hk2
    have hg2:=block_keep HG2.out hk2 (fun h=>h)
    obtain⟨y0,y1,_,_⟩:=cells2 (block_keep (alloc_new (w:=wr)) hk2 (fun h=>h))
    rcases he:(ckV H.T r.s r.g == 0) with _ | _
    ·have HN:=hid (hres_no HRR.out he)
     have HJ3:=hid hj2;have HG3:=hid hg2
     clear hj2 hg2 hk2
     gi_wp2_with fail
     refine⟨fun _ h=>(by cases h),?_⟩
     gi_wp2_with fail
     exact⟨⟨k+1,by omega,by go_num,by rw [HN.out];exact HJ3.out,HG3.out⟩,by simp [intOf];omega⟩
    ·obtain⟨e1,suf,e2⟩:=hres_yes HRR.out he
     obtain⟨fn,tmps,assign,body,hy,hR⟩:=HY.out _ _ _ suf _ (by rw [HLL.out];exact e2) hj2
     have HE1:=hid e1
     have HG3:=hid hg2
     clear e1 e2 hj2 hg2 hk2
     dsimp only [encI] at hy
     gi_wp2_with fail
     refine⟨rfl,hR.mono ?_⟩
     rintro e W' ⟨(⟨rfl,hJ'⟩ | ⟨rfl,hJx'⟩),hks⟩
     ·have hg4:=block_keep HG3.out hks (fun h=>by rcases h with h | h <;> omega)
      have HG4:=hid hg4
      clear hg4 hks
      gi_wp2_with fail
      exact⟨⟨k+1,by omega,by go_num,by rw [HE1.out];exact hJ',HG4.out⟩,by simp [intOf];omega⟩
     ·gi_wp2_with fail
      refine bodyPost_ret (results_none rfl _ _ _) rfl ?_
      exact⟨⟨_,rfl⟩,.inr hJx'⟩
   ·have HK:=hid (show ll.take k=ll by rw [List.take_of_length_le (by omega)])
    have hnl:¬ (k:Int)<(ll.length:Int):=by omega
    gi_wp2_with fail
    go_end0
    exact⟨⟨_,rfl⟩,.inl ⟨_,by rw [HLL.out];rw [HK.out] at hj;exact hj⟩⟩
end Go.Proofs.YtnlkfbndlngjaaaGreat
namespace Go.Proofs.YtnlkfbndlngjaaaGreat
open Go.RowKit
attribute [local go_sem] Oper.semAt_some
def IRow (w:World) (base:Nat) (v:Value) (l:List Int):Prop:=w.ownsRow base 3 1 v l.length (l.map (Value.int .i64))
theorem IRow.nil (w:World) (base:Nat):IRow w base (.slice none 0 0) []:=World.ownsRow_nil _ _ _ _
theorem IRow.lt {w:World} {base:Nat} {v:Value} {l:List Int} (h:IRow w base v l):∀ k,v.ownBlock=some k→base≤k∧k<w.heap.size:=World.ownsRow.lt h
theorem IRow.keeps {w w':World} {base:Nat} {v:Value} {l:List Int} {S:Nat→Prop} (h:IRow w base v l) (hk:Keeps S w w') (hS:∀ k,base≤k→k<w.heap.size→v.ownBlock=some k→¬ S k):IRow w' base v l:=by
 obtain⟨h1,h2⟩:=h
 refine⟨h1,?_⟩
 rcases h2 with h2 | ⟨g,cap,cur,rfl,hb,hg,r1,r2,r3,r4⟩
 ·exact .inl h2
 ·exact .inr ⟨g,cap,cur,rfl,hb,block_keep hg hk (hS g hb (lt_block hg) rfl),r1,r2,r3,r4⟩
theorem IRow.mono {w:World} {base b':Nat} {v:Value} {l:List Int} (h:IRow w base v l) (hb:b'≤base):IRow w b' v l:=by
 obtain⟨h1,h2⟩:=h
 refine⟨h1,?_⟩
 rcases h2 with h2 | ⟨g,cap,cur,rfl,hb',r⟩
 ·exact .inl h2
 ·exact .inr ⟨g,cap,cur,rfl,by omega,r⟩
theorem IRow.cells {w:World} {base:Nat} {v:Value} {l:List Int} (h:IRow w base v l):
 (v = .slice none 0 0∧l=[])∨∃ g cap cur,v = .slice (some ⟨g,0,none⟩) l.length cap∧base≤g∧w.heap[g]?=some (.cells cur 3)∧∀ (j:Nat) (x:Int),l[j]?=some x→cur[j]?=some (Value.int .i64 x):=by
 obtain⟨h1,h2⟩:=h
 rcases h2 with⟨rfl,h2⟩ | ⟨g,cap,cur,rfl,hb,hg,r1,r2,r3,r4⟩
 ·exact .inl ⟨rfl,List.eq_nil_of_length_eq_zero h2⟩
 ·refine .inr ⟨g,cap,cur,rfl,hb,hg,fun j x hj=>?_⟩
  have hlt:j<l.length:=(List.getElem?_eq_some_iff.1 hj).1
  have a:(l.map (Value.int .i64))[j]?=some (.int .i64 x):=by rw [List.getElem?_map,hj];rfl
  rw [← r4] at a
  rw [List.getElem?_take_of_lt (by omega),Array.getElem?_toList] at a
  exact a
theorem int_info:∃ i,Tryz.prog.info? 3=some i∧i.zero=some (.int .i64 0)∧i.size=1∧i.bytes=8:=by
 have h:(Tryz.prog.info? 3).map (fun i=>(i.zero,i.size,i.bytes))=some (some (.int .i64 0),1,8):=by kernel_rfl
 rcases hi:Tryz.prog.info? 3 with _ | i
 ·rw [hi] at h;cases h
 ·rw [hi] at h
  simp only [Option.map_some,Option.some.injEq,Prod.mk.injEq] at h
  exact⟨i,rfl,h.1,h.2.1,h.2.2⟩
theorem iappend_ok (gf:Nat) (lb:Array Value) (xs:List Int) (Rd:World→Prop) (w:World) (hseq:GivesM Tryz.prog gf lb encI xs Rd) (eg:∀ args w,(callFunc gf args).run Tryz.prog w = .ok (.enter gf args) w)
 (hRd:∀ W,Keeps (fun y=>w.heap.size≤y) w W→Rd W) (hlen:xs.length≤256):
 Calls Tryz.prog 284 #[.slice none 0 0,.func (.func gf) #[] lb] w fun e w'=>∃ v,e = .returned v∧IRow w' w.heap.size v xs∧Keeps (fun _=>False) w w':=by
 obtain⟨ii,hi1,hi2,hi3,hi4⟩:=int_info
 have HRd:=hid hRd;have HLen:=hid hlen
 clear hRd hlen
 refine (callsIn_wide (n:=0)).1 ?_
 refine callsIn_of_wp_marks Tryz.func284 rfl trivial ?_ rfl
 simp only [Tryz.ntmps284,List.size_toArray,List.length_cons,List.length_nil,Nat.reduceAdd,Nat.reduceSub,Array.replicate_succ,Array.replicate_zero,List.push_toArray,List.append_toArray,List.nil_append,List.cons_append]
 gi_wp2_with fail
 obtain⟨w0,hw0⟩:∃ w0,w.alloc (.cells #[.slice none 0 0] 200)=w0:=⟨_,rfl⟩
 have q0:w0.heap[w.heap.size]?=some (.cells #[.slice none 0 0] 200):=by rw [← hw0];exact alloc_new
 have k0:Keeps (fun _=>False) w w0:=by rw [← hw0];exact (Keeps.refl _ _).alloc _
 rw [hw0]
 have HQ:=hid q0;have HK0:=hid k0
 have hl0:=lt_block q0
 clear q0 k0 hw0
 refine wp_overM (gf:=gf) (lb:=lb) rfl eg hseq (fun _=>rfl)
  (fun M pre W=>∃ v,W.heap[w.heap.size]?=some (.cells #[v] 200)∧IRow W M v pre∧pre.length≤256∧(w0.heap.size+2≤M∧M≤W.heap.size)∧Keeps (fun y=>y=w.heap.size∨w0.heap.size≤y) w0 W) (fun _ _=>False)
  ?hI (fun _ _ _ h _=>h) ?hRd ?hRd0 ?h0 ?body ?done ?stop
 case stop=>exact fun _ _ h=>h.elim
 case hRd0=>exact fun W hk=>HRd.out _ (HK0.out.trans hk).up
 case h0=>exact fun W hk hs=>⟨_,block_keep HQ.out hk (fun h=>h),IRow.nil _ _,by simp,⟨hs,Nat.le_refl _⟩,hk.up⟩
 case hI=>
  rintro M pre W W' ⟨v,h1,h2,h3,hM,h4⟩ hk
  exact⟨v,block_keep h1 hk (not_two hl0),h2.keeps hk (fun k h1 _ _ h=>by rcases h with h | h <;> omega),h3,⟨hM.1,by have:=hk.size;omega⟩,h4.trans' hk (fun _ _ h=>h) (fun y _ h=>.inr (by rcases h with h | h <;> omega))⟩
 case hRd=>
  rintro M pre W ⟨v,h1,h2,h3,hM,h4⟩
  have:=HK0.out.size
  exact HRd.out _ (HK0.out.up.trans' h4 (U:=fun y=>w.heap.size≤y) (fun _ _ h=>h) (fun y _ h=>by rcases h with h | h <;> omega))
 case body=>
  rintro l M pre x suf W hx ⟨v,h1,h2,h3,hM,h4⟩ hsW
  simp only [encI,List.zip_toArray,List.zip_cons_cons,List.zip_nil_left]
  gi_wp2_with fail
  refine⟨⟨Keeps.refl _ _,Keeps.refl _ _⟩,fun W2 hk2=>?_⟩
  have hbk:Keeps (Two w0) W W2:=hk2
  have hl2:pre.length+1≤256:=by
   have:=congrArg List.length hx
   have:=HLen.out
   simp at *
   omega
  have q1:=block_keep h1 hbk (not_two hl0)
  have hr:=h2.keeps hbk (fun k h1 _ _ h=>by rcases h with h | h <;> omega)
  have hsz2:=hk2.size
  have c1:=cell_at (i:=0) q1 rfl
  have f1:=frozen_block q1 0
  have hb0:w.heap.size<W2.heap.size:=lt_block q1
  have HR:=hid hr;have HX:=hid hx;have HK:=hid hbk;have H4:=hid h4;have Q1:=hid q1;have HMM:=hid hM
  have HLen2:=hid hl2
  clear hr hx hbk h4 h1 h2 h3 q1 hk2 hl2 hM
  gi_wp2_with (first
   | (gi_at_builtin;refine wpListIn_append_own _ rfl _ _ 200 rfl M 3 ii (.int .i64 0) 1 8 Tryz.underlying200 hi1 hi2 hi3 hi4 rfl (by decide) _ _ _ rfl (World.ownsRow.alloc HR.out _) ⟨W2.heap.size,0,none⟩ 1 1 [.int .i64 x] rfl rfl ?c1 ?c2 ?c3 ?c4 ?c5 ?_)
   | fail)
  case c1=>
   intro j u hj
   match j,hj with
   | 0,hj=>simp at hj;subst hj;simp [Addr.add]
  case c2=>intro u hu;simp at hu;subst hu;rfl
  case c3=>have:=HLen2.out;simp [maxLen];omega
  case c4=>have:=HLen2.out;simp;omega
  case c5=>have:=HMM.out;simp;omega
  intro v' w3 hown hgr _
  obtain⟨p',cap',hv'⟩:=own_shape hown
  have hro:=HR.out.lt
  have hgk:=grown_keeps hgr
  have HR3:=hid (show IRow w3 M v' (pre ++ [x]) by unfold IRow;simpa using hown)
  have q3:=block_keep (alloc_old (o:=.cells #[.int .i64 x] 3) Q1.out) hgk (fun h=>by have:=hro _ h;have:=HMM.out;omega)
  have HV:=hid hv'
  have HG:=hid hgk;have HO:=hid hro
  have c3:=cell_at (i:=0) q3 rfl
  have f3:=frozen_block q3 0
  have Q3:=hid q3
  clear hown hgr hgk q3 hro hv'
  obtain rfl:=HV.out
  gi_wp2_with fail
  have hsz3:=HG.out.size
  have hM:=HMM.out
  simp only [World.size_alloc] at hsz3
  have kk:Keeps (fun k=>k=w.heap.size∨(M≤k)) W2 (w3.setCell ⟨w.heap.size,0,none⟩ (.slice p' (pre.length+1) cap')):=
   (((Keeps.refl (fun k=>k=w.heap.size∨(M≤k)) W2).alloc _).trans' HG.out (U:=fun k=>k=w.heap.size∨(M≤k)) (fun _ _ h=>h) (fun k hk h=>.inr (HO.out k h).1)).setCell (.inl (.inl rfl)) _
  refine⟨⟨kk.mono (fun y _ h h'=>by rcases h' with h' | h' <;> rcases h with h | h <;> omega),kk.mono (fun y _ h=>by rcases h with h | h;exact .inl (by omega);exact .inr h)⟩,_,set_block Q3.out 0 _,HR3.out.keeps (keeps_set1 _ _ _ _) (fun k h1 _ _ h=>by omega),by simpa using HLen2.out,⟨hM.1,by have:=hM.2;simp;omega⟩,?_⟩
  exact (H4.out.trans' HK.out (U:=fun y=>y=w.heap.size∨w0.heap.size≤y) (fun _ _ h=>h) (fun y _ h=>.inr (by rcases h with h | h <;> omega))).trans' kk (fun _ _ h=>h) (fun y _ h=>by rcases h with h | h;exact .inl h;exact .inr (by omega))
 case done=>
  rintro M W ⟨v,h1,h2,h3,hM,h4⟩ hD
  have c1:=cell_at (i:=0) h1 rfl
  have H1:=hid h1;have H2:=hid h2;have H4:=hid h4;have HD:=hid hD
  clear h1 h2 h3 h4 hD
  gi_wp2_with fail
  refine leave_mark HD.out fun W' hk'=>⟨v,by simp [results,Tryz.results284,go_sem],v,rfl,?_,?_⟩
  ·have:=HK0.out.size
   exact (H2.out.keeps hk' (fun k h1 _ _ h=>by omega)).mono (by omega)
  ·have hsz:=HK0.out.size
   exact (HK0.out.trans' H4.out (U:=fun y=>w.heap.size≤y) (fun _ _ h=>h.elim) (fun y _ h=>by rcases h with h | h <;> omega)).trans' hk' (U:=fun _=>False) (fun y hy h=>by omega) (fun y hy h=>by omega)
end Go.Proofs.YtnlkfbndlngjaaaGreat
namespace Go.Proofs.YtnlkfbndlngjaaaGreat
open Go.RowKit
theorem icollect_ok (gf:Nat) (lb:Array Value) (xs:List Int) (Rd:World→Prop) (w:World) (hseq:GivesM Tryz.prog gf lb encI xs Rd) (eg:∀ args w,(callFunc gf args).run Tryz.prog w = .ok (.enter gf args) w)
 (hRd:∀ W,Keeps (fun y=>w.heap.size≤y) w W→Rd W) (hlen:xs.length≤256):
 Calls Tryz.prog 278 #[.func (.func gf) #[] lb] w fun e w'=>∃ v,e = .returned v∧IRow w' w.heap.size v xs∧Keeps (fun _=>False) w w':=by
 have H:=hid (iappend_ok gf lb xs Rd w hseq eg hRd hlen)
 clear hseq eg hRd hlen
 go_enter Tryz.func278,Tryz.ntmps278
 go_wp2_with fail
 refine H.out.mono ?_
 rintro e w1 ⟨v,rfl,hr,hk⟩
 go_wp2_with fail
 go_ret
 exact⟨v,rfl,hr,hk⟩
theorem chs_len (H:Hp) (o:Ob):(chs H o).length≤4:=by
 rw [chs,List.length_map]
 exact Nat.le_trans (List.length_filter_le _ _) (by rw [List.length_map];exact Ob.upto_len o 4)
theorem chs_mem {H:Hp} {o:Ob} {x:Int} (h:x∈chs H o):0≤x∧x<H.T.n:=by
 rw [chs,List.mem_map] at h
 obtain⟨r,hr,rfl⟩:=h
 rw [hres,List.mem_filter] at hr
 obtain⟨i,h1,h2,_⟩:=ckV_ok (by simpa using hr.2)
 omega
theorem sch_call (b:Nat) (o:Ob) (w:World):
 Calls Tryz.prog 279 #[.pointer (some ⟨b,0,none⟩),.agg o.arr] w fun e w'=>∃ Bo Bh,
  e = .returned (.func (.func 285) #[] #[.pointer (some ⟨Bo,0,none⟩),.pointer (some ⟨Bh,0,none⟩)])∧
  Keeps (fun _=>False) w w'∧w'.heap[Bo]?=some (.cells o.arr 111)∧w'.heap[Bh]?=some (.cells #[.pointer (some ⟨b,0,none⟩)] 47):=by
 unfold Ob.arr
 go_enter Tryz.func279,Tryz.ntmps279
 go_wp2
 go_ret
 exact⟨_,_,rfl,((Keeps.refl _ _).alloc _).alloc _,alloc_new' (by simp),alloc_old alloc_new⟩
theorem schildren_ok (b t:Nat) (H:Hp) (i:Nat) (g:Int) (w:World) (h:HpAt w b t H) (hc:ckV H.T i g=0):
 Calls Tryz.prog 272 #[.pointer (some ⟨b,0,none⟩),.agg #[.int .i64 i,.int .u32 g]] w fun e w'=>∃ v,e = .returned (.tuple #[v,.int .i64 0])∧IRow w' w.heap.size v (chs H (H.ob i))∧Keeps (fun _=>False) w w':=by
 have HO:=hid (fun (w':World) (hk:Keeps (fun _=>False) w w')=>hobject_ok b t H i g w' (h.keeps hk (fun h=>h) (fun h=>h)) hc)
 have HH:=hid h
 have hbl:=h.lt
 have htl:=h.tab.lt
 obtain⟨o,ho⟩:∃ o,H.ob i=o:=⟨_,rfl⟩
 rw [ho] at HO ⊢
 simp only [Ob.arr] at HO
 clear h hc ho
 go_enter Tryz.func272,Tryz.ntmps272
 go_wp2_with fail
 refine (HO.out _ (by repeat (first | exact Keeps.refl _ _ | apply Keeps.alloc | apply Keeps.drewN | apply Keeps.drew))).mono ?_
 rintro e w1 ⟨rfl,hk1⟩
 have HK1:=hid (((Keeps.refl (fun _=>False) w).alloc _).trans hk1)
 clear hk1
 have HC:=hid (fun w=>sch_call b o w)
 simp only [Ob.arr] at HC
 go_wp2_with fail
 refine (HC.out _).mono ?_
 rintro e w2 ⟨Bo,Bh,rfl,hk2,qo,qh⟩
 have HK2:=hid ((HK1.out.alloc _).trans hk2)
 have HQO:=hid qo;have HQH:=hid qh
 have hsz:=HK2.out.size
 clear hk2 qo qh
 go_wp2_with fail
 refine (icollect_ok 285 #[.pointer (some ⟨Bo,0,none⟩),.pointer (some ⟨Bh,0,none⟩)] (chs H o) _ _ (sch_gives b t Bo Bh H o) (enters_of Tryz.func285 (by kernel_rfl) rfl)
  (fun W hk=>⟨block_keep HQO.out hk (by have:=lt_block HQO.out;omega),block_keep HQH.out hk (by have:=lt_block HQH.out;omega),(HH.out.keeps HK2.out (fun h=>h) (fun h=>h)).keeps hk (by omega) (by omega)⟩) (Nat.le_trans (chs_len H o) (by decide))).mono ?_
 rintro e w3 ⟨v,rfl,hr,hk3⟩
 go_wp2_with fail
 go_ret2
 exact⟨v,rfl,hr.mono (by omega),HK2.out.trans hk3⟩
end Go.Proofs.YtnlkfbndlngjaaaGreat
namespace Go.Proofs.YtnlkfbndlngjaaaGreat
open Go.RowKit
def Ints (w:World) (v:Value) (l:List Int):Prop:=
 (v = .slice none 0 0∧l=[])∨∃ g cap cur,v = .slice (some ⟨g,0,none⟩) l.length cap∧w.heap[g]?=some (.cells cur 3)∧∀ (j:Nat) (x:Int),l[j]?=some x→cur[j]?=some (Value.int .i64 x)
theorem IRow.ints {w:World} {base:Nat} {v:Value} {l:List Int} (h:IRow w base v l):Ints w v l:=by
 rcases h.cells with h | ⟨g,cap,cur,h1,_,h2,h3⟩
 ·exact .inl h
 ·exact .inr ⟨g,cap,cur,h1,h2,h3⟩
theorem Ints.keeps {w w':World} {v:Value} {l:List Int} {S:Nat→Prop} (h:Ints w v l) (hk:Keeps S w w') (hS:∀ k,v.ownBlock=some k→¬ S k):Ints w' v l:=by
 rcases h with h | ⟨g,cap,cur,rfl,h2,h3⟩
 ·exact .inl h
 ·exact .inr ⟨g,cap,cur,rfl,block_keep h2 hk (hS g rfl),h3⟩
theorem iindex_none (f:Nat) (caps:Array Value) (v:Value) (l:List Int) (w:World) (hv:Ints w v l) (hl:l.length≤256) (eg:∀ args w,(callFunc f args).run Tryz.prog w = .ok (.enter f args) w)
 (hf:∀ x∈l,∀ W,Keeps (fun _=>False) w W→Calls Tryz.prog f (#[.int .i64 x] ++ caps) W fun e W'=>e = .returned (.bool false)∧Keeps (fun _=>False) W W'):
 Calls Tryz.prog 280 #[v,.func (.func f) #[] caps] w fun e w'=>e = .returned (.int .i64 (-1))∧Keeps (fun _=>False) w w':=by
 have HF:=hid hf
 clear hf
 rcases hv with⟨rfl,rfl⟩ | ⟨g,cap,cur,rfl,hg,hcur⟩
 ·go_enter Tryz.func280,Tryz.ntmps280
  go_wp2_with fail
  go_loopw [8] (fun i wr=>i = .int .i64 0∧w=wr) (fun _ _=>0)
  case atStart=>exact⟨rfl,rfl⟩
  case round=>
   obtain⟨rfl,rfl⟩:=hrel
   go_wp2_with fail
   go_ret
   exact⟨rfl,Keeps.refl _ _⟩
 ·have HG:=hid hg;have HC:=hid hcur
  clear hg hcur
  go_enter Tryz.func280,Tryz.ntmps280
  go_wp2_with fail
  go_loopw [8] (fun i wr=>∃ k:Nat,k≤l.length∧i = .int .i64 k∧Keeps (fun _=>False) w wr) (fun i _=>l.length - (intOf i).toNat)
  case atStart=>exact⟨0,Nat.zero_le _,rfl,Keeps.refl _ _⟩
  case round=>
   obtain⟨k,hk,rfl,hkk⟩:=hrel
   have HK:=hid hkk
   by_cases hlt:k<l.length
   ·obtain⟨x,hx⟩:∃ x,l[k]?=some x:=⟨_,List.getElem?_eq_getElem hlt⟩
    have c0:=cell_at (block_keep HG.out hkk (fun h=>h)) (HC.out k x hx)
    have hlt':(k:Int)<(l.length:Int):=by omega
    have hk0:(0:Int)≤k:=by omega
    have HX:=hid (HF.out x (List.mem_of_getElem? hx) wr hkk)
    clear hkk hx
    go_wp2_with fail
    refine HX.out.mono ?_
    rintro e w2 ⟨rfl,hk2⟩
    go_wp2_with fail
    exact⟨⟨k+1,by omega,by simp,HK.out.trans hk2⟩,by simp [intOf];omega⟩
   ·have hnl:¬ (k:Int)<(l.length:Int):=by omega
    clear hkk
    go_wp2_with fail
    go_ret
    exact⟨rfl,HK.out⟩
theorem icontains_none (f:Nat) (caps:Array Value) (v:Value) (l:List Int) (w:World) (hv:Ints w v l) (hl:l.length≤256) (eg:∀ args w,(callFunc f args).run Tryz.prog w = .ok (.enter f args) w)
 (hf:∀ x∈l,∀ W,Keeps (fun _=>False) w W→Calls Tryz.prog f (#[.int .i64 x] ++ caps) W fun e W'=>e = .returned (.bool false)∧Keeps (fun _=>False) W W'):
 Calls Tryz.prog 274 #[v,.func (.func f) #[] caps] w fun e w'=>e = .returned (.bool false)∧Keeps (fun _=>False) w w':=by
 have HI:=hid (iindex_none f caps v l w hv hl eg hf)
 clear hv hl eg hf
 go_enter Tryz.func274,Tryz.ntmps274
 go_wp2_with fail
 refine HI.out.mono ?_
 rintro e w1 ⟨rfl,hk⟩
 go_wp2_with fail
 go_ret
 exact⟨rfl,hk⟩
theorem sbeyond (Bp p i:Nat) (P:Pt) (w:World) (hp:PtAt w p P) (hi:i<P.n) (hb:w.heap[Bp]?=some (.cells #[.pointer (some ⟨p,0,none⟩)] 96)):
 Calls Tryz.prog 273 #[.int .i64 i,.pointer (some ⟨Bp,0,none⟩)] w fun e w'=>e = .returned (.bool false)∧Keeps (fun _=>False) w w':=by
 obtain⟨c0,_,_⟩:=cells1 hb
 have HO:=hid (cof_ok p P i w hp hi)
 clear hp hi hb
 go_enter Tryz.func273,Tryz.ntmps273
 go_wp2_with fail
 refine HO.out.mono ?_
 rintro e w1 ⟨rfl,hk⟩
 go_wp2_with fail
 go_ret
 exact⟨rfl,hk⟩
def shds:Pt × Sq→List Int→Pt × Sq
 | PS,[]=>PS
 | PS,x :: l=>shds (shd PS.1 PS.2 x.toNat) l
theorem shds_snoc (PS:Pt × Sq) (l:List Int) (x:Int):shds PS (l ++ [x])=shd (shds PS l).1 (shds PS l).2 x.toNat:=by
 induction l generalizing PS with
 | nil=>rfl
 | cons y l ih=>exact ih _
theorem shd_n (P:Pt) (S:Sq) (i:Nat):(shd P S i).1.n=P.n:=by unfold shd;split <;> rfl
theorem shds_n (PS:Pt × Sq) (l:List Int):(shds PS l).1.n=PS.1.n:=by
 induction l generalizing PS with
 | nil=>rfl
 | cons y l ih=>exact (ih _).trans (shd_n _ _ _)
theorem shd_one (P:Pt) (S:Sq) (i j:Nat) (h:P.c j=1):(shd P S i).1.c j=1:=by
 unfold shd
 split
 ·simp only [Pt.put,updf];split;rfl;exact h
 ·exact h
theorem shds_one (PS:Pt × Sq) (l:List Int) (j:Nat) (h:PS.1.c j=1):(shds PS l).1.c j=1:=by
 induction l generalizing PS with
 | nil=>exact h
 | cons y l ih=>exact ih _ (shd_one _ _ _ _ h)
theorem sscan_ok (b t p s:Nat) (H:Hp) (P:Pt) (S:Sq) (i:Nat) (g:Int) (w:World) (h:HpAt w b t H) (hp:PtAt w p P) (hs:SqAt w s S) (hc:ckV H.T i g=0) (hn:H.T.n=P.n) (hi:P.c i=1):
 Calls Tryz.prog 264 #[.pointer (some ⟨b,0,none⟩),.pointer (some ⟨p,0,none⟩),.pointer (some ⟨s,0,none⟩),.agg #[.int .i64 i,.int .u32 g]] w
  fun e w'=>(∃ v,e = .returned v)∧Keeps (fun y=>y=p∨y=s) w w'∧PtAt w' p ((shds (P,S) (chs H (H.ob i))).1.put i 2)∧SqAt w' s (shds (P,S) (chs H (H.ob i))).2:=by
 have hin:i<P.n:=by obtain⟨j,h1,h2,_⟩:=ckV_ok hc;omega
 have h256:=hp.n12
 have HCP:=hid (fun (w':World) (hk:Keeps (fun _=>False) w w')=>hcopy_ok b t H w' (h.keeps hk (fun h=>h) (fun h=>h)))
 have HVA:=hid (fun (w':World) (hk:Keeps (fun _=>False) w w')=>scvalid p s P S w' (hp.keeps hk (fun h=>h)) (hs.keeps hk (fun h=>h)))
 have HCH:=hid (fun (w':World) (hk:Keeps (fun _=>False) w w')=>schildren_ok b t H i g w' (h.keeps hk (fun h=>h) (fun h=>h)) hc)
 have HOF:=hid (fun (w':World) (hk:Keeps (fun _=>False) w w')=>cof_ok p P i w' (hp.keeps hk (fun h=>h)) hin)
 rw [hi] at HOF
 have HBE:=hid (fun (w':World) (hk:Keeps (fun _=>False) w w') Bp j (hj:j<P.n) hb=>sbeyond Bp p j P w' (hp.keeps hk (fun h=>h)) hj hb)
 have HPP:=hid (fun (w':World) (hk:Keeps (fun _=>False) w w')=>And.intro (hp.keeps hk (fun h=>h)) (hs.keeps hk (fun h=>h)))
 have hpl:=hp.lt;have hsl:=hs.lt
 obtain⟨l,hl⟩:∃ l,chs H (H.ob i)=l:=⟨_,rfl⟩
 have hmem:∀ x∈l,0≤x∧x<P.n:=by rw [← hl,← hn];exact fun x hx=>chs_mem hx
 have hlen:l.length≤4:=by rw [← hl];exact chs_len _ _
 rw [hl] at HCH ⊢
 have HM:=hid hmem
 have HI:=hid hi
 clear h hp hs hc hn hl hmem hi
 go_enter Tryz.func264,Tryz.ntmps264
 go_wp2_with fail
 refine (HCP.out _ (by repeat (first | exact Keeps.refl _ _ | apply Keeps.alloc | apply Keeps.drewN | apply Keeps.drew))).mono ?_
 rintro e w1 ⟨b',t',rfl,hk1,_,_,_⟩
 have HK1:=hid ((((Keeps.refl (fun _=>False) w).alloc _).alloc _).trans hk1)
 have q5:=block_keep (alloc_old (alloc_new (w:=w))) hk1 (fun h=>h)
 have q7:=block_keep (alloc_new' (w:=w.alloc _) (n:=w.heap.size+1) (by simp)) hk1 (fun h=>h)
 obtain⟨a0,_,_⟩:=cells1 q5
 have HQ5:=hid q5;have HQ7:=hid q7
 clear hk1 q5 q7
 go_wp2_with fail
 refine (HVA.out _ HK1.out).mono ?_
 rintro e w2 ⟨rfl,hk2⟩
 have HK2:=hid (HK1.out.trans hk2)
 have q5:=block_keep HQ5.out hk2 (fun h=>h);have q7:=block_keep HQ7.out hk2 (fun h=>h)
 obtain⟨b0,b1,_,_⟩:=cells2 q7
 obtain⟨a0',_,_⟩:=cells1 q5
 have HR5:=hid q5;have HR7:=hid q7
 clear hk2 q5 q7 a0
 go_wp2_with fail
 refine (HCH.out _ HK2.out).mono ?_
 rintro e w3 ⟨v,rfl,hv,hk3⟩
 have HK3:=hid (HK2.out.trans hk3)
 have q5:=block_keep HR5.out hk3 (fun h=>h);have q7:=block_keep HR7.out hk3 (fun h=>h)
 obtain⟨b0',b1',_,_⟩:=cells2 q7
 obtain⟨a0,_,_⟩:=cells1 q5
 have HS5:=hid q5;have HS7:=hid q7
 have HV:=hid hv
 clear hk3 q5 q7 a0' b0 b1 hv
 have e1:=enters_of Tryz.func273 (by kernel_rfl) rfl
 go_wp2_with fail
 refine (HBE.out _ HK3.out w.heap.size i hin HS5.out).mono ?_
 rintro e w4 ⟨rfl,hk4⟩
 have HK4:=hid (HK3.out.trans hk4)
 have HI4:=hid (HV.out.ints.keeps hk4 (fun _ _ h=>h))
 have HT5:=hid (block_keep HS5.out hk4 (fun h=>h));have HT7:=hid (block_keep HS7.out hk4 (fun h=>h))
 clear hk4
 go_wp2_with fail
 refine (icontains_none 273 #[.pointer (some ⟨w.heap.size,0,none⟩)] v l _ HI4.out (Nat.le_trans hlen (by decide)) e1 (fun x hx W hk=>by
  obtain⟨h0,h1⟩:=HM.out x hx
  obtain⟨j,rfl⟩:∃ j:Nat,x=j:=⟨x.toNat,by omega⟩
  exact HBE.out _ (HK4.out.trans hk) w.heap.size j (by omega) (block_keep HT5.out hk (fun h=>h)))).mono ?_
 rintro e w5 ⟨rfl,hk5⟩
 have HK5:=hid (HK4.out.trans hk5)
 have HI5:=hid (HI4.out.keeps hk5 (fun _ _ h=>h))
 have HU5:=hid (block_keep HT5.out hk5 (fun h=>h));have HU7:=hid (block_keep HT7.out hk5 (fun h=>h))
 obtain⟨u0,_,_⟩:=cells1 HU5.out
 obtain⟨y0,y1,_,_⟩:=cells2 HU7.out
 clear hk5 a0 b0' b1'
 go_wp2_with fail
 refine (HOF.out _ HK5.out).mono ?_
 rintro e w6 ⟨rfl,hk6⟩
 have HK6:=hid (HK5.out.trans hk6)
 have HI6:=hid (HI5.out.keeps hk6 (fun _ _ h=>h))
 have HX5:=hid (block_keep HU5.out hk6 (fun h=>h));have HX7:=hid (block_keep HU7.out hk6 (fun h=>h))
 obtain⟨hp6,hs6⟩:=HPP.out _ HK6.out
 have HP6:=hid hp6;have HS6:=hid hs6
 have hsz2:=HK2.out.size
 have hown:∀ k,v.ownBlock=some k→w.heap.size≤k:=fun k hk=>by have:=(HV.out.lt k hk).1;omega
 have HOW:=hid hown
 clear hk6 u0 y0 y1 hp6 hs6 hown
 obtain⟨cap,hvs⟩:∃ pp cap,v = .slice pp l.length cap:=by
  rcases HI6.out with⟨rfl,rfl⟩ | ⟨g,cap,cur,rfl,_⟩
  ·exact⟨none,0,rfl⟩
  ·exact⟨_,_,rfl⟩
 obtain⟨cp,hvs⟩:=hvs
 have HVS:=hid hvs
 subst hvs
 go_wp2_with fail
 go_loopw [15,59] (fun s15 s59 wr=>∃ (k:Nat) (n:Nat),k≤l.length∧n≤k∧s59 = .int .i64 k∧s15 = .int .i64 n∧PtAt wr p (shds (P,S) (l.take k)).1∧SqAt wr s (shds (P,S) (l.take k)).2∧Keeps (fun y=>y=p∨y=s) w6 wr) (fun _ s59 _=>l.length - (intOf s59).toNat)
 case atStart=>exact⟨0,0,Nat.zero_le _,Nat.le_refl _,rfl,rfl,HP6.out,HS6.out,Keeps.refl _ _⟩
 case round=>
  obtain⟨k,n,hk,hnk,rfl,rfl,hp,hs,hkk⟩:=hrel
  have hx5:=block_keep HX5.out hkk (by omega)
  have hx7:=block_keep HX7.out hkk (by omega)
  obtain⟨u0,_,_⟩:=cells1 hx5
  obtain⟨y0,y1,_,_⟩:=cells2 hx7
  by_cases hlt:k<l.length
  ·obtain⟨x,hx⟩:∃ x,l[k]?=some x:=⟨_,List.getElem?_eq_getElem hlt⟩
   obtain⟨h0,h1⟩:=HM.out x (List.mem_of_getElem? hx)
   obtain⟨j,rfl⟩:∃ j:Nat,x=j:=⟨x.toNat,by omega⟩
   obtain⟨g,cap',cur,hveq,hg,hcur⟩:=HI6.out.resolve_left (fun h=>by rw [h.2] at hlt;simp at hlt)
   obtain⟨rfl,rfl⟩:cap=some ⟨g,0,none⟩∧cp=cap':=by simpa using hveq
   have hgo:=HOW.out g rfl
   have c0:=cell_at (block_keep hg hkk (by omega)) (hcur k j hx)
   have hlt':(k:Int)<(l.length:Int):=by omega
   have hk0:(0:Int)≤k:=by omega
   have HSH:=hid (scshade_ok p s _ _ j wr hp hs (by rw [shds_n];dsimp only;omega))
   have HE:=hid (show l.take (k+1)=l.take k ++ [(j:Int)] by rw [List.take_add_one,hx];rfl)
   have HKK:=hid hkk
   have hw:IntKind.i64.wrap ((n:Int)+1)=(n:Int)+1:=IntWalk.i64_in _ (by omega)
   clear hx hveq hg hcur hkk hx5 hx7 hp hs h0
   go_wp2_with fail
   refine HSH.out.mono ?_
   rintro e w7 ⟨rfl,hk7,hp7,hs7⟩
   have HP7:=hid hp7;have HS7':=hid hs7;have HK7:=hid (HKK.out.trans hk7)
   clear hk7 hp7 hs7
   go_wp2_with fail
   ·exact⟨⟨k+1,n+1,by omega,by omega,by simp,by simp,by rw [HE.out,shds_snoc];exact HP7.out,by rw [HE.out,shds_snoc];exact HS7'.out,HK7.out⟩,by simp [intOf];omega⟩
   ·exact⟨⟨k+1,n,by omega,by omega,by simp,rfl,by rw [HE.out,shds_snoc];exact HP7.out,by rw [HE.out,shds_snoc];exact HS7'.out,HK7.out⟩,by simp [intOf];omega⟩
  ·have HT:=hid (show l.take k=l by rw [List.take_of_length_le (by omega)])
   have hnl:¬ (k:Int)<(l.length:Int):=by omega
   rw [HT.out] at hp hs
   have HB:=hid (cblacken_ok p (shds (P,S) l).1 i wr hp (by rw [shds_n];exact hin) (shds_one _ _ _ HI.out))
   have HS8:=hid hs
   have hne:s≠p:=by
    obtain⟨_,q1,_⟩:=hp
    obtain⟨_,q2,_⟩:=hs
    exact type_ne q2 q1 (by decide)
   have HKK:=hid hkk
   clear hp hs hkk hx5 hx7
   go_wp2_with fail
   refine HB.out.mono ?_
   rintro e w8 ⟨rfl,hk8,hp8⟩
   have hs8:=HS8.out.keeps hk8 hne
   have kall:=(HK6.out.up.trans HKK.out).trans' hk8 (U:=fun y=>y=p∨y=s) (fun _ _ h=>h) (fun _ _ h=>.inl h)
   go_wp2_with fail
   go_ret2
   exact⟨⟨_,rfl⟩,kall,hp8,hs8⟩
end Go.Proofs.YtnlkfbndlngjaaaGreat
