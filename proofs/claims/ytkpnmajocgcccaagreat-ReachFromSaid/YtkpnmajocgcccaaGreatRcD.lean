import Derived.Test.YtkpnmajocgcccaaGreatRcB
set_option maxHeartbeats 1000000
set_option maxRecDepth 100000
namespace Go.Proofs.YtkpnmajocgcccaaGreat
open Go.RowKit
attribute [local go_sem] Oper.semAt_some
set_option linter.unusedVariables false
set_option linter.unusedSimpArgs false
theorem not_two' {w:World} {y:Nat} (h:w.heap.size+1<y):¬ Two w y:=fun h'=>by rcases h' with h' | h' <;> omega
def encV (x:Rf):Array Value:=#[.agg #[.int .i64 x.s,.int .u32 x.g]]
theorem hresR_yes {H:Hp} {l:List Rf} {k:Nat} {r:Rf} (hk:l[k]?=some r) (h:(ckV H.T r.s r.g == 0)=true):hres H (l.take (k+1))=hres H (l.take k) ++ [r]∧∃ suf,hres H l=hres H (l.take k) ++ r :: suf:=by
 have e1:l.take (k+1)=l.take k ++ [r]:=by rw [List.take_add_one,hk];rfl
 have e2:l=l.take k ++ r :: l.drop (k+1):=by
  obtain⟨_,h⟩:=List.getElem?_eq_some_iff.1 hk
  rw [← h,List.getElem_cons_drop,List.take_append_drop]
 refine⟨by rw [e1];simp [hres,h],?_⟩
 refine⟨hres H (l.drop (k+1)),?_⟩
 conv=>lhs;rw [e2]
 simp [hres,h]
theorem rch_gives (b t Bh Br:Nat) (H:Hp) (i:Nat) (rg:Int) (hr:There H ⟨i,rg⟩):
 GivesM Tryz.prog 85 #[.pointer (some ⟨Bh,0,none⟩),.pointer (some ⟨Br,0,none⟩)] encV (kids H ⟨i,rg⟩)
  (fun W=>W.heap[Bh]?=some (.cells #[.pointer (some ⟨b,0,none⟩)] 33)∧W.heap[Br]?=some (.cells #[.int .i64 i,.int .u32 rg] 41)∧HpAt W b t H):=by
 intro l J Jx W0 hJ hJx hRd hY h0 hR0
 have HJ:=hid hJ;have HR:=hid hRd;have HY:=hid hY;have H0:=hid h0
 obtain⟨qh,qr,hh⟩:=hR0
 have HO:=hid (fun W (hk:Keeps (fun _=>False) W0 W)=>hobject_ok b t H i rg W (hh.keeps hk (fun h=>h) (fun h=>h)) hr)
 obtain⟨o,ho⟩:∃ o,H.ob i=o:=⟨_,rfl⟩
 have HLL:=hid (show ∀ ll,(o.upto 4).map (·.2)=ll→kids H ⟨i,rg⟩=hres H ll from fun ll hll=>by
  unfold kids
  rw [if_pos (show ckV H.T (⟨i,rg⟩:Rf).s (⟨i,rg⟩:Rf).g=0 from hr)]
  dsimp only
  rw [Int.toNat_natCast,ho,hll])
 rw [ho] at HO
 obtain⟨h0',_,_⟩:=cells1 qh
 obtain⟨r0,r1,_,_⟩:=cells2 qr
 have HF:=hid (fun w=>frefs_any o w)
 simp only [Ob.arr] at HF HO
 clear hJ hRd hY h0 hJx hh qr qh hr ho
 refine (callsIn_wide (n:=0)).1 ?_
 refine callsIn_of_wp Tryz.func85 rfl trivial ?_ rfl
 simp only [Tryz.ntmps85,List.size_toArray,List.length_cons,List.length_nil,Nat.reduceAdd,Nat.reduceSub,Array.replicate_succ,Array.replicate_zero,List.push_toArray,List.append_toArray,List.nil_append,List.cons_append]
 gi_wp2_with fail
 refine⟨trivial,rfl,callsIn_wide.2 ((HO.out _ (Keeps.refl _ _)).mono ?_)⟩
 rintro e w0 ⟨rfl,hk0⟩
 have HK0:=hid hk0
 clear hk0 h0' r0 r1
 gi_wp2_with fail
 refine⟨trivial,rfl,callsIn_wide.2 ((HF.out _).mono ?_)⟩
 rintro e w1 ⟨v,rfl,hrow,hk1⟩
 have HK1:=hid (show Keeps (fun _=>False) W0 w1 from (HK0.out.alloc _).trans hk1)
 have hj1:=H0.out _ HK1.out
 have hsz:=HK1.out.size
 clear hk1
 obtain⟨ll,hll⟩:∃ ll,(o.upto 4).map (·.2)=ll:=⟨_,rfl⟩
 rw [hll] at hrow
 have HLQ:=hid (HLL.out ll hll)
 have hlen:ll.length≤4:=by rw [← hll,List.length_map];exact Ob.upto_len o 4
 have hW0:W0.heap.size≤w0.heap.size:=HK0.out.size
 rcases Row.cells hrow with⟨rfl,rfl⟩ | ⟨g,cap,cur,rfl,hb,hg,hcur⟩
 ·have HJ1:=hid hj1
  clear hrow hj1 hll
  gi_wp2_with fail
  gi_loopw [17] (fun i wr=>i = .int .i64 0∧J w1.heap.size [] wr) (fun _ _=>0)
  case atStart=>exact⟨rfl,HJ1.out⟩
  case round=>
   obtain⟨rfl,hj⟩:=hrel
   gi_wp2_with fail
   go_end0
   exact⟨⟨_,rfl⟩,.inl ⟨_,by rw [HLQ.out];exact hj⟩⟩
 ·have HJ1:=hid hj1;have HG:=hid hg;have HC:=hid hcur
  have hgl:=lt_block hg
  have hgW:W0.heap.size≤g:=by simp at hb;omega
  clear hrow hj1 hll hg hcur hb
  gi_wp2_with fail
  gi_loopw [17] (fun i wr=>∃ k:Nat,k≤ll.length∧i = .int .i64 k∧J w1.heap.size (hres H (ll.take k)) wr∧wr.heap[g]?=some (.cells cur 41)) (fun i _=>ll.length - (intOf i).toNat)
  case atStart=>exact⟨0,Nat.zero_le _,rfl,by simpa [hres] using HJ1.out,HG.out⟩
  case round=>
   obtain⟨k,hk,rfl,hj,hg⟩:=hrel
   by_cases hlt:k<ll.length
   ·obtain⟨r,hr⟩:∃ r,ll[k]?=some r:=⟨_,List.getElem?_eq_getElem hlt⟩
    obtain⟨c0,c1⟩:=HC.out k r hr
    have x0:=cell_at hg c0
    have x1:=cell_at hg c1
    have hgl2:=lt_block hg
    have hlt':(k:Int)<(ll.length:Int):=by omega
    have hk0:(0:Int)≤k:=by omega
    obtain⟨qh,qr,hh⟩:=HR.out _ _ _ hj
    obtain⟨h0',_,_⟩:=cells1 qh
    have hbh:=lt_block qh
    have ka:Keeps (fun _=>False) wr (wr.alloc (.cells #[.int .i64 r.s,.int .u32 r.g] 41)):=(Keeps.refl _ _).alloc _
    have HH:=hid (hhas_any b t H r.s r.g _ (hh.keeps ka (fun h=>h) (fun h=>h)))
    have HJ2:=hid (HJ.out _ _ _ _ hj ka)
    have HG2:=hid (block_keep hg ka (fun h=>h))
    have HRR:=hid hr
    clear hg hj qr qh hh hr ka c0 c1
    gi_wp2_with fail
    refine⟨trivial,rfl,callsIn_wide.2 (HH.out.mono ?_)⟩
    rintro e w2 ⟨rfl,hk2⟩
    have hj2:=HJ.out _ _ _ _ HJ2.out hk2
    have hg2:=block_keep HG2.out hk2 (fun h=>h)
    obtain⟨y0,y1,_,_⟩:=cells2 (block_keep (alloc_new (w:=wr)) hk2 (fun h=>h))
    rcases he:(ckV H.T r.s r.g == 0) with _ | _
    ·have HN:=hid (hres_no HRR.out he)
     have HJ3:=hid hj2;have HG3:=hid hg2
     clear hj2 hg2 hk2
     gi_wp2_with fail
     refine⟨fun _ h=>(by cases h),?_⟩
     gi_wp2_with fail
     exact⟨⟨k+1,by omega,by go_num,by rw [HN.out];exact HJ3.out,HG3.out⟩,by simp [intOf];omega⟩
    ·obtain⟨e1,suf,e2⟩:=hresR_yes HRR.out he
     obtain⟨fn,tmps,assign,body,hy,hR⟩:=HY.out _ _ _ suf _ (by rw [HLQ.out];exact e2) hj2
     have HE1:=hid e1
     have HG3:=hid hg2
     clear e1 e2 hj2 hg2 hk2
     dsimp only [encV] at hy
     gi_wp2_with fail
     refine⟨rfl,hR.mono ?_⟩
     rintro e W' ⟨(⟨rfl,hJ'⟩ | ⟨rfl,hJx'⟩),hks⟩
     ·have hg4:=block_keep HG3.out hks (fun h=>by rcases h with h | h <;> omega)
      have HG4:=hid hg4
      clear hg4 hks
      gi_wp2_with fail
      exact⟨⟨k+1,by omega,by go_num,by rw [HE1.out];exact hJ',HG4.out⟩,by simp [intOf];omega⟩
     ·gi_wp2_with fail
      refine bodyPost_ret (results_none rfl _ _ _) rfl ?_
      exact⟨⟨_,rfl⟩,.inr hJx'⟩
   ·have HK:=hid (show ll.take k=ll by rw [List.take_of_length_le (by omega)])
    have hnl:¬ (k:Int)<(ll.length:Int):=by omega
    gi_wp2_with fail
    go_end0
    exact⟨⟨_,rfl⟩,.inl ⟨_,by rw [HLQ.out];rw [HK.out] at hj;exact hj⟩⟩
end Go.Proofs.YtkpnmajocgcccaaGreat
namespace Go.Proofs.YtkpnmajocgcccaaGreat
open Go.RowKit
attribute [local go_sem] Oper.semAt_some
theorem rappend_ok (gf:Nat) (lb:Array Value) (xs:List Rf) (Rd:World→Prop) (w:World) (hseq:GivesM Tryz.prog gf lb encV xs Rd) (eg:∀ args w,(callFunc gf args).run Tryz.prog w = .ok (.enter gf args) w)
 (hRd:∀ W,Keeps (fun y=>w.heap.size≤y) w W→Rd W) (hlen:xs.length≤256):
 Calls Tryz.prog 169 #[.slice none 0 0,.func (.func gf) #[] lb] w fun e w'=>∃ v,e = .returned v∧Row w' w.heap.size v xs∧Keeps (fun _=>False) w w':=by
 obtain⟨ii,hi1,hi2,hi3,hi4⟩:=ref_info
 have HRd:=hid hRd;have HLen:=hid hlen
 clear hRd hlen
 refine (callsIn_wide (n:=0)).1 ?_
 refine callsIn_of_wp_marks Tryz.func169 rfl trivial ?_ rfl
 simp only [Tryz.ntmps169,List.size_toArray,List.length_cons,List.length_nil,Nat.reduceAdd,Nat.reduceSub,Array.replicate_succ,Array.replicate_zero,List.push_toArray,List.append_toArray,List.nil_append,List.cons_append]
 gi_wp2_with fail
 obtain⟨w0,hw0⟩:∃ w0,w.alloc (.cells #[.slice none 0 0] 23)=w0:=⟨_,rfl⟩
 have q0:w0.heap[w.heap.size]?=some (.cells #[.slice none 0 0] 23):=by rw [← hw0];exact alloc_new
 have k0:Keeps (fun _=>False) w w0:=by rw [← hw0];exact (Keeps.refl _ _).alloc _
 rw [hw0]
 have HQ:=hid q0;have HK0:=hid k0
 have hl0:=lt_block q0
 clear q0 k0 hw0
 refine wp_overM (gf:=gf) (lb:=lb) rfl eg hseq (fun _=>rfl)
  (fun M pre W=>∃ v,W.heap[w.heap.size]?=some (.cells #[v] 23)∧Row W M v pre∧pre.length≤256∧(w0.heap.size+2≤M∧M≤W.heap.size)∧Keeps (fun y=>y=w.heap.size∨w0.heap.size≤y) w0 W) (fun _ _=>False)
  ?hI (fun _ _ _ h _=>h) ?hRd ?hRd0 ?h0 ?body ?done ?stop
 case stop=>exact fun _ _ h=>h.elim
 case hRd0=>exact fun W hk=>HRd.out _ (HK0.out.trans hk).up
 case h0=>exact fun W hk hs=>⟨_,block_keep HQ.out hk (fun h=>h),Row.nil _ _,by simp,⟨hs,Nat.le_refl _⟩,hk.up⟩
 case hI=>
  rintro M pre W W' ⟨v,h1,h2,h3,hM,h4⟩ hk
  exact⟨v,block_keep h1 hk (not_two hl0),h2.keeps hk (fun k h1 _ _ h=>by rcases h with h | h <;> omega),h3,⟨hM.1,by have:=hk.size;omega⟩,h4.trans' hk (fun _ _ h=>h) (fun y _ h=>.inr (by rcases h with h | h <;> omega))⟩
 case hRd=>
  rintro M pre W ⟨v,h1,h2,h3,hM,h4⟩
  have:=HK0.out.size
  exact HRd.out _ (HK0.out.up.trans' h4 (U:=fun y=>w.heap.size≤y) (fun _ _ h=>h) (fun y _ h=>by rcases h with h | h <;> omega))
 case body=>
  rintro l M pre x suf W hx ⟨v,h1,h2,h3,hM,h4⟩ hsW
  simp only [encV,List.zip_toArray,List.zip_cons_cons,List.zip_nil_left]
  gi_wp2_with fail
  refine⟨⟨(Keeps.refl _ _).alloc _,(Keeps.refl _ _).alloc _⟩,fun W2 hk2=>?_⟩
  have hbk:Keeps (Two w0) W W2:=((Keeps.refl _ _).alloc _).trans hk2
  have q5:=block_keep (alloc_new (w:=W)) hk2 (not_two' hsW)
  have hl2:pre.length+1≤256:=by
   have:=congrArg List.length hx
   have:=HLen.out
   simp at *
   omega
  have q1:=block_keep h1 hbk (not_two hl0)
  have hr:=h2.keeps hbk (fun k h1 _ _ h=>by rcases h with h | h <;> omega)
  have hsz2:=hbk.size
  have c1:=cell_at (i:=0) q1 rfl
  have f1:=frozen_block q1 0
  obtain⟨x0,x1,_,_⟩:=cells2 q5
  have hb0:w.heap.size<W2.heap.size:=lt_block q1
  have hb5:=lt_block q5
  have HR:=hid hr;have HX:=hid hx;have HK:=hid hbk;have H4:=hid h4;have Q1:=hid q1;have HMM:=hid hM
  have HLen2:=hid hl2
  clear hr hx hbk h4 h1 h2 h3 q1 hk2 hl2 hM q5
  gi_wp2_with (first
   | (gi_at_builtin;refine wpListIn_append_own _ rfl _ _ 23 rfl M 41 ii (.agg #[.int .i64 0,.int .u32 0]) 2 16 Tryz.underlying23 hi1 hi2 hi3 hi4 rfl (by decide) _ _ _ rfl (World.ownsRow.alloc HR.out _) ⟨W2.heap.size,0,none⟩ 1 1 [.int .i64 x.s,.int .u32 x.g] rfl rfl ?c1 ?c2 ?c3 ?c4 ?c5 ?_)
   | fail)
  case c1=>
   intro j u hj
   match j,hj with
   | 0,hj=>simp at hj;subst hj;simp [Addr.add]
   | 1,hj=>simp at hj;subst hj;simp [Addr.add]
  case c2=>intro u hu;simp at hu;rcases hu with rfl | rfl <;> rfl
  case c3=>have:=HLen2.out;simp [maxLen];omega
  case c4=>have:=HLen2.out;simp;omega
  case c5=>have:=HMM.out;simp;omega
  intro v' w3 hown hgr _
  obtain⟨p',cap',hv'⟩:=own_shape hown
  have hro:=HR.out.lt
  have hgk:=grown_keeps hgr
  have HR3:=hid (show Row w3 M v' (pre ++ [x]) by unfold Row;rw [List.length_append,List.flatMap_append];simpa [encR] using hown)
  have q3:=block_keep (alloc_old (o:=.cells #[.int .i64 x.s,.int .u32 x.g] 41) Q1.out) hgk (fun h=>by have:=hro _ h;have:=HMM.out;omega)
  have HV:=hid hv'
  have HG:=hid hgk;have HO:=hid hro
  have c3:=cell_at (i:=0) q3 rfl
  have f3:=frozen_block q3 0
  have Q3:=hid q3
  clear hown hgr hgk q3 hro hv'
  obtain rfl:=HV.out
  gi_wp2_with fail
  have hsz3:=HG.out.size
  have hM:=HMM.out
  simp only [World.size_alloc] at hsz3
  have kk:Keeps (fun k=>k=w.heap.size∨(M≤k)) W2 (w3.setCell ⟨w.heap.size,0,none⟩ (.slice p' (pre.length+1) cap')):=
   (((Keeps.refl (fun k=>k=w.heap.size∨(M≤k)) W2).alloc _).trans' HG.out (U:=fun k=>k=w.heap.size∨(M≤k)) (fun _ _ h=>h) (fun k hk h=>.inr (HO.out k h).1)).setCell (.inl (.inl rfl)) _
  refine⟨⟨kk.mono (fun y _ h h'=>by rcases h' with h' | h' <;> rcases h with h | h <;> omega),kk.mono (fun y _ h=>by rcases h with h | h;exact .inl (by omega);exact .inr h)⟩,_,set_block Q3.out 0 _,HR3.out.keeps (keeps_set1 _ _ _ _) (fun k h1 _ _ h=>by omega),by simpa using HLen2.out,⟨hM.1,by have:=hM.2;simp;omega⟩,?_⟩
  exact (H4.out.trans' HK.out (U:=fun y=>y=w.heap.size∨w0.heap.size≤y) (fun _ _ h=>h) (fun y _ h=>.inr (by rcases h with h | h <;> omega))).trans' kk (fun _ _ h=>h) (fun y _ h=>by rcases h with h | h;exact .inl h;exact .inr (by omega))
 case done=>
  rintro M W ⟨v,h1,h2,h3,hM,h4⟩ hD
  have c1:=cell_at (i:=0) h1 rfl
  have H1:=hid h1;have H2:=hid h2;have H4:=hid h4;have HD:=hid hD
  clear h1 h2 h3 h4 hD
  gi_wp2_with fail
  refine leave_mark HD.out fun W' hk'=>⟨v,by simp [results,Tryz.results169,go_sem],v,rfl,?_,?_⟩
  ·have:=HK0.out.size
   exact (H2.out.keeps hk' (fun k h1 _ _ h=>by omega)).mono (by omega)
  ·have hsz:=HK0.out.size
   exact (HK0.out.trans' H4.out (U:=fun y=>w.heap.size≤y) (fun _ _ h=>h.elim) (fun y _ h=>by rcases h with h | h <;> omega)).trans' hk' (U:=fun _=>False) (fun y hy h=>by omega) (fun y hy h=>by omega)
end Go.Proofs.YtkpnmajocgcccaaGreat
namespace Go.Proofs.YtkpnmajocgcccaaGreat
open Go.RowKit
theorem rcollect_ok (gf:Nat) (lb:Array Value) (xs:List Rf) (Rd:World→Prop) (w:World) (hseq:GivesM Tryz.prog gf lb encV xs Rd) (eg:∀ args w,(callFunc gf args).run Tryz.prog w = .ok (.enter gf args) w)
 (hRd:∀ W,Keeps (fun y=>w.heap.size≤y) w W→Rd W) (hlen:xs.length≤256):
 Calls Tryz.prog 133 #[.func (.func gf) #[] lb] w fun e w'=>∃ v,e = .returned v∧Row w' w.heap.size v xs∧Keeps (fun _=>False) w w':=by
 have H:=hid (rappend_ok gf lb xs Rd w hseq eg hRd hlen)
 clear hseq eg hRd hlen
 go_enter Tryz.func133,Tryz.ntmps133
 go_wp2_with fail
 refine H.out.mono ?_
 rintro e w1 ⟨v,rfl,hr,hk⟩
 go_wp2_with fail
 go_ret
 exact⟨v,rfl,hr,hk⟩
theorem rsorted_ok (gf:Nat) (lb:Array Value) (xs:List Rf) (Rd:World→Prop) (w:World) (hseq:GivesM Tryz.prog gf lb encV xs Rd) (eg:∀ args w,(callFunc gf args).run Tryz.prog w = .ok (.enter gf args) w)
 (hRd:∀ W,Keeps (fun y=>w.heap.size≤y) w W→Rd W) (hlen:xs.length≤256) (hs:∀ r∈xs,0≤r.s∧r.s<4611686018427387904) (ho:OneSlot xs):
 Calls Tryz.prog 82 #[.func (.func gf) #[] lb,.func (.func 40) #[] #[]] w fun e w'=>∃ v,e = .returned v∧Row w' w.heap.size v (srt xs)∧Keeps (fun _=>False) w w':=by
 have H:=hid (rcollect_ok gf lb xs Rd w hseq eg hRd hlen)
 have HS:=hid (fun v W (hv:Row W w.heap.size v xs)=>rsort_ok v xs w.heap.size W hv hs ho (by omega))
 clear hseq eg hRd hlen hs ho
 go_enter Tryz.func82,Tryz.ntmps82
 go_wp2_with fail
 refine H.out.mono ?_
 rintro e w1 ⟨v,rfl,hr,hk⟩
 have HR1:=hid hr;have HK1:=hid hk
 clear hr hk
 go_wp2_with fail
 refine (HS.out v w1 HR1.out).mono ?_
 rintro e w2 ⟨rfl,hr2,hk2⟩
 have HR2:=hid hr2;have HK2:=hid hk2
 clear hr2 hk2
 go_wp2_with fail
 go_ret
 exact⟨v,rfl,HR2.out,(HK1.out.trans' HK2.out (U:=fun y=>w.heap.size≤y) (fun _ _ h=>h.elim) (fun y _ h=>(HR1.out.lt y h).1)).fresh⟩
theorem rchildren_call (b:Nat) (r:Rf) (w:World):
 Calls Tryz.prog 41 #[.pointer (some ⟨b,0,none⟩),.agg #[.int .i64 r.s,.int .u32 r.g]] w fun e w'=>∃ Bh Br,
  e = .returned (.func (.func 85) #[] #[.pointer (some ⟨Bh,0,none⟩),.pointer (some ⟨Br,0,none⟩)])∧
  Keeps (fun _=>False) w w'∧w'.heap[Bh]?=some (.cells #[.pointer (some ⟨b,0,none⟩)] 33)∧w'.heap[Br]?=some (.cells #[.int .i64 r.s,.int .u32 r.g] 41)∧Bh<w'.heap.size∧Br<w'.heap.size:=by
 go_enter Tryz.func41,Tryz.ntmps41
 go_wp2
 go_ret
 exact⟨_,_,rfl,((Keeps.refl _ _).alloc _).alloc _,alloc_old alloc_new,alloc_new' (by simp),by simp;omega,by simp⟩
def QV (q:Qe):List (Rf × Value):=q.map (fun x=>(x.1,x.2.val))
theorem QV.no {q:Qe} {r:Rf} (h:r ∉ q.keys):∀ x∈QV q,x.1≠r:=by
 intro x hx e
 obtain⟨y,hy,rfl⟩:=List.mem_map.1 hx
 exact h (List.mem_map.2 ⟨y,hy,e⟩)
theorem QV.yes {q:Qe} {r:Rf} {v:Value} (h:(r,v)∈QV q):r∈q.keys:=by
 obtain⟨y,hy,e⟩:=List.mem_map.1 h
 injection e with e1 e2
 exact List.mem_map.2 ⟨y,hy,e1⟩
theorem own_ne {w:World} {base b:Nat} {v:Value} {l:List Rf} (hv:Row w base v l) {c:Array Value} {t:TypeId} (h:w.heap[b]?=some (.cells c t)) (ht:t≠41):v.ownBlock≠some b:=by
 intro e
 rcases hv.2 with⟨rfl,_⟩ | ⟨g,cp,cur,rfl,_,hg,_⟩
 ·cases e
 ·have:g=b:=Option.some.inj e
  rw [this,h] at hg
  injection hg with hg
  injection hg with _ hg
  exact ht hg
theorem own_tab {w:World} {base t:Nat} {v:Value} {l:List Rf} {T:Tb} (hv:Row w base v l) (h:TbAt w t T):v.ownBlock≠some t:=by
 obtain⟨c,h,_⟩:=h
 exact own_ne hv h (by decide)
theorem own_vmap {w:World} {base b:Nat} {v:Value} {l:List Rf} {q:List (Rf × Value)} (hv:Row w base v l) (h:VMap w b q):v.ownBlock≠some b:=by
 intro e
 obtain⟨⟨es,c,h1,_⟩,_⟩:=h
 rcases hv.2 with⟨rfl,_⟩ | ⟨g,cp,cur,rfl,_,hg,_⟩
 ·cases e
 ·have:g=b:=Option.some.inj e
  rw [this,h1] at hg
  cases hg
theorem ways_zero (w:World):(zeroValue 41).run Tryz.prog w = .ok (.agg #[.int .i64 0,.int .u32 0]) w:=by kernel_rfl
theorem radd_ok (Bf Bo bm base:Nat) (q:Qe) (r p:Rf) (v:Value) (w:World) (hr:r.Nm) (hf:w.heap[Bf]?=some (.cells #[.map (some bm)] 85)) (ho:w.heap[Bo]?=some (.cells #[v] 23))
 (hm:VMap w bm (QV q)) (hv:Row w base v q.keys) (hb:base≤w.heap.size) (hn:q.length≤5000) (hne:Bf≠bm∧Bo≠bm):
 Calls Tryz.prog 81 #[.agg #[.int .i64 r.s,.int .u32 r.g],.agg #[.int .i64 p.s,.int .u32 p.g],.pointer (some ⟨Bf,0,none⟩),.pointer (some ⟨Bo,0,none⟩)] w fun e w'=>
  e = .returned (.tuple #[])∧∃ v',w'.heap[Bo]?=some (.cells #[v'] 23)∧Row w' base v' (addq q r p).keys∧VMap w' bm (QV (addq q r p))∧(v'.ownBlock=v.ownBlock∨∃ y,v'.ownBlock=some y∧w.heap.size≤y)∧Keeps (fun y=>y=Bo∨y=bm∨v.ownBlock=some y) w w':=by
 obtain⟨ri,hi1,hi2,hi3,hi4⟩:=ref_info
 have hvo:=own_ne hv ho (by decide)
 have hvf:=own_ne hv hf (by decide)
 have hvm:=own_vmap hv hm
 have hfo:Bf≠Bo:=fun e=>by rw [e,ho] at hf;injection hf with hf;injection hf with _ hf;exact absurd hf (by decide)
 obtain⟨wa,hwa⟩:∃ wa,(w.alloc (.cells #[.int .i64 r.s,.int .u32 r.g] 41)).alloc (.cells #[.int .i64 p.s,.int .u32 p.g] 41)=wa:=⟨_,rfl⟩
 have ka:Keeps (fun _=>False) w wa:=by rw [← hwa];exact ((Keeps.refl _ _).alloc _).alloc _
 have qr:wa.heap[w.heap.size]?=some (.cells #[.int .i64 r.s,.int .u32 r.g] 41):=by rw [← hwa];exact alloc_old alloc_new
 have qp:wa.heap[w.heap.size+1]?=some (.cells #[.int .i64 p.s,.int .u32 p.g] 41):=by rw [← hwa];exact alloc_new' (by simp)
 obtain⟨r0,r1,_,rl⟩:=cells2 qr
 obtain⟨p0,p1,_,pl⟩:=cells2 qp
 have hlook:=(hm.keeps ka (fun h=>h)).look (t:=85) Tryz.underlying85 (ways_zero wa) hr true
 have HKA:=hid ka;have HM:=hid hm;have HV:=hid hv;have HF:=hid hf;have HO:=hid ho;have HR:=hid hr
 have HQR:=hid qr;have HQP:=hid qp
 obtain⟨f0,_,fl⟩:=cells1 hf
 have fl1:Bf<w.heap.size+1:=by omega
 have fl2:Bf<w.heap.size+1+1:=by omega
 clear ka qr qp hm hv hf ho hr r0 r1 rl p0 p1 pl
 by_cases hq:r∈q.keys
 ·obtain⟨x,hx⟩:∃ x:Rf,Sem.run Tryz.prog (Instr.lookup 85 (.map (some bm)) (.agg #[.int .i64 r.s,.int .u32 r.g]) true) wa = .ok (.tuple #[.agg #[.int .i64 x.s,.int .u32 x.g],.bool true]) wa:=by
   rcases hlook with⟨h1,_⟩ | ⟨x,h1,h2⟩
   ·obtain⟨y,hy,e⟩:=List.mem_map.1 hq
    exact absurd e (h1 (y.1,y.2.val) (List.mem_map.2 ⟨y,hy,rfl⟩))
   ·obtain⟨y,hy,e⟩:=List.mem_map.1 h1
    injection e with e1 e2
    exact⟨y.2,by rw [if_pos rfl,← e2] at h2;exact h2⟩
  have HQ:=hid hq
  clear hlook hq HQR HQP
  subst hwa
  go_enter Tryz.func81,Tryz.ntmps81
  go_wp2_with fail
  go_end0
  have e:addq q r p=q:=if_pos HQ.out
  rw [e]
  refine⟨rfl,v,?_,?_,?_,.inl rfl,(HKA.out.alloc _).up⟩
  ·exact alloc_old (block_keep HO.out HKA.out (fun h=>h))
  ·exact HV.out.keeps (HKA.out.alloc _) (fun _ _ _ _ h=>h)
  ·exact HM.out.keeps (HKA.out.alloc _) (fun h=>h)
 ·have hlk:Sem.run Tryz.prog (Instr.lookup 85 (.map (some bm)) (.agg #[.int .i64 r.s,.int .u32 r.g]) true) wa = .ok (.tuple #[.agg #[.int .i64 0,.int .u32 0],.bool false]) wa:=by
   rcases hlook with⟨_,h2⟩ | ⟨x,h1,_⟩
   ·rw [if_pos rfl] at h2;exact h2
   ·exact absurd (QV.yes h1) hq
  have HQ:=hid hq
  obtain⟨wb,hwb⟩:∃ wb,wa.alloc (.cells #[.int .i64 0,.int .u32 0] 41)=wb:=⟨_,rfl⟩
  have kb:Keeps (fun _=>False) wa wb:=by rw [← hwb];exact (Keeps.refl _ _).alloc _
  have KB:=hid (HKA.out.trans kb)
  obtain⟨wc,hset,hmc,kc⟩:=(HM.out.keeps KB.out (fun h=>h)).set (t:=85) Tryz.underlying85 HR.out (QV.no hq) p.val
  have hmlt:=HM.out.lt
  obtain⟨r0c,r1c,_,rlc⟩:=cells2 (block_keep (block_keep HQR.out kb (fun h=>h)) kc (by omega))
  have qoc:=block_keep (block_keep HO.out KB.out (fun h=>h)) kc hne.2
  obtain⟨o0c,ofc,olc⟩:=cells1 qoc
  have HQOC:=hid qoc;have HMC:=hid hmc;have HKC:=hid kc
  have HVC:=hid ((HV.out.keeps KB.out (fun _ _ _ _ h=>h)).keeps kc (fun y _ _ hy h=>hvm (by rw [hy,h])))
  have hsc:=HKC.out.size;have hsb:=KB.out.size
  obtain⟨pv,cv,hpv⟩:=HV.out.refs.slice
  have hset':Sem.run Tryz.prog (Instr.mapUpdate 85 (.map (some bm)) (.agg #[.int .i64 r.s,.int .u32 r.g]) (.agg #[.int .i64 p.s,.int .u32 p.g])) wb = .ok () wc:=hset
  clear hlook hq hset kb qoc hmc kc
  have HRO:=hid (refs_one (alloc_new (w:=wc) (o:=.cells #[.int .i64 r.s,.int .u32 r.g] 41)))
  have HVD:=hid (HVC.out.keeps ((Keeps.refl (fun _=>False) _).alloc (.cells #[.int .i64 r.s,.int .u32 r.g] 41)) (fun _ _ _ _ h=>h))
  have HQD:=hid (alloc_old (o:=.cells #[.int .i64 r.s,.int .u32 r.g] 41) HQOC.out)
  have hkl:q.keys.length≤5000:=by unfold Qe.keys;rw [List.length_map];exact hn
  clear hn
  clear HQR HQP
  subst hwb
  subst hwa
  subst hpv
  go_enter Tryz.func81,Tryz.ntmps81
  go_wp2_with (first
   | (at_builtin;refine wpList_append_refs _ rfl _ _ rfl base _ _ q.keys [r] rfl rfl HVD.out HRO.out (by rw [List.length_singleton];omega) (by rw [World.size_alloc];omega) ?_;intro v5 w5 hr5 hk5 ho5;have q5:=block_keep HQD.out hk5 hvo;obtain⟨p5,c5,rfl⟩:=hr5.refs.slice;rw [show (q.keys ++ [r]).length=q.keys.length+1 from by simp] at hr5 ho5;obtain⟨z0,zf,zl⟩:=cells1 q5;have HR5:=hid hr5;have HK5:=hid hk5;have HO5:=hid ho5;have HQ5:=hid q5;clear hr5 hk5 ho5 q5)
   | fail)
  go_end0
  have e:addq q r p=q ++ [(r,p)]:=if_neg HQ.out
  have ek:(addq q r p).keys=q.keys ++ [r]:=by rw [e];simp [Qe.keys]
  have eq:QV (addq q r p)=QV q ++ [(r,p.val)]:=by rw [e];simp [QV]
  rw [ek,eq]
  refine⟨rfl,_,set_block HQ5.out 0 _,?_,?_,?_,?_⟩
  ·exact HR5.out.keeps (keeps_set1 _ _ _ _) (fun k _ _ hk h=>own_ne HR5.out HQ5.out (by decide) (by rw [hk,h]))
  ·refine ((HMC.out.keeps ((Keeps.refl (fun _=>False) _).alloc _) (fun h=>h)).keeps HK5.out hvm).keeps (keeps_set1 _ _ _ _) ?_
   exact fun h=>hne.2 h.symm
  ·rcases HO5.out with h | h
   ·exact .inl h
   ·exact .inr ⟨_,h,by rw [World.size_alloc];exact Nat.le_succ_of_le (Nat.le_trans KB.out.size HKC.out.size)⟩
  ·refine Keeps.setCell ?_ (.inl (.inl rfl)) _
   refine ((KB.out.trans' HKC.out (U:=fun y=>y=Bo∨y=bm∨(Value.slice pv q.keys.length cv).ownBlock=some y) (fun _ _ h=>h.elim) (fun y _ h=>.inr (.inl h))).alloc _).trans' HK5.out (fun _ _ h=>h) (fun y _ h=>.inr (.inr h))
end Go.Proofs.YtkpnmajocgcccaaGreat
