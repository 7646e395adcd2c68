import Derived.Test.YtnlkfbndlngjaaaGreatMgR
set_option maxHeartbeats 2000000
set_option maxRecDepth 100000
namespace Go.Proofs.YtnlkfbndlngjaaaGreat
open Go.RowKit
attribute [local go_sem] Oper.semAt_some
theorem Bf.list_len (B:Bf):B.list.length=B.n:=by simp [Bf.list]
theorem Bf.list_get {B:Bf} {k:Nat} (h:k<B.n):B.list[k]?=some (B.f ((B.from'+k) % B.size)):=by
 simp [Bf.list,List.getElem?_range h]
theorem take_get {α:Type} {l:List α} {k:Nat} {x:α} (h:l[k]?=some x):l=l.take k ++ x :: l.drop (k+1)∧l.take k ++ [x]=l.take (k+1):=by
 obtain⟨hk,rfl⟩:=List.getElem?_eq_some_iff.1 h
 exact⟨by rw [List.getElem_cons_drop,List.take_append_drop],by rw [List.take_append_getElem]⟩
theorem bfirst_any (b B1 B2:Nat) (B:Bf):
 Gives Tryz.prog 247 #[.pointer (some ⟨B1,0,none⟩),.pointer (some ⟨B2,0,none⟩)] encI B.list
  (fun W=>W.cell? ⟨B1,0,none⟩=some (.int .i64 64)∧W.cell? ⟨B2,0,none⟩=some (.pointer (some ⟨b,0,none⟩))∧BfAt W b B) (fun _=>False):=by
 intro l J Jx W hJ hJx hRd hY h0
 obtain⟨c1,c2,c,hc,hC⟩:=hRd _ _ h0
 have c3:=cell_at hc hC.n
 have h64:B.n≤64:=Nat.le_trans hC.nn hC.s2
 have hmin:min (64:Int) (B.n:Int)=(B.n:Int):=by omega
 have HJ:=hid hJ;have H0:=hid h0;have HR:=hid hRd;have HY:=hid hY
 clear hJ hRd hY h0 hc hC hJx
 refine (callsIn_wide (n:=0)).1 ?_
 refine callsIn_of_wp Tryz.func247 rfl trivial ?_ rfl
 simp only [Tryz.ntmps247,List.size_toArray,List.length_cons,List.length_nil,Nat.reduceAdd,Nat.reduceSub,Array.replicate_succ,Array.replicate_zero,List.push_toArray,List.append_toArray,List.nil_append,List.cons_append]
 gi_wp2_with fail
 refine wpIn_wide.2 ?_
 go_quiet (fail)
 go_wp2_with fail
 gi_wp2_with fail
 all_goals try (have h6:(64:Int)=(B.n:Int):=by omega
                rw [h6]
                clear h6)
 all_goals
  gi_loopw [11] (fun i wr=>∃ k:Nat,k≤B.n∧i = .int .i64 k∧J (B.list.take k) wr) (fun i _=>B.n - (intOf i).toNat)
  case atStart=>exact⟨0,Nat.zero_le _,rfl,HJ.out _ _ _ H0.out ((Keeps.refl _ _).drewN _)⟩
  case round=>
   obtain⟨k,hk,rfl,hj⟩:=hrel
   clear c1 c2 c3 H0
   by_cases hlt:k<B.n
   ·obtain⟨c1,c2,c,hc,hC⟩:=HR.out _ _ hj
    have hs1:=hC.s1
    have hs2:=hC.s2
    have hff:=hC.ff
    have hm:(B.from'+k) % B.size<B.size:=Nat.mod_lt _ (by omega)
    have hx:=Bf.list_get hlt
    obtain⟨i,hi⟩:∃ i,(B.from'+k) % B.size=i:=⟨_,rfl⟩
    rw [hi] at hx hm
    have d1:=cell_at hc hC.from'
    have d2:=cell_at hc hC.size
    have d4:=cell_at hc (hC.row i (by omega))
    have hl:=lt_block hc
    have hb1:=World.block_lt_of_cell? _ _ c1
    have hb2:=World.block_lt_of_cell? _ _ c2
    have hlt':(k:Int)<(B.n:Int):=by omega
    have hI0:(0:Int)≤i:=by omega
    have hI1:(i:Int)<64:=by omega
    have hz:¬ B.size=0:=by omega
    have hw2:IntKind.i64.wrap ((B.from':Int)+(k:Int))=(B.from':Int)+(k:Int):=IntWalk.i64_in _ (by omega)
    have hmod:((B.from':Int)+(k:Int)) % (B.size:Int)=(i:Int):=by rw [← hi];simp
    have htm:((B.from':Int)+(k:Int)).tmod (B.size:Int)=(i:Int):=by rw [Int.tmod_eq_emod_of_nonneg (by omega),hmod]
    obtain⟨hsp,htk⟩:=take_get hx
    have hJ1:=HJ.out _ _ (World.drew wr) hj ((Keeps.refl _ _).drew)
    obtain⟨fn,tmps,assign,body,hy,hR⟩:=HY.out _ _ _ _ hsp hJ1
    have HTK:=hid htk
    clear hc hC hsp hJ1 hj htk hx hi
    dsimp only [encI] at hy
    gi_wp2_with fail
    refine wpIn_region_still 17 (by kernel_rfl) (by kernel_rfl) ?_
    simp only [List.take_succ_cons,List.take_zero,List.drop_succ_cons,List.drop_zero]
    repeat still_step
    try refine wpStill_nil ?_
    change wpListIn _ _ _ _ _ _ _ (World.drew _)
    gi_wp2_with fail
    refine⟨rfl,hR.mono ?_⟩
    rintro e W' (⟨rfl,hJ'⟩ | ⟨rfl,hJx'⟩)
    ·rw [HTK.out] at hJ'
     gi_wp2_with fail
     exact⟨⟨k+1,by omega,by go_num,hJ'⟩,by simp [intOf];omega⟩
    ·gi_wp2_with fail
     refine bodyPost_ret (results_none rfl _ _ _) rfl ?_
     exact⟨⟨_,rfl⟩,.inr hJx'⟩
   ·have hnl:¬ (k:Int)<(B.n:Int):=by omega
    have HJE:=hid hj
    clear hj
    gi_wp2_with fail
    go_end0
    refine⟨⟨_,rfl⟩,.inl ?_⟩
    have:=HJE.out
    rw [show k=B.n by omega,← Bf.list_len,List.take_length] at this
    exact this
end Go.Proofs.YtnlkfbndlngjaaaGreat
namespace Go.Proofs.YtnlkfbndlngjaaaGreat
open Go.RowKit
attribute [local go_sem] Oper.semAt_some
theorem BfC.drain {c:Array Value} {B:Bf} (h:BfC c B):
 BfC ((c.setIfInBounds 65 (.int .i64 ((B.from'+B.n) % B.size:Nat))).setIfInBounds 66 (.int .i64 0)) B.drain:=by
 have hs:=h.sz
 have h1:=h.s1
 refine⟨by simp [hs],?_,?_,?_,?_,?_,h.s1,h.s2,Nat.zero_le _,Nat.mod_lt _ (by omega)⟩
 ·intro i hi;rw [Array.getElem?_setIfInBounds_ne (by omega),Array.getElem?_setIfInBounds_ne (by omega)];exact h.row i hi
 ·rw [Array.getElem?_setIfInBounds_ne (by omega),Array.getElem?_setIfInBounds_ne (by omega)];exact h.size
 ·rw [Array.getElem?_setIfInBounds_ne (by omega),Array.getElem?_setIfInBounds_self_of_lt (by omega)];rfl
 ·rw [Array.getElem?_setIfInBounds_self_of_lt (by simp;omega)];rfl
 ·rw [Array.getElem?_setIfInBounds_ne (by omega),Array.getElem?_setIfInBounds_ne (by omega)];exact h.whole
theorem bdrain_any (b:Nat) (B:Bf) (w:World) (h:BfAt w b B):
 Calls Tryz.prog 120 #[.pointer (some ⟨b,0,none⟩),.int .i64 64] w fun e w'=>∃ v,e = .returned (.tuple #[v,.int .i64 0])∧IRow w' w.heap.size v B.list∧Keeps (fun y=>y=b) w w'∧BfAt w' b B.drain:=by
 obtain⟨ii,hi1,hi2,hi3,hi4⟩:=int_info
 have HV:=hid (fun (w':World) (hk:Keeps (fun _=>False) w w')=>bmade b B w' (h.keeps hk (fun h=>h)))
 have HK:=hid (fun (w':World) (hk:Keeps (fun _=>False) w w')=>h.keeps hk (fun h=>h))
 have hbl:=h.lt
 have hll:B.list.length≤64:=by
  rw [Bf.list_len]
  obtain⟨c,_,hC⟩:=h
  exact Nat.le_trans hC.nn hC.s2
 have HLL:=hid hll
 clear h hll
 refine (callsIn_wide (n:=0)).1 ?_
 refine callsIn_of_wp_marks Tryz.func120 rfl trivial ?_ rfl
 simp only [Tryz.ntmps120,List.size_toArray,List.length_cons,List.length_nil,Nat.reduceAdd,Nat.reduceSub,Array.replicate_succ,Array.replicate_zero,List.push_toArray,List.append_toArray,List.nil_append,List.cons_append]
 gi_wp2_with fail
 refine⟨trivial,rfl,callsIn_wide.2 ((HV.out _ (Keeps.refl _ _)).mono ?_)⟩
 rintro e w' ⟨rfl,h'⟩
 obtain rfl:=h'.symm
 gi_wp2_with fail
 refine⟨trivial,rfl,callsIn_wide.2 ((bfirst_call b _).mono ?_)⟩
 rintro e w1 ⟨B1,B2,rfl,hk1,hb1,hb2⟩
 have HB1:=hid hb1;have HB2:=hid hb2
 have HK1:=hid (((Keeps.refl (fun _=>False) w).alloc _).trans hk1)
 have HR1:=hid (block_keep (alloc_new (w:=w)) hk1 (fun h=>h))
 clear hk1 hb1 hb2
 gi_wp2_with fail
 have hsz:=HK1.out.size
 have hl0:=lt_block HR1.out
 have no:∀ y,y≠w.heap.size→y<w1.heap.size→¬ (y=w.heap.size∨Two w1 y):=fun y h1 h2 h=>by rcases h with h | h;exact h1 h;exact not_two h2 h
 have hb12:B1≠w.heap.size∧B2≠w.heap.size:=by
  have q:=HR1.out
  exact⟨fun e=>by have:=HB1.out;rw [e,q] at this;simp at this,fun e=>by have:=HB2.out;rw [e,q] at this;simp at this⟩
 have HB12:=hid hb12
 have HNO:=hid no
 clear hb12 no
 refine wp_over (gf:=247) (lb:=#[.pointer (some ⟨B1,0,none⟩),.pointer (some ⟨B2,0,none⟩)]) rfl (enters_of Tryz.func247 (by kernel_rfl) rfl) (bfirst_any b B1 B2 B) (fun _=>rfl)
  (fun pre W=>∃ v,W.heap[w.heap.size]?=some (.cells #[v] 200)∧IRow W (w1.heap.size+2) v pre∧pre.length≤256∧Keeps (fun y=>y=w.heap.size∨Two w1 y) w1 W) (fun _ _=>False)
  ?hI (fun _ _ _ h _=>h) ?hRd (fun _ _ h=>h) ⟨_,HR1.out,IRow.nil _ _,by simp,Keeps.refl _ _⟩ ?body ?done ?stop
 case stop=>exact fun _ _ h=>h.elim
 case hI=>
  rintro pre W W' ⟨v,h1,h2,h3,h4⟩ hk
  have hk':Keeps (Two w1) W W':=hk.mono (fun _ _ h=>h.elim (fun h=>h.elim) (fun h=>h))
  exact⟨v,block_keep h1 hk' (not_two hl0),h2.keeps hk' (fun k h1 _ _ h=>by rcases h with h | h <;> omega),h3,h4.trans (hk'.mono (fun _ _ h=>.inr h))⟩
 case hRd=>
  rintro pre W ⟨v,h1,h2,h3,h4⟩
  exact⟨cell_at (block_keep HB1.out h4 (HNO.out _ HB12.out.1 (lt_block HB1.out))) rfl,cell_at (block_keep HB2.out h4 (HNO.out _ HB12.out.2 (lt_block HB2.out))) rfl,(HK.out _ HK1.out).keeps h4 (HNO.out _ (by omega) (by omega))⟩
 case body=>
  rintro l pre x suf W hx ⟨v,h1,h2,h3,h4⟩ hsW
  simp only [encI,List.zip_toArray,List.zip_cons_cons,List.zip_nil_left]
  gi_wp2_with fail
  refine⟨Keeps.refl _ _,fun W2 hk2=>?_⟩
  have hbk:Keeps (Two w1) W W2:=hk2
  have hlen:pre.length+1≤256:=by
   have h5:=congrArg List.length hx
   have h6:=HLL.out
   simp at h5
   omega
  have q1:=block_keep h1 hbk (not_two hl0)
  have hr:=h2.keeps hbk (fun k h1 _ _ h=>by rcases h with h | h <;> omega)
  have hsz2:=hk2.size
  have c1:=cell_at (i:=0) q1 rfl
  have f1:=frozen_block q1 0
  have hb0:w.heap.size<W2.heap.size:=by omega
  have HR:=hid hr;have HX:=hid hx;have HBK:=hid hbk;have H4:=hid h4;have Q1:=hid q1
  have HLen:=hid hlen
  clear hr hx hbk h4 h1 h2 h3 q1 hk2 hlen
  gi_wp2_with (first
   | (gi_at_builtin;refine wpListIn_append_own _ rfl _ _ 200 rfl (w1.heap.size+2) 3 ii (.int .i64 0) 1 8 Tryz.underlying200 hi1 hi2 hi3 hi4 rfl (by decide) _ _ _ rfl (World.ownsRow.alloc HR.out _) ⟨W2.heap.size,0,none⟩ 1 1 [.int .i64 x] rfl rfl ?c1 ?c2 ?c3 ?c4 ?c5 ?_)
   | fail)
  case c1=>
   intro j u hj
   match j,hj with
   | 0,hj=>simp at hj;subst hj;simp [Addr.add]
  case c2=>intro u hu;simp at hu;subst hu;rfl
  case c3=>have:=HLen.out;simp [maxLen];omega
  case c4=>have:=HLen.out;simp;omega
  case c5=>simp;omega
  intro v' w3 hown hgr _
  obtain⟨p',cap',hv'⟩:=own_shape hown
  have hro:=HR.out.lt
  have hgk:=grown_keeps hgr
  have HR3:=hid (show IRow w3 (w1.heap.size+2) v' (pre ++ [x]) by unfold IRow;simpa using hown)
  have q3:=block_keep (alloc_old (o:=.cells #[.int .i64 x] 3) Q1.out) hgk (fun h=>by have:=hro _ h;omega)
  have HVV:=hid hv'
  have HG:=hid hgk;have HO:=hid hro
  have c3:=cell_at (i:=0) q3 rfl
  have f3:=frozen_block q3 0
  have Q3:=hid q3
  clear hown hgr hgk q3 hro hv'
  obtain rfl:=HVV.out
  gi_wp2_with fail
  have hsz3:=HG.out.size
  simp only [World.size_alloc] at hsz3
  have kk:Keeps (fun k=>¬ Two w1 k) W2 (w3.setCell ⟨w.heap.size,0,none⟩ (.slice p' (pre.length+1) cap')):=
   (((Keeps.refl (fun k=>¬ Two w1 k) W2).alloc _).trans' HG.out (U:=fun k=>¬ Two w1 k) (fun _ _ h=>h) (fun k hk h=>by
     have:=HO.out k h
     intro h';rcases h' with h' | h' <;> omega)).setCell (.inl (not_two hl0)) _
  refine⟨kk,_,set_block Q3.out 0 _,HR3.out.keeps (keeps_set1 _ _ _ _) (fun k h1 _ _ h=>by omega),by simpa using HLen.out,?_⟩
  have k1:Keeps (fun y=>w1.heap.size≤y) W2 w3:=((Keeps.refl (fun y=>w1.heap.size≤y) W2).alloc _).trans (HG.out.mono (fun k hk h=>by have:=HO.out k h;simp;omega))
  have k2:Keeps (fun y=>y=w.heap.size∨w1.heap.size≤y) w1 (w3.setCell ⟨w.heap.size,0,none⟩ (.slice p' (pre.length+1) cap')):=
   ((H4.out.trans' HBK.out (U:=fun y=>y=w.heap.size∨Two w1 y) (fun _ _ h=>h) (fun _ _ h=>.inr h)).trans' k1 (U:=fun y=>y=w.heap.size∨w1.heap.size≤y) (fun y _ h=>by rcases h with h | h | h <;> omega) (fun _ _ h=>.inr h)).setCell (.inl (.inl rfl)) _
  exact k2.mono (fun y hy h=>by rcases h with h | h;exact .inl h;omega)
 case done=>
  rintro W ⟨v,q1,hr,_,h4⟩ hD
  obtain⟨p,cap,hv⟩:=own_shape hr
  rw [Bf.list_len] at hv
  subst hv
  have hrl:=hr.lt
  obtain⟨c,hc,hC⟩:=(HK.out _ HK1.out).keeps h4 (HNO.out _ (by omega) (by omega))
  have c10:=cell_at (i:=0) q1 rfl
  have d1:=cell_at hc hC.from'
  have d2:=cell_at hc hC.size
  have d3:=cell_at hc hC.n
  have f1:=frozen_block hc 65
  have f2:=frozen_block hc 66
  have hbl2:=lt_block hc
  have h1:=hC.s1
  have h64:=hC.s2
  have hff:=hC.ff
  have hnn:=hC.nn
  have hz:¬ B.size=0:=by omega
  obtain⟨m,hm⟩:∃ m,(B.from'+B.n) % B.size=m:=⟨_,rfl⟩
  have hw2:IntKind.i64.wrap ((B.from':Int)+(B.n:Int))=(B.from':Int)+(B.n:Int):=IntWalk.i64_in _ (by omega)
  have hmod:((B.from':Int)+(B.n:Int)) % (B.size:Int)=(m:Int):=by rw [← hm];simp
  have htm:((B.from':Int)+(B.n:Int)).tmod (B.size:Int)=(m:Int):=by rw [Int.tmod_eq_emod_of_nonneg (by omega),hmod]
  have hdr:=hC.drain
  rw [hm] at hdr
  have HKK:=hid h4;have HD:=hid hD;have HB:=hid hc;have HC:=hid hC;have HDR:=hid hdr;have HROW:=hid hr;have HRL:=hid hrl
  have Q1:=hid q1
  clear q1 h4 hD hc hC hdr hr hrl hm
  gi_wp2_with fail
  refine wpIn_wide.2 ?_
  go_still_tail 13,(by kernel_rfl)
  change wpList _ _ _ _ _ (World.drew _)
  go_wp2_with fail
  refine wpIn_wide.2 ?_
  obtain⟨W2,hW2⟩:∃ W2,(W.setCell ⟨b,65,none⟩ (.int .i64 m)).drew=W2:=⟨_,rfl⟩
  have k2:Keeps (fun y=>y=b) W W2:=by rw [← hW2];exact (keeps_set1 _ _ _ _).drew
  have q2:(W.setCell ⟨b,65,none⟩ (.int .i64 m)).drew.heap[b]?=_:=set_block HB.out 65 (.int .i64 m)
  rw [hW2] at q2 ⊢
  have hne:b≠w.heap.size:=by omega
  have p2:=block_keep Q1.out k2 hne.symm
  have e10:=cell_at (i:=0) p2 rfl
  have hs68:=HC.out.sz
  have e3:=cell_at q2 ((Array.getElem?_setIfInBounds_ne (by omega)).trans HC.out.n)
  have g2:=frozen_block q2 66
  have hbl3:=lt_block q2
  have HW2:=hid hW2;have K2:=hid k2;have HQ2:=hid q2;have HP2:=hid p2
  clear hW2 k2 q2 p2 c10 d1 d2 d3 f1 f2 hbl2
  go_upto_region 10 with (fail)
  go_still_tail 7,(by kernel_rfl)
  change wpList _ _ _ _ _ (World.drew _)
  go_wp2_with fail
  gi_wp2_with fail
  have k4:Keeps (fun y=>y=b) W2 (W2.setCell ⟨b,66,none⟩ (.int .i64 0)).drew:=(keeps_set1 _ _ _ _).drew
  have q4:(W2.setCell ⟨b,66,none⟩ (.int .i64 0)).drew.heap[b]?=_:=set_block HQ2.out 66 (.int .i64 0)
  have k24:=K2.out.trans k4
  refine leave_mark (block_keep (block_keep HD.out K2.out (by omega)) k4 (by omega)) fun W' hk'=>?_
  refine⟨.tuple #[.slice p B.n cap,.int .i64 0],by simp [results,Tryz.results120,go_sem],.slice p B.n cap,rfl,?_,?_,_,block_keep q4 hk' (by omega),HDR.out⟩
  ·exact ((HROW.out.keeps k24 (fun k h1 _ _ h=>by omega)).keeps hk' (fun k h1 _ _ h=>by omega)).mono (by omega)
  have kA:Keeps (fun y=>y=b∨w.heap.size≤y) w W:=HK1.out.up.trans' HKK.out (U:=fun y=>y=b∨w.heap.size≤y) (fun _ _ h=>h) (fun y hy h=>absurd h (HNO.out y (by omega) (by omega)))
  exact ((kA.trans' (K2.out.trans k4) (U:=fun y=>y=b∨w.heap.size≤y) (fun _ _ h=>h) (fun _ _ h=>.inl h)).trans' hk' (U:=fun y=>y=b∨w.heap.size≤y) (fun _ _ h=>h) (fun y hy h=>.inr (by omega))).mono (fun y hy h=>by rcases h with h | h;exact h;omega)
end Go.Proofs.YtnlkfbndlngjaaaGreat
namespace Go.Proofs.YtnlkfbndlngjaaaGreat
open Go.RowKit
abbrev boxedR (w:World) (r q:Rf):World:=(w.alloc (.cells #[.int .i64 r.s,.int .u32 r.g] 34)).alloc (.cells #[.int .i64 q.s,.int .u32 q.g] 34)
theorem boxedR_keeps (w:World) (r q:Rf):Keeps (fun _=>False) w (boxedR w r q):=((Keeps.refl _ w).alloc _).alloc _
theorem neq_no (r:Rf) (w:World):Sem.run Tryz.prog (binOp .neq 34 (.agg #[.int .i64 r.s,.int .u32 r.g]) (.agg #[.int .i64 0,.int .u32 0])) w = .ok (.bool r.nz) w:=neq_ref w r.s r.g 0 0
def pickR (r q:Rf):Nat→Rf
 | 0=>r
 | _=>q
theorem pairR_0 (a b c d:Int) (w:World):Sem.run Tryz.prog (Instr.index 225 (.agg #[.int .i64 a,.int .u32 b,.int .i64 c,.int .u32 d]) (.int .i64 0)) w = .ok (.agg #[.int .i64 a,.int .u32 b]) w:=by kernel_rfl
theorem pairR_1 (a b c d:Int) (w:World):Sem.run Tryz.prog (Instr.index 225 (.agg #[.int .i64 a,.int .u32 b,.int .i64 c,.int .u32 d]) (.int .i64 1)) w = .ok (.agg #[.int .i64 c,.int .u32 d]) w:=by kernel_rfl
theorem pairR_j (r q:Rf) (j:Nat) (hj:j<2) (w:World):Sem.run Tryz.prog (Instr.index 225 (.agg #[.int .i64 r.s,.int .u32 r.g,.int .i64 q.s,.int .u32 q.g]) (.int .i64 j)) w = .ok (.agg #[.int .i64 (pickR r q j).s,.int .u32 (pickR r q j).g]) w:=by
 match j,hj with
 | 0,_=>exact pairR_0 r.s r.g q.s q.g w
 | 1,_=>exact pairR_1 r.s r.g q.s q.g w
theorem mwrote_rangeR (m:Nat) (i:Int) (r q:Rf) (L:MkL) (M:Mk) (w:World) (h:MkIn w m L M) (hi:i<0∨(M.K.many:Int)≤i):
 Calls Tryz.prog 77 #[.pointer (some ⟨m,0,none⟩),.int .i64 i,.agg #[.int .i64 r.s,.int .u32 r.g],.agg #[.int .i64 q.s,.int .u32 q.g]] w fun e w'=>e = .returned (.int .i64 3)∧Keeps (fun _=>False) w w':=by
 have HB:=hid (boxedR_keeps w r q)
 have hB:=h.keeps0 HB.out
 have HV:=hid (mvalid m L M _ hB)
 obtain⟨d0,d1,d2,d3,d4,d5,dl⟩:=cells6 hB.own
 have hm:=h.clk.m4
 clear h hB
 by_cases h0:i<0
 ·clear hi
  go_enter Tryz.func77,Tryz.ntmps77
  go_wp2_with fail
  refine (HV.out).mono ?_
  rintro e w' ⟨rfl,h'⟩
  obtain rfl:=h'.symm
  go_wp2_with fail
  go_ret
  exact⟨rfl,HB.out⟩
 ·have h1:(M.K.many:Int)≤i:=by omega
  clear hi
  go_enter Tryz.func77,Tryz.ntmps77
  go_wp2_with fail
  refine (HV.out).mono ?_
  rintro e w' ⟨rfl,h'⟩
  obtain rfl:=h'.symm
  go_wp2_with fail
  go_ret
  exact⟨rfl,HB.out⟩
theorem mwrote_argR (m i u:Nat) (r q:Rf) (L:MkL) (M:Mk) (w:World) (h:MkIn w m L M) (hi:i<M.K.many) (hu:u<2) (hk:∀ j,j<u→M.known (pickR r q j)=true) (hb:M.known (pickR r q u)=false):
 Calls Tryz.prog 77 #[.pointer (some ⟨m,0,none⟩),.int .i64 i,.agg #[.int .i64 r.s,.int .u32 r.g],.agg #[.int .i64 q.s,.int .u32 q.g]] w fun e w'=>e = .returned (.int .i64 2)∧Keeps (fun _=>False) w w':=by
 have HB:=hid (boxedR_keeps w r q)
 have hB:=h.keeps0 HB.out
 have HV:=hid (mvalid m L M _ hB)
 have HC:=hid (fun (w':World) (hk:Keeps (fun _=>False) w w')=>cells6 (h.keeps0 hk).own)
 obtain⟨d0,d1,d2,d3,d4,d5,dl⟩:=cells6 hB.own
 have hm:=h.clk.m4
 have h12:=h.pt.n12
 have hi1:decide ((i:Int)<0)=false:=by simp
 have hi2:decide (M.K.many≤i)=false:=by simp;omega
 have HKN:=hid hk;have HBD:=hid hb;have HU:=hid hu
 clear h hB hk hb hu
 go_enter Tryz.func77,Tryz.ntmps77
 go_wp2_with fail
 refine (HV.out).mono ?_
 rintro e w' ⟨rfl,h'⟩
 obtain rfl:=h'.symm
 go_wp2_with fail
 go_loopw [35] (fun ix wr=>∃ j:Nat,j≤u∧ix = .int .i64 j∧Keeps (fun _=>False) w wr∧wr.heap[w.heap.size+2]?=some (.cells #[.int .i64 r.s,.int .u32 r.g,.int .i64 q.s,.int .u32 q.g] 225)) (fun ix _=>2 - (intOf ix).toNat)
 case atStart=>exact⟨0,by omega,rfl,HB.out.alloc _,by have:=@alloc_new (boxedR w r q) (.cells #[.int .i64 r.s,.int .u32 r.g,.int .i64 q.s,.int .u32 q.g] 225);simpa using this⟩
 case round=>
  obtain⟨j,hj,rfl,hk,q9⟩:=hrel
  have hj2:j<2:=by have:=HU.out;omega
  obtain⟨e0,e1,e2,e3,e4,e5,el⟩:=HC.out _ hk
  have HK:=hid hk;have Q9:=hid q9;have l9:=lt_block q9
  have hidx:=pairR_j r q j hj2
  have hlt':(j:Int)<2:=by omega
  have hj0:(0:Int)≤j:=by omega
  clear hk q9 d0 d1 d2 d3 d4 d5 dl
  by_cases hju:j=u
  ·have hb:=HBD.out
   rw [← hju] at hb
   obtain⟨z,hz⟩:∃ z,pickR r q j=z:=⟨_,rfl⟩
   rw [hz] at hidx hb
   have hn:z.nz=true∧(z.s<0∨(M.P.n:Int)≤z.s):=by
    simp only [Mk.known,Bool.or_eq_false_iff,Bool.not_eq_false',Bool.and_eq_false_iff,decide_eq_false_iff_not] at hb
    exact⟨hb.1,by omega⟩
   have nz:=fun w=>(neq_no z w).trans (by rw [hn.1])
   obtain⟨_,hs⟩:=hn
   clear hz hb hju hj
   by_cases hx0:z.s<0
   ·go_wp2_with fail
    go_quiet (fail)
    go_wp2_with fail
    go_ret
    refine⟨rfl,?_⟩
    repeat (first | (with_reducible exact HK.out) | with_reducible refine Keeps.setCell ?_ ?_ _ | with_reducible refine Keeps.alloc ?_ _ | with_reducible refine Keeps.drewN ?_ _ | with_reducible refine Keeps.drew ?_)
    all_goals first | (left;simp;done) | (left;simp;omega) | (right;simp;done) | (right;simp;omega)
   ·have hx1:(M.P.n:Int)≤z.s:=by omega
    go_wp2_with fail
    go_quiet (fail)
    go_wp2_with fail
    go_ret
    refine⟨rfl,?_⟩
    repeat (first | (with_reducible exact HK.out) | with_reducible refine Keeps.setCell ?_ ?_ _ | with_reducible refine Keeps.alloc ?_ _ | with_reducible refine Keeps.drewN ?_ _ | with_reducible refine Keeps.drew ?_)
    all_goals first | (left;simp;done) | (left;simp;omega) | (right;simp;done) | (right;simp;omega)
  ·have hb:=HKN.out j (by omega)
   have hju':j+1≤u:=by omega
   obtain⟨z,hz⟩:∃ z,pickR r q j=z:=⟨_,rfl⟩
   rw [hz] at hidx hb
   have HJU:=hid hju'
   clear hz hju hju' hj
   rcases hn:z.nz with _ | _
   ·have nz:=fun w=>(neq_no z w).trans (by rw [hn])
    clear hb hn
    go_wp2_with fail
    go_quiet (fail)
    go_wp2_with fail
    refine⟨⟨j+1,HJU.out,by go_num,HK.out.trans (by repeat (first | exact Keeps.refl _ _ | apply Keeps.alloc | apply Keeps.drewN | apply Keeps.drew)),?_⟩,by simp [intOf];omega⟩
    exact block_keep Q9.out (show Keeps (fun _=>False) wr _ from (by repeat (first | exact Keeps.refl _ _ | apply Keeps.alloc | apply Keeps.drewN | apply Keeps.drew))) (fun h=>h)
   ·have nz:=fun w=>(neq_no z w).trans (by rw [hn])
    obtain⟨h0,h1⟩:=Mk.known_nz hb hn
    have hz0:decide (z.s<0)=false:=by simp;omega
    have hz1:decide ((M.P.n:Int)≤z.s)=false:=by simp;omega
    clear hb hn h0 h1
    go_wp2_with fail
    go_quiet (fail)
    go_wp2_with fail
    refine⟨⟨j+1,HJU.out,by go_num,HK.out.trans (by repeat (first | exact Keeps.refl _ _ | apply Keeps.alloc | apply Keeps.drewN | apply Keeps.drew)),?_⟩,by simp [intOf];omega⟩
    exact block_keep Q9.out (show Keeps (fun _=>False) wr _ from (by repeat (first | exact Keeps.refl _ _ | apply Keeps.alloc | apply Keeps.drewN | apply Keeps.drew))) (fun h=>h)
def Mk.notesR (M:Mk) (i:Nat) (r q:Rf):Nat→Mk
 | 0=>M
 | 1=>M.note1 i r
 | _=>(M.note1 i r).note1 i q
theorem Mk.notesR_P (M:Mk) (i:Nat) (r q:Rf) (j:Nat):(M.notesR i r q j).P.n=M.P.n∧(M.notesR i r q j).K=M.K:=by
 match j with
 | 0=>exact⟨rfl,rfl⟩
 | 1=>exact⟨(M.note1_K i r).2,(M.note1_K i r).1⟩
 | _+2=>exact⟨((M.note1 i r).note1_K i q).2.trans (M.note1_K i r).2,((M.note1 i r).note1_K i q).1.trans (M.note1_K i r).1⟩
theorem Mk.notesR_succ (M:Mk) (i:Nat) (r q:Rf) (j:Nat) (hj:j<2):M.notesR i r q (j+1)=(M.notesR i r q j).note1 i (pickR r q j):=by
 match j,hj with
 | 0,_=>rfl
 | 1,_=>rfl
theorem mwrote_okR (m i:Nat) (r q:Rf) (L:MkL) (M:Mk) (w:World) (h:MkIn w m L M) (hi:i<M.K.many) (hkn:∀ j,M.known (pickR r q j)=true):
 Calls Tryz.prog 77 #[.pointer (some ⟨m,0,none⟩),.int .i64 i,.agg #[.int .i64 r.s,.int .u32 r.g],.agg #[.int .i64 q.s,.int .u32 q.g]] w fun e w'=>e = .returned (.int .i64 0)∧Keeps (fun y=>L.foot M.K.many y) w w'∧MkIn w' m L (if M.K.bar i=true then (M.note1 i r).note1 i q else M):=by
 have HB:=hid (boxedR_keeps w r q)
 have hB:=h.keeps0 HB.out
 have HV:=hid (mvalid m L M _ hB)
 have HC:=hid (fun (w':World) (hk:Keeps (fun _=>False) w w')=>cells6 (h.keeps0 hk).own)
 obtain⟨d0,d1,d2,d3,d4,d5,dl⟩:=cells6 hB.own
 have hm:=h.clk.m4
 have h12:=h.pt.n12
 have hi1:decide ((i:Int)<0)=false:=by simp
 have hi2:decide (M.K.many≤i)=false:=by simp;omega
 have HKN:=hid hkn
 have HM:=hid h
 have HBA:=hid (fun (w':World) (hk:Keeps (fun _=>False) w w')=>phBarrier L.c M.K i w' (h.clk.keeps hk (fun h=>h)) hi)
 obtain⟨N,hN⟩:∃ N,(if M.K.bar i=true then (M.note1 i r).note1 i q else M)=N:=⟨_,rfl⟩
 have HN:=hid hN
 rw [hN]
 clear h hB hkn hN
 go_enter Tryz.func77,Tryz.ntmps77
 go_wp2_with fail
 refine (HV.out).mono ?_
 rintro e w' ⟨rfl,h'⟩
 obtain rfl:=h'.symm
 go_wp2_with fail
 go_loopw [35] (fun ix wr=>∃ j:Nat,j≤2∧ix = .int .i64 j∧Keeps (fun _=>False) w wr∧wr.heap[w.heap.size+2]?=some (.cells #[.int .i64 r.s,.int .u32 r.g,.int .i64 q.s,.int .u32 q.g] 225)) (fun ix _=>2 - (intOf ix).toNat)
 case atStart=>exact⟨0,by omega,rfl,HB.out.alloc _,by have:=@alloc_new (boxedR w r q) (.cells #[.int .i64 r.s,.int .u32 r.g,.int .i64 q.s,.int .u32 q.g] 225);simpa using this⟩
 case round=>
  obtain⟨j,hj,rfl,hk,q9⟩:=hrel
  obtain⟨e0,e1,e2,e3,e4,e5,el⟩:=HC.out _ hk
  have HK:=hid hk;have Q9:=hid q9;have l9:=lt_block q9
  clear hk q9 d0 d1 d2 d3 d4 d5 dl
  by_cases hlt:j<2
  ·have hidx:=pairR_j r q j hlt
   have hb:=HKN.out j
   obtain⟨z,hz⟩:∃ z,pickR r q j=z:=⟨_,rfl⟩
   rw [hz] at hidx hb
   have hlt':(j:Int)<2:=by omega
   have hj0:(0:Int)≤j:=by omega
   clear hz
   rcases hn:z.nz with _ | _
   ·have nz:=fun w=>(neq_no z w).trans (by rw [hn])
    clear hb hn
    go_wp2_with fail
    go_quiet (fail)
    go_wp2_with fail
    refine⟨⟨j+1,by omega,by go_num,HK.out.trans (by repeat (first | exact Keeps.refl _ _ | apply Keeps.alloc | apply Keeps.drewN | apply Keeps.drew)),?_⟩,by simp [intOf];omega⟩
    exact block_keep Q9.out (show Keeps (fun _=>False) wr _ from (by repeat (first | exact Keeps.refl _ _ | apply Keeps.alloc | apply Keeps.drewN | apply Keeps.drew))) (fun h=>h)
   ·have nz:=fun w=>(neq_no z w).trans (by rw [hn])
    obtain⟨h0,h1⟩:=Mk.known_nz hb hn
    have hz0:decide (z.s<0)=false:=by simp;omega
    have hz1:decide ((M.P.n:Int)≤z.s)=false:=by simp;omega
    clear hb hn h0 h1
    go_wp2_with fail
    go_quiet (fail)
    go_wp2_with fail
    refine⟨⟨j+1,by omega,by go_num,HK.out.trans (by repeat (first | exact Keeps.refl _ _ | apply Keeps.alloc | apply Keeps.drewN | apply Keeps.drew)),?_⟩,by simp [intOf];omega⟩
    exact block_keep Q9.out (show Keeps (fun _=>False) wr _ from (by repeat (first | exact Keeps.refl _ _ | apply Keeps.alloc | apply Keeps.drewN | apply Keeps.drew))) (fun h=>h)
  ·have hj2:¬ (j:Int)<2:=by omega
   have HBB:=hid (HBA.out _ HK.out)
   go_wp2_with fail
   refine (HBB.out).mono ?_
   rintro e w' ⟨rfl,h'⟩
   obtain rfl:=h'.symm
   obtain⟨z0,z1,z2,z3,_⟩:=cells4 Q9.out
   rcases hb:M.K.bar i with _ | _
   ·have HWR:=hid (show N=M by rw [← HN.out,hb];rfl)
    clear hb
    go_wp2_with fail
    go_ret
    exact⟨rfl,HK.out.up,by rw [HWR.out];exact HM.out.keeps0 HK.out⟩
   ·have HWR:=hid (show N=M.notesR i r q 2 by rw [← HN.out,hb];rfl)
    clear hb
    go_wp2_with fail
    go_loopw [64] (fun ix wx=>∃ k:Nat,k≤2∧ix = .int .i64 k∧Keeps (fun y=>L.foot M.K.many y) wr wx∧MkIn wx m L (M.notesR i r q k)) (fun ix _=>2 - (intOf ix).toNat)
    case atStart=>exact⟨0,by omega,rfl,Keeps.refl _ _,HM.out.keeps0 HK.out⟩
    case round=>
     obtain⟨k,hk,rfl,hkk,hmm⟩:=hrel
     have HKK:=hid hkk;have HMM:=hid hmm
     obtain⟨hP,hKc⟩:=M.notesR_P i r q k
     clear hkk hmm e0 e1 e2 e3 e4 e5 el z0 z1 z2 z3 hj2
     by_cases hlt:k<2
     ·have hidx:=pairR_j r q k hlt
      have HSUC:=hid (M.notesR_succ i r q k hlt)
      have hb:=HKN.out k
      obtain⟨M',hM'⟩:∃ M',M.notesR i r q k=M':=⟨_,rfl⟩
      obtain⟨z,hz⟩:∃ z,pickR r q k=z:=⟨_,rfl⟩
      rw [hM'] at hP hKc HSUC HMM
      rw [hz] at hidx hb HSUC
      have hlt':(k:Int)<2:=by omega
      have hk0:(0:Int)≤k:=by omega
      clear hz hM'
      rcases hn:z.nz with _ | _
      ·have ez:∀ w,Sem.run Tryz.prog (binOp .eql 34 (.agg #[.int .i64 z.s,.int .u32 z.g]) (.agg #[.int .i64 0,.int .u32 0])) w = .ok (.bool true) w:=fun w=>(eql_no z w).trans (by rw [hn];rfl)
       have HNO:=hid (show M'.note1 i z=M' from if_neg (by rw [hn];simp))
       clear hb hn
       go_wp2_with fail
       refine⟨⟨k+1,by omega,by go_num,HKK.out.trans (Keeps.up (by repeat (first | exact Keeps.refl _ _ | apply Keeps.alloc | apply Keeps.drewN | apply Keeps.drew))),by rw [HSUC.out,HNO.out];exact HMM.out.keeps0 (by repeat (first | exact Keeps.refl _ _ | apply Keeps.alloc | apply Keeps.drewN | apply Keeps.drew))⟩,by simp [intOf];omega⟩
      ·have ez:∀ w,Sem.run Tryz.prog (binOp .eql 34 (.agg #[.int .i64 z.s,.int .u32 z.g]) (.agg #[.int .i64 0,.int .u32 0])) w = .ok (.bool false) w:=fun w=>(eql_no z w).trans (by rw [hn];rfl)
       obtain⟨h0,h1⟩:=Mk.known_nz hb hn
       have HN1:=hid (show M'.note1 i z=M'.note i z.s from if_pos hn)
       clear hb hn
       go_upto_region 18 with (fail)
       obtain⟨w3,hw3⟩:∃ w3,wr.alloc (.cells #[.int .i64 z.s,.int .u32 z.g] 34)=w3:=⟨_,rfl⟩
       have k3:Keeps (fun _=>False) wr w3:=by rw [← hw3];exact (Keeps.refl _ _).alloc _
       have q3:w3.heap[wr.heap.size]?=some (.cells #[.int .i64 z.s,.int .u32 z.g] 34):=by rw [← hw3];exact alloc_new
       rw [hw3]
       have m3:=HMM.out.keeps0 k3
       have HM3:=hid m3
       obtain⟨z0,z1,_,_⟩:=cells2 q3
       obtain⟨d0,d1,d2,d3,d4,d5,dl⟩:=cells6 m3.own
       obtain⟨cur,hr,hcur⟩:=m3.row
       have x0:=cell_at hr (hcur i (by rw [hKc];exact hi))
       have HK3:=hid k3;have Q3:=hid q3
       rw [hP] at d0
       rw [hKc] at d1 d5
       have hiI:(i:Int)<(M.K.many:Int):=by omega
       have hi0:(0:Int)≤i:=by omega
       obtain⟨cb,hbb,_⟩:=id (m3.bf i (by rw [hKc];exact hi))
       have HF:=hid (fun (w':World) (hk:Keeps (fun y=>y=L.bb i) w3 w')=>And.intro (cells6 (block_keep m3.own hk (type_ne m3.own hbb (by decide)))) (And.intro (cell_at (block_keep hr hk (type_ne hr hbb (by decide))) (hcur i (by rw [hKc];exact hi))) (block_keep q3 hk (type_ne q3 hbb (by decide)))))
       have HBF:=hid (m3.bf i (by rw [hKc];exact hi))
       have hBn:(M'.B i).n≤(M'.B i).size:=(by obtain⟨_,_,hC⟩:=HBF.out;exact hC.nn)
       rw [hP,hKc] at HF
       clear hw3 k3 q3 m3 hr hcur hi1 hi2 hbb
       by_cases hfull:(M'.B i).n=(M'.B i).size
       ·have HN:=hid (fun (w':World) (hk:Keeps (fun _=>False) w3 w')=>bnote_full (L.bb i) (M'.B i) z.s w' (HBF.out.keeps hk (fun h=>h)) (by omega) (by omega) hfull)
        go_region_held3 (fun W=>W.cell? ⟨m,5,none⟩=some (.slice (some ⟨L.rb,0,none⟩) M.K.many L.cap)∧W.cell? ⟨L.rb,i,none⟩=some (.pointer (some ⟨L.bb i,0,none⟩))∧W.cell? ⟨wr.heap.size,0,none⟩=some (.int .i64 z.s))
         ((first | exact⟨d5,x0,z0⟩ | exact⟨(HF.out _ hk4).1.2.2.2.2.2.1,(HF.out _ hk4).2.1,(cells2 (HF.out _ hk4).2.2).1⟩))
         (first | (go_at_call 151;refine (HN.out _ (by first | exact (Keeps.refl _ _).drew | exact Keeps.refl _ _)).mono ?_;rintro e w4 ⟨rfl,hk4',hB4⟩;have hk4:Keeps (fun y=>y=L.bb i) w3 w4:=(Keeps.drew (Keeps.refl (fun y=>y=L.bb i) _)).trans hk4'))
        have HK4:=hid hk4
        have HM4:=hid (HM3.out.setB (by rw [hKc];exact hi) hk4 hB4)
        obtain⟨⟨_,_,_,f3,f4,_,fl⟩,_,fz⟩:=HF.out _ hk4
        obtain⟨fz0,_,_,_⟩:=cells2 fz
        have hzt:(z.s.toNat:Int)=z.s:=Int.toNat_of_nonneg h0
        have HSH:=hid (fun (w':World) (hk:Keeps (fun _=>False) w4 w')=>scshade_ok L.p L.s M'.P M'.S z.s.toNat w' (HM4.out.keeps0 hk).pt (HM4.out.keeps0 hk).st (by rw [hP];omega))
        rw [hzt] at HSH
        have HSET:=hid (fun (w1 w2:World) (k1:Keeps (fun _=>False) w4 w1) (k2:Keeps (fun y=>y=L.p∨y=L.s) w1 w2) h1 h2=>(HM4.out.keeps0 k1).setPS (P:=(shd M'.P M'.S z.s.toNat).1) (S:=(shd M'.P M'.S z.s.toNat).2) (shd_n _ _ _) k2 h1 h2)
        have HNO:=hid (show M'.note i z.s=_ from if_pos hfull)
        clear hk4' hk4 hB4 fz hzt hfull z0 z1 d0 d1 d2 d3 d4 d5 x0
        go_upto_region 20 with (fail)
        go_still_tail 10,(by kernel_rfl)
        change wpList _ _ _ _ _ (World.drew _)
        go_wp2_with fail
        refine (HSH.out _ (Keeps.refl _ _).drew).mono ?_
        rintro e w5 ⟨rfl,hk5,hp5,hs5⟩
        have HM5:=hid (HSET.out _ _ (Keeps.refl _ _).drew hk5 hp5 hs5)
        have HK5:=hid hk5
        clear hk5 hp5 hs5
        go_wp2_with fail
        refine⟨⟨k+1,by omega,by go_num,?_,by rw [HSUC.out,HN1.out,HNO.out];exact HM5.out⟩,by simp [intOf];omega⟩
        exact HKK.out.trans (((HK3.out.up.trans' HK4.out (U:=fun y=>L.foot M.K.many y) (fun _ _ h=>h) (fun y _ h=>.inr (.inr (.inr ⟨i,hi,h⟩)))).drew).trans' HK5.out (fun _ _ h=>h) (fun y _ h=>by rcases h with h | h;exact .inr (.inl h);exact .inr (.inr (.inl h))))
       ·have hlt2:(M'.B i).n<(M'.B i).size:=by omega
        have HNO:=hid (show M'.note i z.s=_ from if_neg hfull)
        have HN:=hid (fun (w':World) (hk:Keeps (fun _=>False) w3 w')=>bnote_ok (L.bb i) (M'.B i) z.s w' (HBF.out.keeps hk (fun h=>h)) (by omega) (by omega) hlt2)
        go_region_held3 (fun W=>W.cell? ⟨m,5,none⟩=some (.slice (some ⟨L.rb,0,none⟩) M.K.many L.cap)∧W.cell? ⟨L.rb,i,none⟩=some (.pointer (some ⟨L.bb i,0,none⟩))∧W.cell? ⟨wr.heap.size,0,none⟩=some (.int .i64 z.s))
         ((first | exact⟨d5,x0,z0⟩ | exact⟨(HF.out _ hk4).1.2.2.2.2.2.1,(HF.out _ hk4).2.1,(cells2 (HF.out _ hk4).2.2).1⟩))
         (first | (go_at_call 151;refine (HN.out _ (by first | exact (Keeps.refl _ _).drew | exact Keeps.refl _ _)).mono ?_;rintro e w4 ⟨rfl,hk4',hB4⟩;have hk4:Keeps (fun y=>y=L.bb i) w3 w4:=(Keeps.drew (Keeps.refl (fun y=>y=L.bb i) _)).trans hk4'))
        have HK4:=hid hk4
        have HM4:=hid (HM3.out.setB (by rw [hKc];exact hi) hk4 hB4)
        clear hk4' hk4 hB4 hfull z0 z1 d0 d1 d2 d3 d4 d5 x0
        go_wp2_with fail
        refine⟨⟨k+1,by omega,by go_num,?_,by rw [HSUC.out,HN1.out,HNO.out];exact HM4.out⟩,by simp [intOf];omega⟩
        exact HKK.out.trans (HK3.out.up.trans' HK4.out (U:=fun y=>L.foot M.K.many y) (fun _ _ h=>h) (fun y _ h=>.inr (.inr (.inr ⟨i,hi,h⟩))))
     ·have hk2:¬ (k:Int)<2:=by omega
      obtain rfl:k=2:=by omega
      go_wp2_with fail
      go_ret
      exact⟨rfl,HK.out.up.trans HKK.out,by rw [HWR.out];exact HMM.out⟩
theorem mwrote_any (m:Nat) (i:Int) (r q:Rf) (L:MkL) (M:Mk) (w:World) (h:MkIn w m L M):
 Calls Tryz.prog 77 #[.pointer (some ⟨m,0,none⟩),.int .i64 i,.agg #[.int .i64 r.s,.int .u32 r.g],.agg #[.int .i64 q.s,.int .u32 q.g]] w fun e w'=>e = .returned (.int .i64 (M.wroteR i r q).2)∧Keeps (fun y=>L.foot M.K.many y) w w'∧MkIn w' m L (M.wroteR i r q).1:=by
 unfold Mk.wroteR
 split
 ·rename_i hi
  exact (mwrote_rangeR m i r q L M w h hi).mono fun e w' ⟨h1,h2⟩=>⟨h1,h2.up,h.keeps0 h2⟩
 ·rename_i hi
  obtain⟨i,rfl⟩:∃ j:Nat,i=j:=⟨i.toNat,by omega⟩
  split
  ·rename_i hb
   rcases h1:M.known r with _ | _
   ·exact (mwrote_argR m i 0 r q L M w h (by omega) (by omega) (fun j hj=>by omega) h1).mono fun e w' ⟨h1,h2⟩=>⟨h1,h2.up,h.keeps0 h2⟩
   ·have h2:M.known q=false:=by simpa [h1] using hb
    have h10:∀ j,j<1→M.known (pickR r q j)=true:=fun j hj=>(show j=0 by omega) ▸ h1
    exact (mwrote_argR m i 1 r q L M w h (by omega) (by omega) h10 h2).mono fun e w' ⟨h1,h2⟩=>⟨h1,h2.up,h.keeps0 h2⟩
  ·rename_i hb
   have hb':M.known r=true∧M.known q=true:=by simpa using hb
   have:=mwrote_okR m i r q L M w h (by omega) (fun j=>by unfold pickR;split;exact hb'.1;exact hb'.2)
   rw [Int.toNat_natCast]
   split
   ·rename_i hbar;rw [if_pos hbar] at this;exact this
   ·rename_i hbar;rw [if_neg hbar] at this;exact this
end Go.Proofs.YtnlkfbndlngjaaaGreat
