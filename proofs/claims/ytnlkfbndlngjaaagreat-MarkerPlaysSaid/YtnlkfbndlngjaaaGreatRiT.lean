import Derived.Test.YtnlkfbndlngjaaaGreatRiH
import Derived.Test.YtnlkfbndlngjaaaGreatRiR
import Derived.Test.YtnlkfbndlngjaaaGreatRiX
import Derived.Deep.RegionHeldLaw
set_option maxHeartbeats 2000000
set_option maxRecDepth 100000
namespace Go.Proofs.YtnlkfbndlngjaaaGreat
open Go.RowKit
attribute [local go_sem] Oper.semAt_some
set_option linter.unusedVariables false
set_option linter.unusedSimpArgs false
theorem step_append_bools {ops:Array Oper} {o:Oper} {a:Act} {K:Act→World→Prop} {Q:Exit→Act→World→Prop} {E:Prop} {w:World} (hgd:o.guard=none) (s x:Operand)
 (ho:o.op = .call { callee:=.builtin .append,args:=#[s,x],argTypes:=#[203,203] })
 (base:Nat) (v u:Value) (l m:List Bool) (hs:a.eval s=v) (hx:a.eval x=u) (hv:ORow w base v l) (hu:Bools w u m) (h1:l.length+m.length≤1000000) (hb:base≤w.heap.size)
 (h:∀ v' w',ORow w' base v' (l ++ m)→Keeps (fun k=>v.ownBlock=some k) w w'→(v'.ownBlock=v.ownBlock∨v'.ownBlock=some w.heap.size)→K (a.put o.dst v') w'):
 if Region.wanted o (yielded ops a.tmps)=true then Oper.wp Tryz.prog o a w K Q else E:=by
 have hw:Region.wanted o (yielded ops a.tmps)=true:=by simp [Region.wanted,hgd]
 rw [if_pos hw]
 obtain⟨v',w',hr,h2,h3,h4⟩:=run_append_bools o.type base v u l m w hv hu h1 hb
 unfold Oper.wp execOp
 simp only [ho,resolve,invoke,builtin,Sem.run_bind,Sem.run_pure,Result.andThen_ok,List.map_toArray,List.map_cons,List.map_nil,hs,hx,hr]
 exact h v' w' h2 h3 h4
theorem new_keeps {w W w5:World} {o:Obj} (kW:Keeps (fun y=>w.heap.size≤y) w W) (hk:Keeps (fun k=>(Value.slice (some ⟨W.heap.size,0,none⟩) 0 0).ownBlock=some k) (W.alloc o) w5):Keeps (fun y=>w.heap.size≤y) w w5:=
 (kW.alloc o).trans' hk (fun _ _ h=>h) (fun y hy hz=>by
  have:W.heap.size=y:=Option.some.inj hz
  have:=kW.size
  show w.heap.size≤y
  omega)
theorem icopied {w w5:World} {v5:Value} {l:List Int} {n:Nat} (hl:l.length=n) (hr:IRow w5 w.heap.size v5 ([] ++ l)):∃ p5 c5,v5 = .slice p5 n c5∧(∀ k,(Value.slice p5 n c5).ownBlock=some k→w.heap.size≤k)∧IRow w5 w.heap.size (.slice p5 n c5) l:=by
 rw [List.nil_append] at hr
 have hf:∀ k,v5.ownBlock=some k→w.heap.size≤k:=fun k hk=>(hr.lt k hk).1
 obtain⟨p,c,rfl⟩:=own_shape hr
 rw [hl] at hr hf
 exact⟨p,c,by rw [hl],hf,hr⟩
theorem bcopied {w w5:World} {v5:Value} {l:List Bool} {n:Nat} (hl:l.length=n) (h1:1≤n) (hr:ORow w5 w.heap.size v5 ([] ++ l)):∃ g5 c5 cur5,v5 = .slice (some ⟨g5,0,none⟩) n c5∧w.heap.size≤g5∧w5.heap[g5]?=some (.cells cur5 4)∧∀ (j:Nat) (x:Bool),l[j]?=some x→cur5[j]?=some (.bool x):=by
 rw [List.nil_append] at hr
 obtain⟨g,c,cur,e,h2,h3,h4⟩:=hr.cells (by omega)
 exact⟨g,c,cur,by rw [e,hl],h2,h3,h4⟩
section
variable {w w':World} {b s:Nat} {v:Value} {T:Sq} {B:Bf} {K:Ck} {P:Pt}
theorem copy20 (h:R20 w b v T):Calls Tryz.prog 161 #[.pointer (some ⟨b,0,none⟩)] w fun e w'=>∃ b' v',e = .returned (.pointer (some ⟨b',0,none⟩))∧Keeps (fun _=>False) w w'∧w.heap.size≤b'∧(∀ k,v'.ownBlock=some k→w.heap.size≤k)∧R20 w' b' v' T:=by
 obtain⟨c0,c1,c2,c3,cf,cl⟩:=cells4f h.own
 have s1:=h.s1;have s2:=h.s2;have nn:=h.nn
 have HV:=hid (valid20 b T.size w c0 (by omega))
 have HH:=hid h
 have hrow:=h.row
 obtain⟨p,c,rfl⟩:=own_shape hrow
 have hl:T.list.length=T.n:=T.list_len
 rw [hl] at c1 HH hrow
 have HL:=hid hl
 have HPS:=hid (fun W (hk:Keeps (fun y=>w.heap.size≤y) w W)=>show W.cell? ⟨b,0,none⟩=some (.int .i64 T.size)∧W.cell? ⟨b,1,none⟩=some (.slice p T.n c)∧W.cell? ⟨b,2,none⟩=some (.bool T.over)∧W.cell? ⟨b,3,none⟩=some (.int .i64 T.most) from by
  obtain⟨x0,x1,x2,x3,_,_⟩:=cells4f (block_keep HH.out.own hk (by omega))
  exact⟨x0,x1,x2,x3⟩)
 have HU:=hid (fun W (hk:Keeps (fun y=>w.heap.size≤y) w W)=>(hrow.keeps hk (fun k _ hk' _ h=>by omega)).ints)
 clear h cf hl hrow
 go_enter Tryz.func161,Tryz.ntmps161
 go_wp2_with fail
 refine (HV.out).mono ?_
 rintro e w' ⟨rfl,h'⟩
 obtain rfl:=h'.symm
 go_upto_region 3 with (fail)
 go_region_held_law (fun W=>W.cell? ⟨b,0,none⟩=some (.int .i64 T.size)∧W.cell? ⟨b,1,none⟩=some (.slice p T.n c)∧W.cell? ⟨b,2,none⟩=some (.bool T.over)∧W.cell? ⟨b,3,none⟩=some (.int .i64 T.most))
  ((refine HPS.out _ ?_;(repeat (first | with_reducible exact Keeps.refl _ _ | with_reducible refine Keeps.drew ?_ | with_reducible refine Keeps.alloc ?_ _ | with_reducible assumption))))
  (first
   | (refine step_append_ints rfl _ _ rfl w.heap.size (.slice (some ⟨w.drew.heap.size,0,none⟩) 0 0) (.slice p T.n c) [] T.list rfl rfl (irow_empty (alloc_new (w:=w.drew) (o:=.cells #[] 3)) (Nat.le_refl _)) (HU.out _ (((Keeps.refl _ _).drew).alloc _)) (by rw [HL.out];simp only [List.length_nil];omega) (by show w.heap.size≤(w.alloc _).heap.size;rw [World.size_alloc];exact Nat.le_succ _) ?_;intro v5 w5 hr5 hk5 ho5;have k5:=new_keeps ((Keeps.refl _ w).drew) hk5;obtain⟨p5,c5,rfl,hf5,hr5'⟩:=icopied HL.out hr5))
 all_goals
  go_wp2_with fail
  go_ret
  have kf:Keeps (fun y=>w.heap.size≤y) w (w5.alloc (.cells #[.int .i64 T.size,.slice p5 T.n c5,.bool T.over,.int .i64 T.most] 209)):=k5.alloc _
  exact⟨w5.heap.size,.slice p5 T.n c5,rfl,Keeps.fresh kf,k5.size,hf5,⟨alloc_new,(hr5'.keeps ((Keeps.refl (fun _=>False) w5).alloc _) (fun _ _ _ _ h=>h)).mono (Nat.zero_le _),s1,s2,nn,HH.out.m0,HH.out.m1⟩⟩
theorem copy21 (h:R21 w b v B):Calls Tryz.prog 162 #[.pointer (some ⟨b,0,none⟩)] w fun e w'=>∃ b' v',e = .returned (.pointer (some ⟨b',0,none⟩))∧Keeps (fun _=>False) w w'∧w.heap.size≤b'∧b'+1=w'.heap.size∧(∀ k,v'.ownBlock=some k→w.heap.size≤k)∧R21 w' b' v' B:=by
 have cl:=(cells3 h.own).2.2.2
 have p1:=h.p1;have p2:=h.p2;have nn:=h.nn
 have HH:=hid h
 have hrow:=h.row
 obtain⟨p,c,rfl⟩:=own_shape hrow
 have hl:B.list.length=B.n:=by simp [Bf.list]
 rw [hl] at HH hrow
 have HL:=hid hl
 have HPS:=hid (fun W (hk:Keeps (fun y=>w.heap.size≤y) w W)=>show W.cell? ⟨b,0,none⟩=some (.int .i64 B.size)∧W.cell? ⟨b,1,none⟩=some (.slice p B.n c)∧W.cell? ⟨b,2,none⟩=some (.bool (!B.whole)) from by
  obtain⟨x0,x1,x2,_⟩:=cells3 (block_keep HH.out.own hk (by omega))
  exact⟨x0,x1,x2⟩)
 have HU:=hid (fun W (hk:Keeps (fun y=>w.heap.size≤y) w W)=>(hrow.keeps hk (fun k _ hk' _ h=>by omega)).ints)
 clear h hl hrow
 go_enter Tryz.func162,Tryz.ntmps162
 go_upto_region 1 with (fail)
 go_region_held_law (fun W=>W.cell? ⟨b,0,none⟩=some (.int .i64 B.size)∧W.cell? ⟨b,1,none⟩=some (.slice p B.n c)∧W.cell? ⟨b,2,none⟩=some (.bool (!B.whole)))
  ((refine HPS.out _ ?_;(repeat (first | with_reducible exact Keeps.refl _ _ | with_reducible refine Keeps.drew ?_ | with_reducible refine Keeps.alloc ?_ _ | with_reducible assumption))))
  (first
   | (refine step_append_ints rfl _ _ rfl w.heap.size (.slice (some ⟨w.drew.heap.size,0,none⟩) 0 0) (.slice p B.n c) [] B.list rfl rfl (irow_empty (alloc_new (w:=w.drew) (o:=.cells #[] 3)) (Nat.le_refl _)) (HU.out _ (((Keeps.refl _ _).drew).alloc _)) (by rw [HL.out];simp only [List.length_nil];omega) (by show w.heap.size≤(w.alloc _).heap.size;rw [World.size_alloc];exact Nat.le_succ _) ?_;intro v5 w5 hr5 hk5 ho5;have k5:=new_keeps ((Keeps.refl _ w).drew) hk5;obtain⟨p5,c5,rfl,hf5,hr5'⟩:=icopied HL.out hr5))
 all_goals
  go_wp2_with fail
  go_ret
  have kf:Keeps (fun y=>w.heap.size≤y) w (w5.alloc (.cells #[.int .i64 B.size,.slice p5 B.n c5,.bool (!B.whole)] 258)):=k5.alloc _
  exact⟨w5.heap.size,.slice p5 B.n c5,rfl,Keeps.fresh kf,k5.size,(World.size_alloc ..).symm,hf5,⟨alloc_new,(hr5'.keeps ((Keeps.refl (fun _=>False) w5).alloc _) (fun _ _ _ _ h=>h)).mono (Nat.zero_le _),p1,p2,nn⟩⟩
theorem copy22 (h:R22 w b s K):Calls Tryz.prog 159 #[.pointer (some ⟨b,0,none⟩)] w fun e w'=>∃ b' s',e = .returned (.pointer (some ⟨b',0,none⟩))∧Keeps (fun _=>False) w w'∧w.heap.size≤b'∧w.heap.size≤s'∧R22 w' b' s' K:=by
 have m1:=h.m1;have m4:=h.m4
 have HH:=hid h
 obtain⟨⟨cap,o⟩,⟨cur,hr,hc⟩,_⟩:=h
 obtain⟨c0,c1,c2,c3,cl⟩:=cells4 o
 have HV:=hid (valid22 b w c0)
 have HO:=hid o
 have HLN:=hid K.seenL_len
 have HPS:=hid (fun W (hk:Keeps (fun y=>w.heap.size≤y) w W)=>show W.cell? ⟨b,1,none⟩=some (.int .i64 K.ph)∧W.cell? ⟨b,2,none⟩=some (.slice (some ⟨s,0,none⟩) K.many cap)∧W.cell? ⟨b,3,none⟩=some (.int .i64 K.cy) from by
  obtain⟨x0,x1,x2,x3,_⟩:=cells4 (block_keep HO.out hk (by omega))
  exact⟨x1,x2,x3⟩)
 have hsl:=lt_block hr
 have HBU:=hid (show ∀ W,Keeps (fun y=>w.heap.size≤y) w W→Bools W (.slice (some ⟨s,0,none⟩) K.many cap) K.seenL from fun W hk=>.inr ⟨s,cap,cur,by rw [K.seenL_len],block_keep hr hk (by omega),fun j x hj=>by
  have hj':j<K.many:=by have:=(List.getElem?_eq_some_iff.1 hj).1;rwa [K.seenL_len] at this
  rw [Ck.seenL_at hj'] at hj
  rw [hc j hj',Option.some.inj hj]⟩)
 clear o hr hc
 go_enter Tryz.func159,Tryz.ntmps159
 go_wp2_with fail
 refine (HV.out).mono ?_
 rintro e w' ⟨rfl,h'⟩
 obtain rfl:=h'.symm
 go_upto_region 3 with (fail)
 go_region_held_law (fun W=>W.cell? ⟨b,1,none⟩=some (.int .i64 K.ph)∧W.cell? ⟨b,2,none⟩=some (.slice (some ⟨s,0,none⟩) K.many cap)∧W.cell? ⟨b,3,none⟩=some (.int .i64 K.cy))
  ((refine HPS.out _ ?_;(repeat (first | with_reducible exact Keeps.refl _ _ | with_reducible refine Keeps.drew ?_ | with_reducible refine Keeps.alloc ?_ _ | with_reducible assumption))))
  (first
   | (refine step_append_bools rfl _ _ rfl w.heap.size (.slice (some ⟨w.drew.heap.size,0,none⟩) 0 0) (.slice (some ⟨s,0,none⟩) K.many cap) [] K.seenL rfl rfl (orow_empty (alloc_new (w:=w.drew) (o:=.cells #[] 4)) (Nat.le_refl _)) (HBU.out _ (((Keeps.refl _ _).drew).alloc _)) (by rw [HLN.out];simp only [List.length_nil];omega) (by show w.heap.size≤(w.alloc _).heap.size;rw [World.size_alloc];exact Nat.le_succ _) ?_;intro v5 w5 hr5 hk5 ho5;have k5:=new_keeps ((Keeps.refl _ w).drew) hk5;obtain⟨g5,c5,cur5,rfl,hb5,hg5,hc5⟩:=bcopied HLN.out m1 hr5))
 all_goals
  go_wp2_with fail
  go_ret
  have kf:Keeps (fun y=>w.heap.size≤y) w (w5.alloc (.cells #[.bool true,.int .i64 K.ph,.slice (some ⟨g5,0,none⟩) K.many c5,.int .i64 K.cy] 205)):=k5.alloc _
  exact⟨w5.heap.size,g5,rfl,Keeps.fresh kf,k5.size,hb5,⟨⟨c5,alloc_new⟩,⟨cur5,alloc_old hg5,fun j hj=>hc5 j _ (Ck.seenL_at hj)⟩,m1,m4,HH.out.p5,HH.out.off⟩⟩
def Pt.row (P:Pt):List Int:=(List.range P.n).map P.c
theorem Pt.row_len (P:Pt):P.row.length=P.n:=by simp [Pt.row]
theorem Pt.row_at {P:Pt} {i:Nat} (h:i<P.n):P.row[i]?=some (P.c i):=by
 unfold Pt.row
 rw [List.getElem?_map,List.getElem?_range h];rfl
theorem copy15 (h:R15 w b s P):Calls Tryz.prog 160 #[.pointer (some ⟨b,0,none⟩)] w fun e w'=>∃ b' s',e = .returned (.pointer (some ⟨b',0,none⟩))∧Keeps (fun _=>False) w w'∧w.heap.size≤b'∧w.heap.size≤s'∧R15 w' b' s' P:=by
 have HC:=hid (check15_ok 0 h h.n1)
 obtain⟨⟨cap,o⟩,⟨cur,r,hz,hr⟩,n1,n2⟩:=h
 obtain⟨c0,_,cl⟩:=cells1 o
 have HLN:=hid P.row_len
 have HU:=hid (show ∀ W,Keeps (fun y=>w.heap.size≤y) w W→Ints W (.slice (some ⟨s,0,none⟩) P.n cap) P.row from fun W hk=>.inr ⟨s,cap,cur,by rw [P.row_len],block_keep r hk (by have:=lt_block r;omega),fun j x hj=>by
  have hj':j<P.n:=by have:=(List.getElem?_eq_some_iff.1 hj).1;rwa [P.row_len] at this
  rw [Pt.row_at hj'] at hj
  rw [hr j hj',Option.some.inj hj]⟩)
 have HE:=hid (irow_empty (base:=w.heap.size) (alloc_new (w:=w) (o:=.cells #[] 3)) (Nat.le_refl _))
 clear o r hr
 go_enter Tryz.func160,Tryz.ntmps160
 go_wp2_with fail
 refine (HC.out).mono ?_
 rintro e w' ⟨rfl,h'⟩
 obtain rfl:=h'.symm
 go_wp2_with (first
  | (at_builtin;refine wpList_append_ints _ rfl _ _ rfl w.heap.size (.slice (some ⟨w.heap.size,0,none⟩) 0 0) (.slice (some ⟨s,0,none⟩) P.n cap) [] P.row rfl rfl HE.out (HU.out _ ((Keeps.refl _ _).alloc _)) (by rw [HLN.out];simp only [List.length_nil];omega) (by rw [World.size_alloc];exact Nat.le_succ _) ?_;intro v5 w5 hr5 hk5 ho5;have k5:=new_keeps (Keeps.refl _ w) hk5;obtain⟨p5,c5,rfl,hf5,hr5'⟩:=icopied HLN.out hr5;have K5:=hid k5;have HR5:=hid hr5';clear hr5 hk5 ho5 k5 hf5 hr5')
  | fail)
 go_ret
 have kf:Keeps (fun y=>w.heap.size≤y) w (w5.alloc (.cells #[.slice p5 P.n c5] 207)):=K5.out.alloc _
 rcases HR5.out.cells with⟨_,e⟩ | ⟨g5,cap5,cur5,e,hb5,hg5,hc5⟩
 ·have:=HLN.out;rw [e] at this;simp at this;omega
 ·injection e with e1 e2 e3
  subst e1
  have hz5:P.n≤cur5.size:=by
   have:=(Array.getElem?_eq_some_iff.1 (hc5 (P.n - 1) _ (Pt.row_at (by omega)))).1
   omega
  exact⟨w5.heap.size,g5,rfl,Keeps.fresh kf,K5.out.size,hb5,⟨⟨c5,alloc_new⟩,⟨cur5,alloc_old hg5,hz5,fun j hj=>hc5 j _ (Pt.row_at hj)⟩,n1,n2⟩⟩
end
end Go.Proofs.YtnlkfbndlngjaaaGreat
namespace Go.Proofs.YtnlkfbndlngjaaaGreat
open Go.RowKit
attribute [local go_sem] Oper.semAt_some
set_option linter.unusedVariables false
set_option linter.unusedSimpArgs false
theorem step_append_buf {ops:Array Oper} {o:Oper} {a:Act} {K:Act→World→Prop} {Q:Exit→Act→World→Prop} {E:Prop} {w:World} (hgd:o.guard=none) (s x:Operand)
 (ho:o.op = .call { callee:=.builtin .append,args:=#[s,x],argTypes:=#[132,132] })
 (base g:Nat) (v q:Value) (l:List Value) (hs:a.eval s=v) (hx:a.eval x = .slice (some ⟨g,0,none⟩) 1 1) (hv:BRow w base v l) (hg:w.heap[g]?=some (.cells #[q] 210)) (hq:q.oneCell'=true) (h1:l.length≤1000) (hb:base≤w.heap.size)
 (h:∀ v' w',BRow w' base v' (l ++ [q])→Keeps (fun k=>v.ownBlock=some k) w w'→(v'.ownBlock=v.ownBlock∨v'.ownBlock=some w.heap.size)→K (a.put o.dst v') w'):
 if Region.wanted o (yielded ops a.tmps)=true then Oper.wp Tryz.prog o a w K Q else E:=by
 have hw:Region.wanted o (yielded ops a.tmps)=true:=by simp [Region.wanted,hgd]
 rw [if_pos hw]
 obtain⟨v',w',hr,h2,h3,h4⟩:=run_append_buf o.type base v q l g w hv hg hq h1 hb
 unfold Oper.wp execOp
 simp only [ho,resolve,invoke,builtin,Sem.run_bind,Sem.run_pure,Result.andThen_ok,List.map_toArray,List.map_cons,List.map_nil,hs,hx,hr]
 exact h v' w' h2 h3 h4
structure CpB (w:World) (base i:Nat) (l:List Value) (bb:Nat→Nat) (bv:Nat→Value) (B:Nat→Bf):Prop where
 at':∀ j,j<i→l[j]?=some (.pointer (some ⟨bb j,0,none⟩))
 r:∀ j,j<i→R21 w (bb j) (bv j) (B j)
 lo:∀ j,j<i→base≤bb j
 lov:∀ j,j<i→∀ k,(bv j).ownBlock=some k→base≤k
 up:∀ j k,j<k→k<i→bb j<bb k
 ap:∀ j k,j<k→k<i→∀ y z,(bv j).ownBlock=some y→(bv k).ownBlock=some z→y<z
section
variable {w0 w w' W:World} {m q base i:Nat} {L:L24} {M:Mk} {S:Nat→Prop} {l:List Value} {bb:Nat→Nat} {bv:Nat→Value} {B:Nat→Bf}
theorem CpB.keeps (h:CpB w base i l bb bv B) (hk:Keeps S w w') (hS:∀ y cs t,w.heap[y]?=some (.cells cs t)→S y→t≠258∧t≠3):CpB w' base i l bb bv B:=by
 refine⟨h.at',fun j hj=>?_,h.lo,h.lov,h.up,h.ap⟩
 have hr:=h.r j hj
 refine hr.keeps hk (fun hs=>(hS _ _ _ hr.own hs).1 rfl) (fun k hk' hs=>?_)
 obtain⟨c,hc⟩:=ints_block hr.row hk'
 exact (hS _ _ _ hc hs).2 rfl
theorem CpB.snoc {g:Nat} {v:Value} (h:CpB w base i l bb bv B) (hl:l.length=i) (hk:Keeps (fun _=>False) w w') (hb:base≤w.heap.size) (hg:w.heap.size≤g) (hv:∀ k,v.ownBlock=some k→w.heap.size≤k) (hr:R21 w' g v (B i)):
 CpB w' base (i+1) (l ++ [.pointer (some ⟨g,0,none⟩)]) (updf bb i g) (updf bv i v) B:=by
 have h':=h.keeps hk (fun _ _ _ _ h=>h.elim)
 refine⟨fun j hj=>?_,fun j hj=>?_,fun j hj=>?_,fun j hj=>?_,fun j k hjk hk'=>?_,fun j k hjk hk'=>?_⟩
 ·by_cases e:j=i
  ·subst e
   rw [List.getElem?_append_right (by omega),hl]
   simp [updf]
  ·rw [List.getElem?_append_left (by omega),h.at' j (by omega)]
   simp [updf,e]
 ·by_cases e:j=i
  ·subst e;rw [updf_same',updf_same'];exact hr
  ·rw [updf_oth' _ _ e,updf_oth' _ _ e];exact h'.r j (by omega)
 ·by_cases e:j=i
  ·subst e;rw [updf_same'];omega
  ·rw [updf_oth' _ _ e];exact h.lo j (by omega)
 ·by_cases e:j=i
  ·subst e;rw [updf_same'];exact fun k hk=>Nat.le_trans hb (hv k hk)
  ·rw [updf_oth' _ _ e];exact h.lov j (by omega)
 ·have e1:j≠i:=by omega
  rw [updf_oth' _ _ e1]
  have:=lt_block (h.r j (by omega)).own
  by_cases e:k=i
  ·subst e;rw [updf_same'];omega
  ·rw [updf_oth' _ _ e];exact h.up j k hjk (by omega)
 ·have e1:j≠i:=by omega
  rw [updf_oth' _ _ e1]
  by_cases e:k=i
  ·subst e;rw [updf_same']
   intro y z hy hz
   have:=(h.r j (by omega)).lt y hy
   have:=hv z hz
   omega
  ·rw [updf_oth' _ _ e];exact h.ap j k hjk (by omega)
theorem copy24 (h:R24 w m L M q):Calls Tryz.prog 82 #[.pointer (some ⟨m,0,none⟩)] w fun e w'=>∃ m',e = .returned (.pointer (some ⟨m',0,none⟩))∧Keeps (fun _=>False) w w'∧D24 w.heap.size w' m' M q:=by
 have HV:=hid h.val
 have HH:=hid (fun W (hk:Keeps (fun _=>False) w W)=>h.k0 hk)
 obtain⟨cap,c0,c1,c2,c3,c4,c5,c6,cl⟩:=h.cells
 have HKC:=hid (show ∀ W,Keeps (fun _=>False) w W→W.cell? ⟨m,3,none⟩=some (.pointer (some ⟨L.c,0,none⟩))∧W.cell? ⟨m,4,none⟩=some (.pointer (some ⟨L.p,0,none⟩))∧W.cell? ⟨m,5,none⟩=some (.pointer (some ⟨L.st,0,none⟩))∧W.cell? ⟨m,6,none⟩=some (.slice (some ⟨L.rb,0,none⟩) M.K.many cap)∧∀ j,j<M.K.many→W.cell? ⟨L.rb,j,none⟩=some (.pointer (some ⟨L.bb j,0,none⟩)) from by
  intro W hk
  obtain⟨⟨cap',o⟩,⟨cur,r,hr⟩,_⟩:=h
  have e6:=cell_at (i:=6) o rfl
  rw [c6] at e6
  have o':=block_keep o hk (fun h=>h)
  refine⟨cell_at o' rfl,cell_at o' rfl,cell_at o' rfl,by rw [e6];exact cell_at o' rfl,fun j hj=>cell_at (block_keep r hk (fun h=>h)) (hr j hj)⟩)
 have HM4:=hid h.clk.m4
 have HM1:=hid h.clk.m1
 obtain⟨n,hn⟩:∃ n,M.P.n=n:=⟨_,rfl⟩
 obtain⟨k,hk⟩:∃ k,M.K.many=k:=⟨_,rfl⟩
 rw [hn] at c0
 rw [hk] at c1 c6 HKC HM4 HM1
 have HNK:=hid (And.intro hn hk)
 have HQ:=hid (fun j (hj:j<M.K.many)=>(h.bf j hj).2)
 clear h hn hk
 obtain⟨wA,hwA⟩:∃ wA,w.alloc (.cells #[.int .i64 n,.int .i64 k,.int .i64 q,.pointer (some ⟨L.c,0,none⟩),.pointer (some ⟨L.p,0,none⟩),.pointer (some ⟨L.st,0,none⟩),.slice (some ⟨L.rb,0,none⟩) k cap] 134)=wA:=⟨_,rfl⟩
 have KA:=hid (show Keeps (fun y=>w.heap.size≤y) w wA from by rw [← hwA];exact (Keeps.refl _ _).alloc _)
 have QA:=hid (show wA.heap[w.heap.size]?=some (.cells #[.int .i64 n,.int .i64 k,.int .i64 q,.pointer (some ⟨L.c,0,none⟩),.pointer (some ⟨L.p,0,none⟩),.pointer (some ⟨L.st,0,none⟩),.slice (some ⟨L.rb,0,none⟩) k cap] 134) from by rw [← hwA];exact alloc_new)
 have HWA:=hid hwA
 clear hwA
 go_enter Tryz.func82,Tryz.ntmps82
 go_wp2_with fail
 refine (HV.out).mono ?_
 rintro e w' ⟨rfl,h'⟩
 obtain rfl:=h'.symm
 go_upto_region 4 with (fail)
 rw [HWA.out]
 clear c0 c1 c2 c3 c4 c5 c6
 obtain⟨c3,c4,c5,c6,cr⟩:=HKC.out _ (Keeps.fresh KA.out)
 have HC:=hid (copy22 (HH.out _ (Keeps.fresh KA.out)).clk)
 clear c4 c5 c6 cr
 go_wp2_with fail
 refine HC.out.mono ?_
 rintro e w1 ⟨bc,bs,rfl,k1,lc,ls,h22⟩
 have Q1:=hid (block_keep QA.out k1 (fun h=>h))
 have f3:=frozen_block Q1.out 3
 have e3:=cell_at (i:=3) Q1.out rfl
 have l1:=lt_block Q1.out
 have lA:=lt_block QA.out
 obtain⟨ws1,hs1⟩:∃ W,w1.setCell ⟨w.heap.size,3,none⟩ (.pointer (some ⟨bc,0,none⟩))=W:=⟨_,rfl⟩
 have QS1:=hid (show ws1.heap[w.heap.size]?=some (.cells #[.int .i64 n,.int .i64 k,.int .i64 q,.pointer (some ⟨bc,0,none⟩),.pointer (some ⟨L.p,0,none⟩),.pointer (some ⟨L.st,0,none⟩),.slice (some ⟨L.rb,0,none⟩) k cap] 134) from by rw [← hs1];exact (set_block Q1.out 3 _).trans rfl)
 have ks1:Keeps (fun y=>y=w.heap.size) w1 ws1:=by rw [← hs1];exact keeps_set1 _ _ _ _
 have KW1:=hid (show Keeps (fun y=>w.heap.size≤y) w ws1 from KA.out.trans (k1.up.trans (ks1.mono (fun y _ h=>Nat.le_of_eq h.symm))))
 have H22:=hid (h22.keeps ks1 (by omega) (by omega))
 have LL1:=hid (show w.heap.size≤bc∧w.heap.size≤bs from by omega)
 have HS1:=hid hs1
 clear k1 lc ls h22 hs1 ks1
 go_upto_region 5 with (fail)
 rw [HS1.out]
 clear f3 e3 l1 lA c3
 obtain⟨c3,c4,c5,c6,cr⟩:=HKC.out _ (Keeps.fresh KW1.out)
 have HC:=hid (copy15 (HH.out _ (Keeps.fresh KW1.out)).pt)
 clear c3 c5 c6 cr
 go_wp2_with fail
 refine HC.out.mono ?_
 rintro e w2 ⟨bp,bps,rfl,k2,lc,ls,h15⟩
 have Q2:=hid (block_keep QS1.out k2 (fun h=>h))
 have f4:=frozen_block Q2.out 4
 have e4:=cell_at (i:=4) Q2.out rfl
 have l2:=lt_block Q2.out
 have lA:=lt_block QS1.out
 obtain⟨ws2,hs2⟩:∃ W,w2.setCell ⟨w.heap.size,4,none⟩ (.pointer (some ⟨bp,0,none⟩))=W:=⟨_,rfl⟩
 have QS2:=hid (show ws2.heap[w.heap.size]?=some (.cells #[.int .i64 n,.int .i64 k,.int .i64 q,.pointer (some ⟨bc,0,none⟩),.pointer (some ⟨bp,0,none⟩),.pointer (some ⟨L.st,0,none⟩),.slice (some ⟨L.rb,0,none⟩) k cap] 134) from by rw [← hs2];exact (set_block Q2.out 4 _).trans rfl)
 have ks2:Keeps (fun y=>y=w.heap.size) w2 ws2:=by rw [← hs2];exact keeps_set1 _ _ _ _
 have KS2:=hid (show Keeps (fun y=>y=w.heap.size) ws1 ws2 from k2.up.trans ks2)
 have KW2:=hid (show Keeps (fun y=>w.heap.size≤y) w ws2 from KW1.out.trans (KS2.out.mono (fun y _ h=>Nat.le_of_eq h.symm)))
 have H15:=hid (h15.keeps ks2 (by omega) (by omega))
 have LL2:=hid (show w.heap.size≤bp∧w.heap.size≤bps from by omega)
 have HS2:=hid hs2
 clear k2 lc ls h15 hs2 ks2
 go_upto_region 6 with (fail)
 rw [HS2.out]
 clear f4 e4 l2 lA c4
 obtain⟨c3,c4,c5,c6,cr⟩:=HKC.out _ (Keeps.fresh KW2.out)
 have HC:=hid (copy20 (HH.out _ (Keeps.fresh KW2.out)).st)
 clear c3 c4 c6 cr
 go_wp2_with fail
 refine HC.out.mono ?_
 rintro e w3 ⟨bq,v20,rfl,k3,lc,lv,h20⟩
 have Q3:=hid (block_keep QS2.out k3 (fun h=>h))
 have f5:=frozen_block Q3.out 5
 have e5:=cell_at (i:=5) Q3.out rfl
 have l3:=lt_block Q3.out
 have lA:=lt_block QS2.out
 obtain⟨ws3,hs3⟩:∃ W,w3.setCell ⟨w.heap.size,5,none⟩ (.pointer (some ⟨bq,0,none⟩))=W:=⟨_,rfl⟩
 have QS3:=hid (show ws3.heap[w.heap.size]?=some (.cells #[.int .i64 n,.int .i64 k,.int .i64 q,.pointer (some ⟨bc,0,none⟩),.pointer (some ⟨bp,0,none⟩),.pointer (some ⟨bq,0,none⟩),.slice (some ⟨L.rb,0,none⟩) k cap] 134) from by rw [← hs3];exact (set_block Q3.out 5 _).trans rfl)
 have ks3:Keeps (fun y=>y=w.heap.size) w3 ws3:=by rw [← hs3];exact keeps_set1 _ _ _ _
 have KS3:=hid (show Keeps (fun y=>y=w.heap.size) ws2 ws3 from k3.up.trans ks3)
 have KW3:=hid (show Keeps (fun y=>w.heap.size≤y) w ws3 from KW2.out.trans (KS3.out.mono (fun y _ h=>Nat.le_of_eq h.symm)))
 have H20:=hid (h20.keeps ks3 (by omega) (fun z hz e=>by have:=lv z hz;have e':z=w.heap.size:=e;omega))
 have LL3:=hid (show w.heap.size≤bq∧∀ z,v20.ownBlock=some z→ws2.heap.size≤z from⟨by omega,lv⟩)
 have HS3:=hid hs3
 clear k3 lc lv h20 hs3 ks3
 go_upto_region 7 with (fail)
 rw [HS3.out]
 clear f5 e5 l3 lA c5
 obtain⟨ws,hws⟩:∃ W,ws3.setCell ⟨w.heap.size,6,none⟩ (.slice none 0 0)=W:=⟨_,rfl⟩
 have QW:=hid (show ws.heap[w.heap.size]?=some (.cells #[.int .i64 n,.int .i64 k,.int .i64 q,.pointer (some ⟨bc,0,none⟩),.pointer (some ⟨bp,0,none⟩),.pointer (some ⟨bq,0,none⟩),.slice none 0 0] 134) from by rw [← hws];exact (set_block QS3.out 6 _).trans rfl)
 have ksw:Keeps (fun y=>y=w.heap.size) ws3 ws:=by rw [← hws];exact keeps_set1 _ _ _ _
 have KWW:=hid (show Keeps (fun y=>w.heap.size≤y) w ws from KW3.out.trans (ksw.mono (fun y _ h=>Nat.le_of_eq h.symm)))
 have hnb:bc≠w.heap.size∧bs≠w.heap.size∧bp≠w.heap.size∧bps≠w.heap.size∧bq≠w.heap.size∧¬ v20.ownBlock=some w.heap.size:=by
  obtain⟨_,o1⟩:=H22.out.own
  obtain⟨_,o2,_⟩:=H22.out.row
  obtain⟨_,o3⟩:=H15.out.own
  obtain⟨_,o4,_⟩:=H15.out.row
  exact⟨type_ne o1 QS1.out (by decide),type_ne o2 QS1.out (by decide),type_ne o3 QS2.out (by decide),type_ne o4 QS2.out (by decide),type_ne H20.out.own QS3.out (by decide),H20.out.row.noB QS3.out (by decide)⟩
 have H22W:=hid (((H22.out.keeps KS2.out hnb.1 hnb.2.1).keeps KS3.out hnb.1 hnb.2.1).keeps ksw hnb.1 hnb.2.1)
 have H15W:=hid (((H15.out.keeps KS3.out hnb.2.2.1 hnb.2.2.2.1).keeps ksw hnb.2.2.1 hnb.2.2.2.1))
 have H20W:=hid (H20.out.keeps ksw hnb.2.2.2.2.1 (fun z hz e=>hnb.2.2.2.2.2 (by rw [hz,show z=w.heap.size from e])))
 have LPS:=hid (show bps<ws2.heap.size∧ws2.heap.size≤ws.heap.size from by obtain⟨_,o4,_⟩:=H15.out.row;exact⟨lt_block o4,Nat.le_trans KS3.out.size ksw.size⟩)
 have HWS:=hid hws
 have KWW0:=hid KWW.out.size
 have LV20:=hid (show ∀ z,v20.ownBlock=some z→z<ws.heap.size from fun z hz=>H20W.out.lt z hz)
 have f6:=frozen_block QS3.out 6
 have e6:=cell_at (i:=6) QS3.out rfl
 have l3:=lt_block QS3.out
 clear hws ksw hnb
 go_upto_region 8 with (fail)
 rw [HWS.out]
 clear f6 e6 l3
 go_wp2_with fail
 go_loopw [4] (fun ix wr=>∃ (i:Nat) (v:Value) (l:List Value) (bb:Nat→Nat) (bv:Nat→Value),i≤k∧l.length=i∧ix = .int .i64 i∧Hid (wr.heap[w.heap.size]?=some (.cells #[.int .i64 n,.int .i64 k,.int .i64 q,.pointer (some ⟨bc,0,none⟩),.pointer (some ⟨bp,0,none⟩),.pointer (some ⟨bq,0,none⟩),v] 134))∧Hid (BRow wr w.heap.size v l)∧Hid (CpB wr ws.heap.size i l bb bv M.B)∧Hid (R22 wr bc bs M.K∧R15 wr bp bps M.P∧R20 wr bq v20 M.S)∧Hid (Keeps (fun y=>w.heap.size≤y) w wr∧ws.heap.size≤wr.heap.size)) (fun ix _=>k - (intOf ix).toNat)
 case atStart=>exact⟨0,.slice none 0 0,[],fun _=>0,fun _=>.slice none 0 0,Nat.zero_le _,rfl,rfl,QW,hid (World.ownsRow_nil _ _ _ _),hid ⟨fun j hj=>by omega,fun j hj=>by omega,fun j hj=>by omega,fun j hj=>by omega,fun j k _ hk=>by omega,fun j k _ hk=>by omega⟩,hid ⟨H22W.out,H15W.out,H20W.out⟩,hid ⟨KWW.out,Nat.le_refl _⟩⟩
 case round=>
  clear QW H22W H15W H20W KWW
  obtain⟨i,v,l,bb,bv,hi,hl,rfl,HM,HB,HCB,H3,HK⟩:=hrel
  have hi0:(0:Int)≤i:=by omega
  have hm4:=HM4.out
  obtain⟨c3,c4,c5,c6,cr⟩:=HKC.out _ (Keeps.fresh HK.out.1)
  by_cases hlt:i<k
  ·have hlt':(i:Int)<(k:Int):=by omega
   have cri:=cr i hlt
   have HPS:=hid (fun W (hk:Keeps (fun y=>v.ownBlock=some y) wr W)=>show W.cell? ⟨w.heap.size,6,none⟩=some v∧W.cell? ⟨m,6,none⟩=some (.slice (some ⟨L.rb,0,none⟩) k cap)∧W.cell? ⟨L.rb,i,none⟩=some (.pointer (some ⟨L.bb i,0,none⟩)) from by
    have hkw:Keeps (fun y=>w.heap.size≤y) w W:=HK.out.1.trans' hk (fun _ _ h=>h) (fun y _ hz=>(HB.out.lt y hz).1)
    obtain⟨_,_,_,e6,er⟩:=HKC.out _ (Keeps.fresh hkw)
    exact⟨cell_at (i:=6) (block_keep HM.out hk (fun h=>HB.out.ne HM.out (by decide) h)) rfl,e6,er i hlt⟩)
   have HCP:=hid (fun W (hk:Keeps (fun _=>False) wr W)=>copy21 ((HH.out _ (Keeps.fresh (HK.out.1.trans hk.up))).bf i (by rw [HNK.out.2];exact hlt)).1)
   have HLL:=hid hl
   have kd:Keeps (fun _=>False) wr wr.drew:=(Keeps.refl _ _).drew
   clear c3 c4 c5 cr
   go_upto_region 11 with (fail)
   refine wp_region_first 13 (fun W=>W.cell? ⟨w.heap.size,6,none⟩=some v∧W.cell? ⟨m,6,none⟩=some (.slice (some ⟨L.rb,0,none⟩) k cap)∧W.cell? ⟨L.rb,i,none⟩=some (.pointer (some ⟨L.bb i,0,none⟩))) (by kernel_rfl) (HPS.out _ kd.up) (fun hS=>?_)
   refine wpAnyU_take 0 (v:=?_) rfl (by kernel_rfl) (by kernel_rfl) (by kernel_rfl) (by kernel_rfl) (fun _ _ _ h=>h) (Or.inl ⟨by rfl,?_⟩) (by assumption) ?_
   rotate_left
   ·(intro w hSw;(try dsimp only at hSw);simp only [List.getElem_toArray,List.getElem_cons_zero,List.getElem_cons_succ];go_simp;(first | done | with_reducible rfl))
   simp only [List.getElem_toArray,List.getElem_cons_zero,List.getElem_cons_succ,Act.put,List.setIfInBounds_toArray,List.set_cons_zero,List.set_cons_succ]
   refine wpAnyU_take 1 (v:=?_) rfl (by kernel_rfl) (by kernel_rfl) (by kernel_rfl) (by kernel_rfl) (fun _ _ _ h=>h) (Or.inl ⟨by rfl,?_⟩) (by assumption) ?_
   rotate_left
   ·(intro w hSw;(try dsimp only at hSw);simp only [List.getElem_toArray,List.getElem_cons_zero,List.getElem_cons_succ];go_simp;(first | done | with_reducible rfl))
   simp only [List.getElem_toArray,List.getElem_cons_zero,List.getElem_cons_succ,Act.put,List.setIfInBounds_toArray,List.set_cons_zero,List.set_cons_succ]
   refine wpAnyU_take 2 (v:=?_) rfl (by kernel_rfl) (by kernel_rfl) (by kernel_rfl) (by kernel_rfl) (fun _ _ _ h=>h) (Or.inl ⟨by rfl,?_⟩) (by assumption) ?_
   rotate_left
   ·(intro w hSw;(try dsimp only at hSw);simp only [List.getElem_toArray,List.getElem_cons_zero,List.getElem_cons_succ];go_simp;(first | done | with_reducible rfl))
   simp only [List.getElem_toArray,List.getElem_cons_zero,List.getElem_cons_succ,Act.put,List.setIfInBounds_toArray,List.set_cons_zero,List.set_cons_succ]
   refine wpAnyU_take 3 (v:=?_) rfl (by kernel_rfl) (by kernel_rfl) (by kernel_rfl) (by kernel_rfl) (fun _ _ _ h=>h) (Or.inl ⟨by rfl,?_⟩) (by assumption) ?_
   rotate_left
   ·(intro w hSw;(try dsimp only at hSw);simp only [List.getElem_toArray,List.getElem_cons_zero,List.getElem_cons_succ];go_simp;(first | done | with_reducible rfl))
   simp only [List.getElem_toArray,List.getElem_cons_zero,List.getElem_cons_succ,Act.put,List.setIfInBounds_toArray,List.set_cons_zero,List.set_cons_succ]
   refine wpAnyU_take 4 (v:=?_) rfl (by kernel_rfl) (by kernel_rfl) (by kernel_rfl) (by kernel_rfl) (fun _ _ _ h=>h) (Or.inl ⟨by rfl,?_⟩) (by assumption) ?_
   rotate_left
   ·(intro w hSw;(try dsimp only at hSw);simp only [List.getElem_toArray,List.getElem_cons_zero,List.getElem_cons_succ];go_simp;(first | done | with_reducible rfl))
   simp only [List.getElem_toArray,List.getElem_cons_zero,List.getElem_cons_succ,Act.put,List.setIfInBounds_toArray,List.set_cons_zero,List.set_cons_succ]
   refine wpAnyU_take 5 (v:=?_) rfl (by kernel_rfl) (by kernel_rfl) (by kernel_rfl) (by kernel_rfl) (fun _ _ _ h=>h) (Or.inl ⟨by rfl,?_⟩) (by assumption) ?_
   rotate_left
   ·(intro w hSw;(try dsimp only at hSw);simp only [List.getElem_toArray,List.getElem_cons_zero,List.getElem_cons_succ];go_simp;(first | done | with_reducible rfl))
   simp only [List.getElem_toArray,List.getElem_cons_zero,List.getElem_cons_succ,Act.put,List.setIfInBounds_toArray,List.set_cons_zero,List.set_cons_succ]
   refine wpAnyU_take 6 (v:=?_) rfl (by kernel_rfl) (by kernel_rfl) (by kernel_rfl) (by kernel_rfl) (fun _ _ _ h=>h) (Or.inl ⟨by rfl,?_⟩) (by assumption) ?_
   rotate_left
   ·(intro w hSw;(try dsimp only at hSw);simp only [List.getElem_toArray,List.getElem_cons_zero,List.getElem_cons_succ];go_simp;(first | done | with_reducible rfl))
   simp only [List.getElem_toArray,List.getElem_cons_zero,List.getElem_cons_succ,Act.put,List.setIfInBounds_toArray,List.set_cons_zero,List.set_cons_succ]
   refine wpAnyU_take 7 (v:=?_) rfl (by kernel_rfl) (by kernel_rfl) (by kernel_rfl) (by kernel_rfl) (fun _ _ _ h=>h) (Or.inl ⟨by rfl,?_⟩) (by assumption) ?_
   rotate_left
   ·(intro w hSw;(try dsimp only at hSw);simp only [List.getElem_toArray,List.getElem_cons_zero,List.getElem_cons_succ];go_simp;(first | done | with_reducible rfl))
   simp only [List.getElem_toArray,List.getElem_cons_zero,List.getElem_cons_succ,Act.put,List.setIfInBounds_toArray,List.set_cons_zero,List.set_cons_succ]
   refine wpAnyU_take 8 (v:=?_) rfl (by kernel_rfl) (by kernel_rfl) (by kernel_rfl) (by kernel_rfl) (fun _ _ _ h=>h) (Or.inl ⟨by rfl,?_⟩) (by assumption) ?_
   rotate_left
   ·(intro w hSw;(try dsimp only at hSw);simp only [List.getElem_toArray,List.getElem_cons_zero,List.getElem_cons_succ];go_simp;(first | done | with_reducible rfl))
   simp only [List.getElem_toArray,List.getElem_cons_zero,List.getElem_cons_succ,Act.put,List.setIfInBounds_toArray,List.set_cons_zero,List.set_cons_succ]
   refine wpAnyU_one (i:=9) (by kernel_rfl) rfl rfl (fun K hK=>?_)
   go_simp
   go_at_call 162
   refine (HCP.out _ kd).mono ?_
   rintro e w5 ⟨g,gv,rfl,k5,lg,_,lgv,h21⟩
   have k5':=kd.trans k5
   refine hK.out _ _ ?_ (fun hHeld=>?_)
   ·exact (HPS.out _ k5'.up)
   clear hK K
   try dsimp only [Act.put,List.setIfInBounds_toArray,List.set_cons_zero,List.set_cons_succ]
   refine wpAnyU_one (i:=10) (by kernel_rfl) rfl rfl (fun K hK=>?_)
   go_simp
   refine hK.out _ _ ?_ (fun hHeld=>?_)
   ·exact (HPS.out _ (k5'.alloc _).up)
   clear hK K
   try dsimp only [Act.put,List.setIfInBounds_toArray,List.set_cons_zero,List.set_cons_succ]
   refine wpAnyU_one (i:=11) (by kernel_rfl) rfl rfl (fun K hK=>?_)
   refine step_append_buf rfl _ _ rfl w.heap.size w5.heap.size v (.pointer (some ⟨g,0,none⟩)) l rfl rfl (HB.out.keeps (k5'.alloc _) (fun _ _ _ _ h=>h)) alloc_new rfl (by have:=HM4.out;omega) (by have h1:=HK.out.1.size;have h2:=k5'.size;rw [World.size_alloc];omega) ?_
   intro v6 w6 hr6 hk6 ho6
   have k6:Keeps (fun y=>v.ownBlock=some y) wr w6:=(k5'.alloc _).up.trans hk6
   obtain⟨p6,c6',rfl⟩:=hr6.slice
   obtain⟨n6,hn6⟩:∃ n6,(l ++ [Value.pointer (some ⟨g,0,none⟩)]).length=n6:=⟨_,rfl⟩
   rw [hn6] at hr6 ⊢
   refine hK.out _ _ ?_ (fun hHeld=>?_)
   ·exact (HPS.out _ k6)
   clear hK K
   try dsimp only [Act.put,List.setIfInBounds_toArray,List.set_cons_zero,List.set_cons_succ]
   have q6:=block_keep HM.out k6 (fun h=>HB.out.ne HM.out (by decide) h)
   have f6:=frozen_block q6 6
   have e6:=cell_at (i:=6) q6 rfl
   have l6:=lt_block q6
   refine wpAnyU_take 12 (v:=?_) rfl (by kernel_rfl) (by kernel_rfl) (by kernel_rfl) (by kernel_rfl) (fun _ _ _ h=>h) (Or.inl ⟨by rfl,?_⟩) (by assumption) ?_
   rotate_left
   ·(intro w hSw;(try dsimp only at hSw);simp only [List.getElem_toArray,List.getElem_cons_zero,List.getElem_cons_succ];go_simp;(first | done | with_reducible rfl))
   simp only [List.getElem_toArray,List.getElem_cons_zero,List.getElem_cons_succ,Act.put,List.setIfInBounds_toArray,List.set_cons_zero,List.set_cons_succ]
   refine wpAnyU_turn (by kernel_rfl) rfl (fun K hK=>?_)
   go_simp
   refine hK.out _ _ ?_
   refine wpAny_last (by kernel_rfl) ?_
   refine NoPanic.normal ?_
   go_wp2_with fail
   have ks:=keeps_set1 w6 w.heap.size 6 (.slice p6 n6 c6')
   have k57:Keeps (fun z=>v.ownBlock=some z∨z=w.heap.size) w5 (w6.setCell ⟨w.heap.size,6,none⟩ (.slice p6 n6 c6')):=(((Keeps.refl _ w5).alloc _).trans (hk6.mono (fun _ _ h=>.inl h))).trans (ks.mono (fun _ _ h=>.inr h))
   have k17:Keeps (fun z=>v.ownBlock=some z∨z=w.heap.size) wr (w6.setCell ⟨w.heap.size,6,none⟩ (.slice p6 n6 c6')):=k5'.up.trans k57
   have HB5:=HB.out.keeps k5' (fun _ _ _ _ h=>h)
   have HM5:=block_keep HM.out k5' (fun h=>h)
   have nb:∀ {z:Nat} {cs:Array Value} {t:TypeId},wr.heap[z]?=some (.cells cs t)→210≠t→t≠134→¬ (v.ownBlock=some z∨z=w.heap.size):=fun hz h1 h2 h=>h.elim (fun e=>HB.out.ne hz h1 e) (fun e=>type_ne hz HM.out h2 e)
   obtain⟨r22,r15,r20⟩:=H3.out
   obtain⟨_,o1⟩:=r22.own
   obtain⟨_,o2,_⟩:=r22.row
   obtain⟨_,o3⟩:=r15.own
   obtain⟨_,o4,_⟩:=r15.row
   refine⟨⟨i+1,.slice p6 n6 c6',l ++ [.pointer (some ⟨g,0,none⟩)],updf bb i g,updf bv i gv,by omega,by rw [List.length_append,hl];rfl,by go_num,hid ((set_block q6 6 _).trans rfl),hid ?_,hid ?_,hid ⟨?_,?_,?_⟩,hid ⟨?_,?_⟩⟩,by simp [intOf];omega⟩
   ·show BRow _ _ (.slice p6 n6 c6') _
    exact hr6.keeps ks (fun z _ _ h e=>hr6.ne q6 (by decide) (by rw [h,show z=w.heap.size from e]))
   ·refine (HCB.out.snoc HLL.out k5' HK.out.2 lg lgv h21).keeps k57 (fun y cs t hy hs=>?_)
    rcases hs with e | e
    ·by_cases ht:t=210
     ·rw [ht];decide
     ·exact absurd e (HB5.ne hy (fun h=>ht h.symm))
    ·rw [show y=w.heap.size from e,HM5] at hy
     simp at hy
     rw [← hy.2];decide
   ·exact r22.keeps k17 (nb o1 (by decide) (by decide)) (nb o2 (by decide) (by decide))
   ·exact r15.keeps k17 (nb o3 (by decide) (by decide)) (nb o4 (by decide) (by decide))
   ·refine r20.keeps k17 (nb r20.own (by decide) (by decide)) (fun z hz=>?_)
    obtain⟨_,o5⟩:=ints_block r20.row hz
    exact nb o5 (by decide) (by decide)
   ·exact HK.out.1.trans' k17 (fun _ _ h=>h) (fun y _ hz=>hz.elim (fun e=>(HB.out.lt y e).1) (fun e=>Nat.le_of_eq e.symm))
   ·exact Nat.le_trans HK.out.2 k17.size
  ·obtain rfl:i=k:=by omega
   clear c3 c4 c5 cr
   go_wp2_with fail
   go_ret
   obtain⟨hn,hk⟩:=HNK.out
   subst hn
   obtain⟨r22,r15,r20⟩:=H3.out
   rcases HB.out.2 with⟨_,h0⟩ | ⟨g,cap',cur,e,hb,hg,r1,r2,r3,r4⟩
   ·have:=HM1.out;omega
   ·rw [hl] at e
    subst e
    subst hk
    have hL1:=LL1.out;have hL2:=LL2.out;have hL3:=LL3.out;have hP:=LPS.out
    have hws:=KWW0.out
    refine⟨w.heap.size,rfl,Keeps.fresh HK.out.1,⟨bc,bs,bp,bps,bq,v20,g,bb,bv⟩,⟨⟨cap',HM.out⟩,⟨cur,hg,fun j hj=>?_⟩,r22,r15,r20,fun j hj=>⟨HCB.out.r j hj,HQ.out j hj⟩,fun a b ha hb' e=>?_,fun z hz e=>?_,fun j hj z hz=>⟨fun e=>?_,fun e=>?_⟩,fun a b ha hb' hab z hz e=>?_⟩,⟨Nat.le_refl _,hL1.1,hL2.1,hL2.2,hL3.1,fun j hj=>?_,fun j hj z hz=>?_⟩⟩
    ·have a:=HCB.out.at' j hj
     rw [← r4,List.getElem?_take_of_lt (by omega),Array.getElem?_toList] at a
     exact a
    ·have e':bb a=bb b:=e
     rcases Nat.lt_trichotomy a b with h | h | h
     ·have:=HCB.out.up a b h hb';omega
     ·exact h
     ·have:=HCB.out.up b a h ha;omega
    ·have:=hL3.2 z hz
     have e':z=bps:=e
     omega
    ·have:=HCB.out.lov j hj z hz
     have e':z=bps:=e
     omega
    ·have h1:=HCB.out.lov j hj z hz
     have:=LV20.out z e
     omega
    ·rcases Nat.lt_trichotomy a b with h | h | h
     ·have:=HCB.out.ap a b h hb' z z hz e;omega
     ·exact hab h
     ·have:=HCB.out.ap b a h ha z z e hz;omega
    ·have:=HCB.out.lo j hj;show w.heap.size≤bb j;omega
    ·have:=HCB.out.lov j hj z hz;omega
end
theorem new15R (n:Nat) (w:World) (h1:1≤n) (h4:n≤256):Calls Tryz.prog 63 #[.int .i64 n] w fun e w'=>∃ b,e = .returned (.tuple #[.pointer (some ⟨b,0,none⟩),.int .i64 0])∧Keeps (fun _=>False) w w'∧w.heap.size≤b∧∃ s,w.heap.size≤s∧R15 w' b s ⟨n,fun _=>0⟩:=by
 obtain⟨C,hC,hC2⟩:=made_ints h1 h4
 have e1:¬ (n:Int)<1:=by omega
 have e4:¬ 256<(n:Int):=by omega
 have HC2:=hid hC2
 clear hC2
 go_enter Tryz.func63,Tryz.ntmps63
 go_wp2_with fail
 go_ret2
 have hsz:n≤C.size:=by have:=(Array.getElem?_eq_some_iff.1 (HC2.out (n - 1) (by omega))).1;omega
 exact⟨w.heap.size+1,rfl,((Keeps.refl _ _).alloc _).alloc _,by simp,w.heap.size,Nat.le_refl _,⟨⟨n,alloc_new' (by simp)⟩,⟨C,alloc_old alloc_new,hsz,HC2.out⟩,h1,h4⟩⟩
theorem new20R (n:Nat) (w:World) (h1:1≤n) (h4:n≤64):Calls Tryz.prog 64 #[.int .i64 n] w fun e w'=>∃ b,e = .returned (.tuple #[.pointer (some ⟨b,0,none⟩),.int .i64 0])∧Keeps (fun _=>False) w w'∧w.heap.size≤b∧R20 w' b (.slice none 0 0) ⟨false,0,n,0,fun _=>0⟩:=by
 have e1:¬ (n:Int)<1:=by omega
 have e4:¬ 64<(n:Int):=by omega
 go_enter Tryz.func64,Tryz.ntmps64
 go_wp2_with fail
 go_ret2
 exact⟨_,rfl,(Keeps.refl _ _).alloc _,Nat.le_refl _,⟨alloc_new,IRow.nil _ _,h1,h4,Nat.zero_le _,Int.le_refl _,by show (0:Int)≤64;decide⟩⟩
theorem new24R (n k q p:Nat) (w:World) (n1:1≤n) (n2:n≤256) (k1:1≤k) (k4:k≤4) (s1:1≤q) (s2:q≤64) (p1:1≤p) (p2:p≤64):
 Calls Tryz.prog 22 #[.int .i64 n,.int .i64 k,.int .i64 q,.int .i64 p] w fun e w'=>∃ m,e = .returned (.tuple #[.pointer (some ⟨m,0,none⟩),.int .i64 0])∧Keeps (fun _=>False) w w'∧D24 w.heap.size w' m (Mk.new n k q p) p:=by
 have e1:¬ (n:Int)<1:=by omega
 have e2:¬ 256<(n:Int):=by omega
 have e3:¬ (k:Int)<1:=by omega
 have e4:¬ 4<(k:Int):=by omega
 have e5:¬ (q:Int)<1:=by omega
 have e6:¬ 64<(q:Int):=by omega
 have e7:¬ (p:Int)<1:=by omega
 have e8:¬ 64<(p:Int):=by omega
 have H22:=hid (fun W=>new22_ok k W k1 k4)
 have H15:=hid (fun W=>new15R n W n1 n2)
 have H20:=hid (fun W=>new20R q W s1 s2)
 have HEM:=hid (fun m vC vP vS vB W h=>empty24R m n k p vC vP vS vB W h k1 k4 p1 p2)
 have HP12:=hid (And.intro p1 p2)
 clear n1 n2 k1 k4 s1 s2 p1 p2
 go_enter Tryz.func22,Tryz.ntmps22
 go_wp2_with fail
 refine (H22.out _).mono ?_
 rintro e w1 ⟨c,rfl,k1,lc,s,ls,h22⟩
 have HQ1:=hid (block_keep (alloc_new (w:=w) (o:=.cells #[.int .i64 n,.int .i64 k,.int .i64 p,.pointer none,.pointer none,.pointer none,.slice none 0 0] 134)) k1 (fun h=>h))
 have K1:=hid (((Keeps.refl (fun _=>False) w).alloc (.cells #[.int .i64 n,.int .i64 k,.int .i64 p,.pointer none,.pointer none,.pointer none,.slice none 0 0] 134)).trans k1)
 have HC:=hid h22
 obtain⟨c0,c1,c2,c3,c4,c5,c6,cf,cl⟩:=cells7f HQ1.out
 have cf3:=cf 3
 simp only [World.size_alloc] at lc ls
 clear k1 h22 cf
 go_wp2_with fail
 refine (H15.out _).mono ?_
 rintro e w2 ⟨pb,rfl,k2,lp,ps,lps,h15⟩
 have HQ2:=hid (block_keep ((set_block HQ1.out 3 _).trans rfl) k2 (fun h=>h))
 have K12:=hid ((keeps_set1 w1 w.heap.size 3 (.pointer (some ⟨c,0,none⟩))).trans k2.up)
 have HP:=hid h15
 have hs1:=lt_block HQ1.out
 have hz:=(keeps_set1 w1 w.heap.size 3 (.pointer (some ⟨c,0,none⟩))).size
 have lp':w.heap.size+1≤pb:=by omega
 have lps':w.heap.size+1≤ps:=by omega
 clear k2 h15 c0 c1 c2 c3 c4 c5 c6 cl cf3 lp lps hs1
 obtain⟨c0,c1,c2,c3,c4,c5,c6,cf,cl⟩:=cells7f HQ2.out
 have cf4:=cf 4
 clear cf
 go_wp2_with fail
 refine (H20.out _).mono ?_
 rintro e w3 ⟨sb,rfl,k3,lsb,h20⟩
 have HQ3:=hid (block_keep ((set_block HQ2.out 4 _).trans rfl) k3 (fun h=>h))
 have K23:=hid ((keeps_set1 w2 w.heap.size 4 (.pointer (some ⟨pb,0,none⟩))).trans k3.up)
 have HS:=hid h20
 have hs2:=lt_block HQ2.out
 have hz2:=(keeps_set1 w2 w.heap.size 4 (.pointer (some ⟨pb,0,none⟩))).size
 have lsb':w.heap.size+1≤sb:=by omega
 clear k3 h20 c0 c1 c2 c3 c4 c5 c6 cl cf4 lsb hs2
 obtain⟨c0,c1,c2,c3,c4,c5,c6,cf,cl⟩:=cells7f HQ3.out
 have cf5:=cf 5
 clear cf
 have HQ4:=hid ((set_block HQ3.out 5 (.pointer (some ⟨sb,0,none⟩))).trans rfl)
 go_wp2_with fail
 refine (HEM.out _ _ _ _ _ _ HQ4.out).mono ?_
 rintro e w5 ⟨rfl,k5,rb,cap,cur,bb,q5,r5,hcur,l,hnb⟩
 have K35:=hid ((keeps_set1 w3 w.heap.size 5 (.pointer (some ⟨sb,0,none⟩))).trans k5)
 have HQ5:=hid q5;have HR5:=hid r5;have HCU:=hid hcur;have HNB:=hid hnb
 have HL3:=hid (show w.heap.size+1≤(w3.setCell ⟨w.heap.size,5,none⟩ (.pointer (some ⟨sb,0,none⟩))).heap.size from by have:=lt_block HQ4.out;omega)
 clear k5 q5 r5 hcur hnb
 go_wp2_with fail
 go_ret2
 have kf:Keeps (fun y=>w.heap.size≤y) w w5:=(K1.out.up).trans ((K12.out.trans (K23.out.trans K35.out)).mono (fun y _ h=>by omega))
 have h22:=HC.out.keeps (K12.out.trans (K23.out.trans K35.out)) (by omega) (by omega)
 have h15:=HP.out.keeps (K23.out.trans K35.out) (by omega) (by omega)
 have h20:=HS.out.keeps K35.out (by omega) (fun k hk=>(by cases hk))
 refine⟨w.heap.size,rfl,Keeps.fresh kf,⟨c,s,pb,ps,sb,.slice none 0 0,rb,bb,fun _=>.slice none 0 0⟩,⟨⟨cap,HQ5.out⟩,⟨cur,HR5.out,HCU.out⟩,h22,h15,h20,fun j hj=>⟨⟨HNB.out.blk j hj,IRow.nil _ _,HP12.out.1,HP12.out.2,Nat.zero_le _⟩,rfl⟩,fun i j hi hj e=>?_,fun k hk=>(by cases hk),fun j _ k hk=>(by cases hk),fun i j _ _ _ k hk=>(by cases hk)⟩,⟨Nat.le_refl _,by show w.heap.size≤c;omega,by show w.heap.size≤pb;omega,by show w.heap.size≤ps;omega,by show w.heap.size≤sb;omega,fun j hj=>?_,fun j _ z hz=>(by cases hz)⟩⟩
 ·rcases Nat.lt_trichotomy i j with h | h | h
  ·have:=HNB.out.up i j h hj;have e':bb i=bb j:=e;omega
  ·exact h
  ·have:=HNB.out.up j i h hi;have e':bb i=bb j:=e;omega
 ·have:=HNB.out.lo j hj
  have:=HL3.out
  show w.heap.size≤bb j
  omega
end Go.Proofs.YtnlkfbndlngjaaaGreat
