import Derived.Test.YtnlkfbndlngjaaaGreatNgC
import Derived.Test.YtnlkfbndlngjaaaGreatRiC
set_option maxHeartbeats 1000000
set_option maxRecDepth 100000
namespace Go.Proofs.YtnlkfbndlngjaaaGreat
open Go.RowKit
attribute [local go_sem] Oper.semAt_some
set_option linter.unusedVariables false
set_option linter.unusedSimpArgs false
theorem run_append_ints0 (ty:TypeId) (base:Nat) (v:Value) (l:List Int) (p:Option Addr) (c:Nat) (w:World) (hv:IRow w base v l):
 (Builtin.append_ #[200,200] ty #[v,.slice p 0 c]).run Tryz.prog w = .ok v w:=by
 obtain⟨ri,hi1,hi2,hi3,hi4⟩:=int_info
 rcases hv.2 with⟨rfl,_⟩ | ⟨g,c',cur,rfl,_,_,hn,_⟩
 ·cases p <;> simp [Builtin.append_,run_underlying Tryz.underlying200,sizeOf,typeInfo,hi1,Builtin.lenOf,Builtin.firstCells,loadCells,loadCellsFrom]
 ·cases p <;> simp [Builtin.append_,run_underlying Tryz.underlying200,sizeOf,typeInfo,hi1,Builtin.lenOf,Builtin.firstCells,hn,storeCells,loadCells,loadCellsFrom]
theorem wpList_append_ints0 {ops:Array Oper} {rest:List Oper} {o:Oper} {a:Act} {Q:Exit→Act→World→Prop} (w:World) (hgd:o.guard=none) (s x:Operand)
 (ho:o.op = .call { callee:=.builtin .append,args:=#[s,x],argTypes:=#[200,200] })
 (base:Nat) (v:Value) (l:List Int) (p:Option Addr) (c:Nat) (hs:a.eval s=v) (hx:a.eval x = .slice p 0 c) (hv:IRow w base v l)
 (h:wpList Tryz.prog ops Q rest (a.put o.dst v) w):
 wpList Tryz.prog ops Q (o :: rest) a w:=by
 refine wpList_plain hgd fun K hK=>?_
 have hr:=run_append_ints0 o.type base v l p c w hv
 unfold Oper.wp execOp
 simp only [ho,resolve,invoke,builtin,Sem.run_bind,Sem.run_pure,Result.andThen_ok,List.map_toArray,List.map_cons,List.map_nil,hs,hx,hr]
 exact hK _ _ h
structure R21 (w:World) (b:Nat) (v:Value) (B:Bf):Prop where
 own:w.heap[b]?=some (.cells #[.int .i64 B.size,v,.bool (!B.whole)] 258)
 row:IRow w 0 v B.list
 p1:1≤B.size
 p2:B.size≤64
 nn:B.n≤B.size
section
variable {w w':World} {b:Nat} {v:Value} {B:Bf} {T:Nat→Prop}
theorem R21.keeps (h:R21 w b v B) (hk:Keeps T w w') (h1:¬ T b) (h2:∀ k,v.ownBlock=some k→¬ T k):R21 w' b v B:=
 ⟨block_keep h.own hk h1,h.row.keeps hk (fun k _ _ hk=>h2 k hk),h.p1,h.p2,h.nn⟩
theorem drain21 (h:R21 w b v B):Calls Tryz.prog 221 #[.pointer (some ⟨b,0,none⟩),.int .i64 64] w fun e w'=>∃ vo,e = .returned (.tuple #[vo,.int .i64 0])∧IRow w' w.heap.size vo B.list∧Keeps (fun y=>y=b) w w'∧∃ v',(∀ k,v'.ownBlock=some k→w.heap.size≤k∧¬ vo.ownBlock=some k)∧R21 w' b v' B.drain:=by
 obtain⟨c0,c1,c2,cl⟩:=cells3 h.own
 have cf1:=frozen_block h.own 1
 have p2:=h.p2;have nn:=h.nn
 have HH:=hid h
 have hl:B.list.length=B.n:=by simp [Bf.list]
 have hrow:=h.row
 have hc:(v = .slice none 0 0∧B.n=0∧B.list=[])∨∃ g c,v = .slice (some ⟨g,0,none⟩) B.n c∧B.n≤c:=by
  rcases hrow.2 with⟨e,e2⟩ | ⟨g',cap,cur,e,_,_,r1,_⟩
  ·exact .inl ⟨e,by omega,List.eq_nil_of_length_eq_zero e2⟩
  ·exact .inr ⟨g',cap,by rw [e,hl],by omega⟩
 have HE:=hid (irow_empty (base:=w.heap.size) (alloc_new (w:=w) (o:=.cells #[] 3)) (Nat.le_refl _))
 rcases hc with⟨rfl,h0,hn⟩ | ⟨g,c,rfl,hcap⟩
 ·have HN:=hid (And.intro h0 hn)
  have hmin:min (64:Int) 0=0:=by decide
  have HE2:=hid (irow_empty (base:=w.heap.size) (alloc_new' (w:=w.alloc (.cells #[] 3)) (o:=.cells #[] 3) (n:=w.heap.size+1) (by simp)) (Nat.le_succ _))
  clear h hl h0 hn hrow
  go_enter Tryz.func221,Tryz.ntmps221
  go_wp2_with (first
   | (at_builtin;refine wpList_append_ints0 _ rfl _ _ rfl w.heap.size (.slice (some ⟨w.heap.size,0,none⟩) 0 0) [] _ _ rfl rfl HE.out ?_)
   | (at_builtin;refine wpList_append_ints0 _ rfl _ _ rfl w.heap.size (.slice (some ⟨w.heap.size+1,0,none⟩) 0 0) [] _ _ rfl rfl HE2.out ?_)
   | fail)
  go_ret2
  have kf:Keeps (fun y=>y=b) w (((w.setCell ⟨b,1,none⟩ (.slice (some ⟨w.heap.size+1,0,none⟩) 0 0)).alloc (.cells #[] 3)).alloc (.cells #[] 3)):=((keeps_set1 _ _ _ _).alloc _).alloc _
  refine⟨_,rfl,?_,kf,.slice (some ⟨w.heap.size+1,0,none⟩) 0 0,fun k hk=>?_,⟨alloc_old (alloc_old (set_block HH.out.own 1 _)),?_,HH.out.p1,p2,Nat.zero_le _⟩⟩
  ·rw [HN.out.2]
   exact irow_empty (alloc_old (alloc_new' (by simp))) (Nat.le_refl _)
  ·have e:w.heap.size+1=k:=Option.some.inj hk
   refine⟨by omega,fun h2=>?_⟩
   have e2:w.heap.size=k:=Option.some.inj h2
   omega
  ·exact irow_empty (alloc_new' (by simp)) (Nat.zero_le _)
 ·have hcap1:(B.n:Int)≤(c:Int):=by omega
  have hmin:min (64:Int) (B.n:Int)=(B.n:Int):=by omega
  have hmin2:(if (B.n:Int)<64 then (B.n:Int) else 64)=(B.n:Int):=by split <;> omega
  have hn0:(0:Int)≤(B.n:Int):=by omega
  have HU:=hid (show ∀ o,Ints (w.alloc o) (.slice (some ⟨g,0,none⟩) B.n c) B.list from fun o=>(hrow.keeps ((Keeps.refl (fun _=>False) w).alloc o) (fun _ _ _ _ h=>h)).ints)
  obtain⟨l,hll⟩:∃ l,B.list=l:=⟨_,rfl⟩
  rw [hll] at hl HU ⊢
  have HL:=hid (And.intro hll hl)
  obtain⟨n,hn⟩:∃ n,B.n=n:=⟨_,rfl⟩
  rw [hn] at hcap hcap1 hmin hmin2 hn0 HU c1 nn HH
  have HN:=hid hn
  have HW1:Hid (∀ v5 w5,IRow w5 w.heap.size v5 ([] ++ l)→Keeps (fun k=>(Value.slice (some ⟨w.heap.size,0,none⟩) 0 0).ownBlock=some k) (w.alloc (.cells #[] 3)) w5→IRow w5 w.heap.size v5 l∧Keeps (fun _=>False) w w5):=hid (fun v5 w5 h1 h2=>⟨h1,((Keeps.refl (fun _=>False) w).alloc _).trans' h2 (fun _ _ h=>h) (fun y hy hz=>by
   have:w.heap.size=y:=Option.some.inj hz
   omega)⟩)
  clear h hl hll hn hrow
  go_enter Tryz.func221,Tryz.ntmps221
  go_wp2_with (first
   | (at_builtin;refine wpList_append_ints _ rfl _ _ rfl w.heap.size (.slice (some ⟨w.heap.size,0,none⟩) 0 0) (.slice (some ⟨g,0,none⟩) n c) [] l rfl rfl HE.out (HU.out _) (by have:=HL.out.2;have:=HN.out;simp only [List.length_nil];omega) (by rw [World.size_alloc];exact Nat.le_succ _) ?_;intro v5 w5 hr5 hk5 ho5;obtain⟨q5,k5⟩:=HW1.out _ _ hr5 hk5;have HR5:=hid q5;have HK5:=hid k5;obtain⟨d0,d1,d2,dl⟩:=cells3 (block_keep HH.out.own k5 (fun h=>h));have df1:=frozen_block (block_keep HH.out.own k5 (fun h=>h)) 1;have HS5:=hid k5.size;have HE5:=hid (irow_empty (base:=w5.heap.size) (alloc_new (w:=w5) (o:=.cells #[] 3)) (Nat.le_refl _));clear c0 c1 c2 cl cf1 hr5 hk5 ho5 q5 k5)
   | (at_builtin;refine wpList_append_ints0 _ rfl _ _ rfl w5.heap.size (.slice (some ⟨w5.heap.size,0,none⟩) 0 0) [] _ _ rfl rfl HE5.out ?_)
   | fail)
  all_goals
   go_ret2
   have hbl:=lt_block HH.out.own
   have ka:Keeps (fun y=>y=b) w5 ((w5.setCell ⟨b,1,none⟩ (.slice (some ⟨w5.heap.size,0,none⟩) 0 0)).alloc (.cells #[] 3)):=(keeps_set1 _ _ _ _).alloc _
   refine⟨_,rfl,HR5.out.keeps ka (fun k hk1 _ _ e=>by omega),HK5.out.up.trans ka,.slice (some ⟨w5.heap.size,0,none⟩) 0 0,fun k hk=>?_,⟨alloc_old (set_block (block_keep HH.out.own HK5.out (fun h=>h)) 1 _),irow_empty (alloc_new' (by simp)) (Nat.zero_le _),HH.out.p1,p2,Nat.zero_le _⟩⟩
   have e:w5.heap.size=k:=Option.some.inj hk
   refine⟨by have:=HS5.out;omega,fun h2=>?_⟩
   have:=(HR5.out.lt k h2).2
   omega
end
end Go.Proofs.YtnlkfbndlngjaaaGreat
namespace Go.Proofs.YtnlkfbndlngjaaaGreat
open Go.RowKit
attribute [local go_sem] Oper.semAt_some
set_option linter.unusedVariables false
set_option linter.unusedSimpArgs false
structure L24 where
 c:Nat
 cs:Nat
 p:Nat
 ps:Nat
 st:Nat
 sv:Value
 rb:Nat
 bb:Nat→Nat
 bv:Nat→Value
structure R24 (w:World) (m:Nat) (L:L24) (M:Mk) (q:Nat):Prop where
 own:∃ cap,w.heap[m]?=some (.cells #[.int .i64 M.P.n,.int .i64 M.K.many,.int .i64 q,.pointer (some ⟨L.c,0,none⟩),.pointer (some ⟨L.p,0,none⟩),.pointer (some ⟨L.st,0,none⟩),.slice (some ⟨L.rb,0,none⟩) M.K.many cap] 134)
 row:∃ cur,w.heap[L.rb]?=some (.cells cur 210)∧∀ j,j<M.K.many→cur[j]?=some (.pointer (some ⟨L.bb j,0,none⟩))
 clk:R22 w L.c L.cs M.K
 pt:R15 w L.p L.ps M.P
 st:R20 w L.st L.sv M.S
 bf:∀ j,j<M.K.many→R21 w (L.bb j) (L.bv j) (M.B j)∧(M.B j).size=q
 inj:∀ i j,i<M.K.many→j<M.K.many→L.bb i=L.bb j→i=j
 ap1:∀ k,L.sv.ownBlock=some k→k≠L.ps
 ap2:∀ j,j<M.K.many→∀ k,(L.bv j).ownBlock=some k→k≠L.ps∧L.sv.ownBlock≠some k
 ap3:∀ i j,i<M.K.many→j<M.K.many→i≠j→∀ k,(L.bv i).ownBlock=some k→(L.bv j).ownBlock≠some k
section
variable {w w':World} {m q:Nat} {L:L24} {M:Mk} {S:Nat→Prop}
theorem R21.ne {b z:Nat} {v:Value} {B:Bf} {c:Array Value} {t:TypeId} (h:R21 w b v B) (hz:w.heap[z]?=some (.cells c t)) (ht:3≠t):¬ v.ownBlock=some z:=by
 intro e
 rcases h.row.2 with⟨rfl,_⟩ | ⟨g,cap,cur,rfl,_,hg,_⟩
 ·cases e
 ·obtain rfl:g=z:=Option.some.inj e
  exact type_ne hg hz ht rfl
theorem R20.lt {b:Nat} {v:Value} {T:Sq} (h:R20 w b v T):∀ k,v.ownBlock=some k→k<w.heap.size:=fun k hk=>(h.row.lt k hk).2
theorem R21.lt {b:Nat} {v:Value} {B:Bf} (h:R21 w b v B):∀ k,v.ownBlock=some k→k<w.heap.size:=fun k hk=>(h.row.lt k hk).2
theorem R24.setPS {P:Pt} {T:Sq} {v:Value} (h:R24 w m L M q) (hk:Keeps (fun y=>y=L.ps∨y=L.st) w w') (hP:R15 w' L.p L.ps P) (hT:R20 w' L.st v T) (hn:P.n=M.P.n)
 (hv:∀ k,v.ownBlock=some k→L.sv.ownBlock=some k∨w.heap.size≤k):R24 w' m { L with sv:=v } { M with P:=P,S:=T } q:=by
 obtain⟨⟨cap,o⟩,⟨cur,r,hr⟩,hc,hp,hs,hb,hi,a1,a2,a3⟩:=h
 obtain⟨cp,op⟩:=hp.own
 obtain⟨curp,rp,_,_⟩:=hp.row
 have os:=hs.own
 have no:∀ {z:Nat} {cs:Array Value} {t:TypeId},w.heap[z]?=some (.cells cs t)→t≠3→t≠209→¬ (z=L.ps∨z=L.st):=fun hz h1 h2 h=>h.elim (fun e=>type_ne hz rp h1 e) (fun e=>type_ne hz os h2 e)
 obtain⟨ck,oc⟩:=hc.own
 obtain⟨curc,rc,_⟩:=hc.row
 refine⟨⟨cap,by show w'.heap[m]?=some (.cells #[.int .i64 P.n,_,_,_,_,_,_] _);rw [hn];exact block_keep o hk (no o (by decide) (by decide))⟩,⟨cur,block_keep r hk (no r (by decide) (by decide)),hr⟩,hc.keeps hk (no oc (by decide) (by decide)) (no rc (by decide) (by decide)),hP,hT,fun j hj=>?_,hi,?_,?_,a3⟩
 ·obtain⟨h1,h2⟩:=hb j hj
  refine⟨h1.keeps hk (no h1.own (by decide) (by decide)) (fun k hk' h=>?_),h2⟩
  rcases h with rfl | rfl
  ·exact (a2 j hj _ hk').1 rfl
  ·exact h1.ne os (by decide) hk'
 ·intro k hk'
  rcases hv k hk' with h | h
  ·exact a1 k h
  ·have:=lt_block rp;show k≠L.ps;omega
 ·intro j hj k hk'
  refine⟨(a2 j hj k hk').1,fun h=>?_⟩
  rcases hv k h with h | h
  ·exact (a2 j hj k hk').2 h
  ·have:=(hb j hj).1.lt k hk';omega
theorem shade24 (i:Nat) (h:R24 w m L M q) (hi:i<M.P.n):Calls Tryz.prog 219 #[.pointer (some ⟨m,0,none⟩),.int .i64 i] w fun e w'=>e = .returned (.tuple #[])∧Keeps (fun y=>y=L.ps∨y=L.st) w w'∧∃ v,R24 w' m { L with sv:=v } { M with P:=(shd M.P M.S i).1,S:=(shd M.P M.S i).2 } q:=by
 have HS:=hid (shade15_ok i h.pt hi)
 have HH:=hid h
 have n2:=h.pt.n2
 obtain⟨⟨cap,o⟩,_⟩:=h
 obtain⟨c0,c1,c2,c3,c4,c5,c6,cf,cl⟩:=cells7f o
 have HO:=hid o
 clear o cf
 have ni:∀ {z:Nat} {cs:Array Value} {t:TypeId},w.heap[z]?=some (.cells cs t)→t≠3→z≠L.ps:=fun hz h1 e=>by
  obtain⟨curp,rp,_,_⟩:=HH.out.pt.row
  exact type_ne hz rp h1 e
 have HNI:=hid (show L.st≠L.ps∧m≠L.ps from⟨ni HH.out.st.own (by decide),ni HO.out (by decide)⟩)
 have hap:=HH.out.ap1
 by_cases hc:M.P.c i=0
 ·have hsh:M.P.shade i=M.P.put i 1:=by unfold Pt.shade;rw [if_pos hc]
  have HC:=hid hc
  rw [hc] at HS
  have hst:L.p≠L.st:=by obtain⟨cp,op⟩:=HH.out.pt.own;exact type_ne op HH.out.st.own (by decide)
  rw [hsh] at HS
  have HPU:Hid (∀ w1,Keeps (fun y=>y=L.ps) w w1→Calls Tryz.prog 255 #[.pointer (some ⟨L.st,0,none⟩),.int .i64 i] w1 fun e w'=>∃ B,e = .returned (.tuple #[.bool B,.int .i64 0])∧Keeps (fun y=>y=L.st) w1 w'∧∃ v,(∀ k,v.ownBlock=some k→L.sv.ownBlock=some k∨w.heap.size≤k)∧R20 w' L.st v (shd M.P M.S i).2):=hid (fun w1 k1=>by
   have h1:=HH.out.st.keeps k1 HNI.out.1 (fun k hk e=>hap k hk e)
   have hsh2:(shd M.P M.S i).2=if M.S.n=M.S.size then M.S.full else M.S.push i:=by unfold shd;rw [if_pos HC.out]
   rw [hsh2]
   by_cases hf:M.S.n=M.S.size
   ·rw [if_pos hf]
    refine (push20_full (i:Int) h1 (by omega) (by omega) hf).mono ?_
    rintro e w2 ⟨e1,e2,e3⟩
    exact⟨false,e1,e2,_,fun k hk=>.inl hk,e3⟩
   ·rw [if_neg hf]
    have:=HH.out.st.nn
    refine (push20_ok (i:Int) h1 (by omega) (by omega) (by omega)).mono ?_
    rintro e w2 ⟨e1,e2,v,e3,e4⟩
    exact⟨true,e1,e2,v,fun k hk=>.inr (Nat.le_trans k1.size (e3 k hk)),e4⟩)
  have e1:(shd M.P M.S i).1=M.P.put i 1:=by unfold shd;rw [if_pos HC.out]
  have HE1:=hid e1
  have hb:((0:Int) == 0)=true:=rfl
  rw [hb] at HS
  clear hc hsh e1 hb
  go_enter Tryz.func219,Tryz.ntmps219
  go_wp2_with fail
  refine HS.out.mono ?_
  rintro e w1 ⟨rfl,k1,h1⟩
  have K1:=hid k1;have H1:=hid h1
  obtain⟨d0,d1,d2,d3,d4,d5,d6,df,dl⟩:=cells7f (block_keep HO.out k1 HNI.out.2)
  clear k1 h1 df c0 c1 c2 c3 c4 c5 c6 cl
  go_wp2_with fail
  refine (HPU.out _ K1.out).mono ?_
  rintro e w2 ⟨B,rfl,k2,v,hv,h2⟩
  have K2:=hid k2;have H2:=hid h2;have HVV:=hid hv
  clear k2 h2 hv
  go_wp2_with fail
  go_end0
  have kk:Keeps (fun y=>y=L.ps∨y=L.st) w w2:=(K1.out.mono (fun _ _ h=>.inl h)).trans (K2.out.mono (fun _ _ h=>.inr h))
  have hP2:=H1.out.keeps K2.out hst (fun e=>HNI.out.1 e.symm)
  rw [← HE1.out] at hP2
  exact⟨rfl,kk,v,HH.out.setPS kk hP2 H2.out (by rw [HE1.out];rfl) HVV.out⟩
 ·have hsh:M.P.shade i=M.P:=by unfold Pt.shade;rw [if_neg hc]
  have e:shd M.P M.S i=(M.P,M.S):=by unfold shd;rw [if_neg hc]
  have hc0:(M.P.c i == 0)=false:=by simpa using hc
  rw [hc0,hsh] at HS
  rw [e]
  clear hc hsh e hc0
  go_enter Tryz.func219,Tryz.ntmps219
  go_wp2_with fail
  refine HS.out.mono ?_
  rintro e w1 ⟨rfl,k1,h1⟩
  have K1:=hid k1;have H1:=hid h1
  clear k1 h1
  go_wp2_with fail
  go_end0
  have hst:=HH.out.st.keeps K1.out HNI.out.1 (fun k hk e=>hap k hk e)
  exact⟨rfl,K1.out.mono (fun _ _ h=>.inl h),L.sv,HH.out.setPS (K1.out.mono (fun _ _ h=>.inl h)) H1.out hst rfl (fun k hk=>.inl hk)⟩
end
end Go.Proofs.YtnlkfbndlngjaaaGreat
namespace Go.Proofs.YtnlkfbndlngjaaaGreat
open Go.RowKit
attribute [local go_sem] Oper.semAt_some
set_option linter.unusedVariables false
set_option linter.unusedSimpArgs false
section
variable {w w':World} {m q:Nat} {L:L24} {M:Mk} {S:Nat→Prop}
theorem R24.cells (h:R24 w m L M q):∃ cap,w.cell? ⟨m,0,none⟩=some (.int .i64 M.P.n)∧w.cell? ⟨m,1,none⟩=some (.int .i64 M.K.many)∧w.cell? ⟨m,2,none⟩=some (.int .i64 q)∧w.cell? ⟨m,3,none⟩=some (.pointer (some ⟨L.c,0,none⟩))∧w.cell? ⟨m,4,none⟩=some (.pointer (some ⟨L.p,0,none⟩))∧w.cell? ⟨m,5,none⟩=some (.pointer (some ⟨L.st,0,none⟩))∧w.cell? ⟨m,6,none⟩=some (.slice (some ⟨L.rb,0,none⟩) M.K.many cap)∧m<w.heap.size:=by
 obtain⟨⟨cap,o⟩,_⟩:=h
 obtain⟨c0,c1,c2,c3,c4,c5,c6,_,cl⟩:=cells7f o
 exact⟨cap,c0,c1,c2,c3,c4,c5,c6,cl⟩
theorem R24.val (h:R24 w m L M q):Calls Tryz.prog 143 #[.pointer (some ⟨m,0,none⟩)] w fun e w'=>e = .returned (.bool true)∧w'=w:=by
 obtain⟨cap,c0,_⟩:=h.cells
 have:=h.pt.n1
 exact valid24 m M.P.n w c0 (by omega)
theorem phase24R (h:R24 w m L M q):Calls Tryz.prog 83 #[.pointer (some ⟨m,0,none⟩)] w fun e w'=>e = .returned (.int .i64 M.K.ph)∧w'=w:=by
 obtain⟨cap,c0,c1,c2,c3,c4,c5,c6,cl⟩:=h.cells
 have HV:=hid h.val
 have HP:=hid (phase22 h.clk)
 clear h
 go_enter Tryz.func83,Tryz.ntmps83
 go_wp2_with fail
 refine (HV.out).mono ?_
 rintro e w' ⟨rfl,h'⟩
 obtain rfl:=h'.symm
 go_wp2_with fail
 refine (HP.out).mono ?_
 rintro e w' ⟨rfl,h'⟩
 obtain rfl:=h'.symm
 go_wp2_with fail
 go_ret
 exact⟨rfl,rfl⟩
theorem ended24 (h:R24 w m L M q):Calls Tryz.prog 84 #[.pointer (some ⟨m,0,none⟩)] w fun e w'=>e = .returned (.bool (decide (4≤(M.K.ph:Int))))∧w'=w:=by
 have HP:=hid (phase24R h)
 clear h
 go_enter Tryz.func84,Tryz.ntmps84
 go_wp2_with fail
 refine (HP.out).mono ?_
 rintro e w' ⟨rfl,h'⟩
 obtain rfl:=h'.symm
 go_wp2_with fail
 go_ret
 exact⟨rfl,rfl⟩
theorem marked24_ok (i:Nat) (h:R24 w m L M q) (hi:i<M.P.n):Calls Tryz.prog 86 #[.pointer (some ⟨m,0,none⟩),.int .i64 i] w fun e w'=>e = .returned (.tuple #[.bool (M.P.c i != 0),.int .i64 0])∧w'=w:=by
 obtain⟨cap,c0,c1,c2,c3,c4,c5,c6,cl⟩:=h.cells
 have HV:=hid h.val
 have HO:=hid (of15_ok i h.pt hi)
 obtain⟨B,hB⟩:∃ B,(M.P.c i != 0)=B:=⟨_,rfl⟩
 obtain⟨x,hx⟩:∃ x,M.P.c i=x:=⟨_,rfl⟩
 rw [hx] at HO hB
 rw [hx,hB]
 clear h hx
 go_enter Tryz.func86,Tryz.ntmps86
 go_wp2_with fail
 refine (HV.out).mono ?_
 rintro e w' ⟨rfl,h'⟩
 obtain rfl:=h'.symm
 go_wp2_with fail
 refine (HO.out).mono ?_
 rintro e w' ⟨rfl,h'⟩
 obtain rfl:=h'.symm
 go_wp2_with fail
 go_ret2
 exact⟨rfl,rfl⟩
theorem marked24_range (i:Int) (h:R24 w m L M q) (hi:i<0∨(M.P.n:Int)≤i):Calls Tryz.prog 86 #[.pointer (some ⟨m,0,none⟩),.int .i64 i] w fun e w'=>e = .returned (.tuple #[.bool false,.int .i64 3])∧w'=w:=by
 obtain⟨cap,c0,c1,c2,c3,c4,c5,c6,cl⟩:=h.cells
 have HV:=hid h.val
 have HO:=hid (of15_range i h.pt hi)
 clear h hi
 go_enter Tryz.func86,Tryz.ntmps86
 go_wp2_with fail
 refine (HV.out).mono ?_
 rintro e w' ⟨rfl,h'⟩
 obtain rfl:=h'.symm
 go_wp2_with fail
 refine (HO.out).mono ?_
 rintro e w' ⟨rfl,h'⟩
 obtain rfl:=h'.symm
 go_wp2_with fail
 go_ret2
 exact⟨rfl,rfl⟩
theorem freed24_range (i:Int) (h:R24 w m L M q) (hi:i<0∨(M.P.n:Int)≤i):Calls Tryz.prog 76 #[.pointer (some ⟨m,0,none⟩),.int .i64 i] w fun e w'=>e = .returned (.int .i64 3)∧w'=w:=by
 obtain⟨cap,c0,c1,c2,c3,c4,c5,c6,cl⟩:=h.cells
 have HV:=hid h.val
 have HO:=hid (bleach15_range i h.pt hi)
 clear h hi
 go_enter Tryz.func76,Tryz.ntmps76
 go_wp2_with fail
 refine (HV.out).mono ?_
 rintro e w' ⟨rfl,h'⟩
 obtain rfl:=h'.symm
 go_wp2_with fail
 refine (HO.out).mono ?_
 rintro e w' ⟨rfl,h'⟩
 obtain rfl:=h'.symm
 go_wp2_with fail
 go_ret
 exact⟨rfl,rfl⟩
theorem R24.setP {P:Pt} (h:R24 w m L M q) (hk:Keeps (fun y=>y=L.ps) w w') (hP:R15 w' L.p L.ps P) (hn:P.n=M.P.n):R24 w' m L { M with P:=P } q:=by
 have hst:L.st≠L.ps:=by
  obtain⟨curp,rp,_,_⟩:=h.pt.row
  exact type_ne h.st.own rp (by decide)
 exact h.setPS (v:=L.sv) (T:=M.S) (hk.mono (fun _ _ h=>.inl h)) hP (h.st.keeps hk hst (fun k hk e=>h.ap1 k hk e)) hn (fun k hk=>.inl hk)
theorem freed24_ok (i:Nat) (h:R24 w m L M q) (hi:i<M.P.n):Calls Tryz.prog 76 #[.pointer (some ⟨m,0,none⟩),.int .i64 i] w fun e w'=>e = .returned (.int .i64 0)∧Keeps (fun y=>y=L.ps) w w'∧R24 w' m L { M with P:=M.P.put i 0 } q:=by
 obtain⟨cap,c0,c1,c2,c3,c4,c5,c6,cl⟩:=h.cells
 have HV:=hid h.val
 have HO:=hid (bleach15_ok i h.pt hi)
 have HH:=hid h
 clear h
 go_enter Tryz.func76,Tryz.ntmps76
 go_wp2_with fail
 refine (HV.out).mono ?_
 rintro e w' ⟨rfl,h'⟩
 obtain rfl:=h'.symm
 go_wp2_with fail
 refine HO.out.mono ?_
 rintro e w1 ⟨rfl,k1,h1⟩
 have K1:=hid k1;have H1:=hid h1
 clear k1 h1
 go_wp2_with fail
 go_ret
 exact⟨rfl,K1.out,HH.out.setP K1.out H1.out rfl⟩
theorem R24.setC {K:Ck} {cs:Nat} (h:R24 w m L M q) (hk:Keeps (fun y=>y=L.c) w w') (hK:R22 w' L.c cs K) (hm:K.many=M.K.many):R24 w' m { L with cs:=cs } { M with K:=K } q:=by
 obtain⟨⟨cap,o⟩,⟨cur,r,hr⟩,hc,hp,hs,hb,hi,a1,a2,a3⟩:=h
 obtain⟨ck,oc⟩:=hc.own
 have no:∀ {z:Nat} {cs:Array Value} {t:TypeId},w.heap[z]?=some (.cells cs t)→t≠205→¬ z=L.c:=fun hz h1 e=>type_ne hz oc h1 e
 obtain⟨cp,op⟩:=hp.own
 obtain⟨curp,rp,_,_⟩:=hp.row
 refine⟨⟨cap,by show w'.heap[m]?=some (.cells #[_,.int .i64 K.many,_,_,_,_,.slice _ K.many _] _);rw [hm];exact block_keep o hk (no o (by decide))⟩,⟨cur,block_keep r hk (no r (by decide)),fun j hj=>hr j (by rw [← hm];exact hj)⟩,hK,hp.keeps hk (no op (by decide)) (no rp (by decide)),hs.keeps hk (no hs.own (by decide)) (fun k hk' e=>?_),fun j hj=>?_,fun i j h1 h2=>hi i j (by rw [← hm];exact h1) (by rw [← hm];exact h2),a1,fun j hj=>a2 j (by rw [← hm];exact hj),fun i j h1 h2=>a3 i j (by rw [← hm];exact h1) (by rw [← hm];exact h2)⟩
 ·subst e
  rcases hs.row.2 with⟨e,_⟩ | ⟨g,cp',cu,e,_,hg,_⟩
  ·rw [e] at hk';cases hk'
  ·rw [e] at hk'
   obtain rfl:g=L.c:=Option.some.inj hk'
   exact type_ne hg oc (by decide) rfl
 ·obtain⟨h1,h2⟩:=hb j (by rw [← hm];exact hj)
  exact⟨h1.keeps hk (no h1.own (by decide)) (fun k hk' e=>by subst e;exact h1.ne oc (by decide) hk'),h2⟩
theorem begin24R (h:R24 w m L M q) (h0:M.K.ph=0):Calls Tryz.prog 73 #[.pointer (some ⟨m,0,none⟩)] w fun e w'=>e = .returned (.int .i64 0)∧Keeps (fun y=>y=L.c) w w'∧∃ cs,R24 w' m { L with cs:=cs } { M with K:=M.K.to 1 } q:=by
 obtain⟨cap,c0,c1,c2,c3,c4,c5,c6,cl⟩:=h.cells
 have HV:=hid h.val
 have HB:=hid (begin22 h.clk h0)
 have HH:=hid h
 clear h
 go_enter Tryz.func73,Tryz.ntmps73
 go_wp2_with fail
 refine (HV.out).mono ?_
 rintro e w' ⟨rfl,h'⟩
 obtain rfl:=h'.symm
 go_wp2_with fail
 refine HB.out.mono ?_
 rintro e w1 ⟨rfl,k1,cs,_,h1⟩
 have K1:=hid k1;have H1:=hid h1
 clear k1 h1
 go_wp2_with fail
 go_ret
 exact⟨rfl,K1.out,cs,HH.out.setC K1.out H1.out rfl⟩
end
end Go.Proofs.YtnlkfbndlngjaaaGreat
