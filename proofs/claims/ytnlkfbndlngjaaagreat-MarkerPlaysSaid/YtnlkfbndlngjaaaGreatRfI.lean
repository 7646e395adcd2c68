import Derived.Test.YtnlkfbndlngjaaaGreatRcF
import Derived.Test.YtnlkfbndlngjaaaGreatRfF
import Derived.OrdersHeld
import Derived.Deep.RegionHeld
set_option maxHeartbeats 4000000
set_option maxRecDepth 100000
namespace Go.Proofs.YtnlkfbndlngjaaaGreat
open Go.RowKit
set_option linter.unusedVariables false
set_option linter.unusedSimpArgs false
def RefsO (w:World) (u:Value) (m:List Rf):Prop:=
 (∃ c,u = .slice none 0 c∧m=[])∨∃ g o cap cur,u = .slice (some ⟨g,o,none⟩) m.length cap∧w.heap[g]?=some (.cells cur 34)∧∀ (j:Nat) (r:Rf),m[j]?=some r→cur[o+j * 2]?=some (.int .i64 r.s)∧cur[o+(j * 2+1)]?=some (.int .u32 r.g)
theorem Refs.o {w:World} {u:Value} {m:List Rf} (h:Refs w u m):RefsO w u m:=by
 rcases h with⟨rfl,rfl⟩ | ⟨g,cap,cur,rfl,hg,hc⟩
 ·exact .inl ⟨0,rfl,rfl⟩
 ·exact .inr ⟨g,0,cap,cur,rfl,hg,fun j r hj=>by rw [Nat.zero_add,Nat.zero_add];exact hc j r hj⟩
def CapOk:Value→Prop
 | .slice _ n c=>n≤c
 | _=>True
structure RefsC (w:World) (v:Value) (l:List Rf):Prop where
 r:Refs w v l
 c:CapOk v
theorem RefsC.keeps {w w':World} {v:Value} {l:List Rf} {S:Nat→Prop} (h:RefsC w v l) (hk:Keeps S w w') (hS:∀ k,v.ownBlock=some k→¬ S k):RefsC w' v l:=⟨h.r.keeps hk hS,h.c⟩
theorem RefsC.o {w:World} {v:Value} {l:List Rf} (h:RefsC w v l):RefsO w v l:=h.r.o
theorem RefsC.slice {w:World} {v:Value} {l:List Rf} (h:RefsC w v l):∃ p c,v = .slice p l.length c:=h.r.slice
theorem RefsC.le {w:World} {p:Option Addr} {n c:Nat} {l:List Rf} (h:RefsC w (.slice p n c) l):n≤c:=h.c
theorem Row.refsC {w:World} {base:Nat} {v:Value} {l:List Rf} (h:Row w base v l):RefsC w v l:=by
 refine⟨h.refs,?_⟩
 rcases h.2 with⟨rfl,_⟩ | ⟨g,c,cur,rfl,_,_,hn,_⟩
 ·exact Nat.le_refl 0
 ·exact hn
theorem run_append_refsO (ty:TypeId) (base:Nat) (v u:Value) (l m:List Rf) (w:World) (hv:Row w base v l) (hu:RefsO w u m) (h1:l.length+m.length≤1000000) (hb:base≤w.heap.size):
 ∃ v' w',(Builtin.append_ #[46,46] ty #[v,u]).run Tryz.prog w = .ok v' w'∧Row w' base v' (l ++ m)∧Keeps (fun k=>v.ownBlock=some k) w w'∧(v'.ownBlock=v.ownBlock∨v'.ownBlock=some w.heap.size):=by
 obtain⟨ri,hi1,hi2,hi3,hi4⟩:=ref_info
 rcases hu with⟨c0,rfl,rfl⟩ | ⟨g,o,cap,cur,rfl,hg,hc⟩
 ·refine⟨v,w,?_,by simpa using hv,Keeps.refl _ _,.inl rfl⟩
  rcases hv.2 with⟨rfl,_⟩ | ⟨g,c,cur,rfl,_,_,hn,_⟩
  ·simp [Builtin.append_,run_underlying Tryz.underlying46,sizeOf,typeInfo,hi1,Builtin.lenOf,Builtin.firstCells]
  ·simp [Builtin.append_,run_underlying Tryz.underlying46,sizeOf,typeInfo,hi1,Builtin.lenOf,Builtin.firstCells,hn,storeCells]
 ·obtain⟨v',w',r1,r2,r3,_,r5⟩:=run_append_own_at (P:=Tryz.prog) w base 46 ty 34 ri (.agg #[.int .i64 0,.int .u32 0]) 2 16 Tryz.underlying46 hi1 hi2 hi3 hi4 rfl (by decide) v l.length (l.flatMap encR) hv ⟨g,o,none⟩ m.length cap (m.flatMap encR) (encR_len m)
   (fun j x hj=>by
    have hjl:j<m.length * 2:=by rw [← encR_len];exact (List.getElem?_eq_some_iff.1 hj).1
    obtain⟨r,hr⟩:∃ r,m[j / 2]?=some r:=⟨_,List.getElem?_eq_getElem (by omega)⟩
    obtain⟨a,b⟩:=hc _ r hr
    obtain⟨a',b'⟩:=encR_at hr
    have e0:(⟨g,o,none⟩:Addr).add j=⟨g,o+j,none⟩:=by unfold Addr.add;split <;> simp_all
    rw [e0,cell_block hg]
    by_cases e:j % 2=0
    ·have e2:j=j / 2 * 2:=by omega
     rw [e2] at hj ⊢
     rw [a];rw [a'] at hj;exact hj
    ·have e2:j=j / 2 * 2+1:=by omega
     rw [e2] at hj ⊢
     rw [b];rw [b'] at hj;exact hj)
   (fun u hu=>encR_one hu) (by simp [maxLen];omega) (by omega) hb
  refine⟨v',w',r1,?_,(grown_keeps r3).mono (fun k _ h=>h),r5⟩
  unfold Row
  rw [List.length_append,List.flatMap_append]
  exact r2
theorem wpList_append_refsO {ops:Array Oper} {rest:List Oper} {o:Oper} {a:Act} {Q:Exit→Act→World→Prop} (w:World) (hgd:o.guard=none) (s x:Operand)
 (ho:o.op = .call { callee:=.builtin .append,args:=#[s,x],argTypes:=#[46,46] })
 (base:Nat) (v u:Value) (l m:List Rf) (hs:a.eval s=v) (hx:a.eval x=u) (hv:Row w base v l) (hu:RefsO w u m) (h1:l.length+m.length≤1000000) (hb:base≤w.heap.size)
 (h:∀ v' w',Row w' base v' (l ++ m)→Keeps (fun k=>v.ownBlock=some k) w w'→(v'.ownBlock=v.ownBlock∨v'.ownBlock=some w.heap.size)→wpList Tryz.prog ops Q rest (a.put o.dst v') w'):
 wpList Tryz.prog ops Q (o :: rest) a w:=by
 refine wpList_plain hgd fun K hK=>?_
 obtain⟨v',w',hr,h2,h3,h4⟩:=run_append_refsO o.type base v u l m w hv hu h1 hb
 unfold Oper.wp execOp
 simp only [ho,resolve,invoke,builtin,Sem.run_bind,Sem.run_pure,Result.andThen_ok,List.map_toArray,List.map_cons,List.map_nil,hs,hx,hr]
 exact hK _ _ (h v' w' h2 h3 h4)
theorem step_append_refsO {ops:Array Oper} {o:Oper} {a:Act} {K:Act→World→Prop} {Q:Exit→Act→World→Prop} {E:Prop} (w:World) (hgd:o.guard=none) (s x:Operand)
 (ho:o.op = .call { callee:=.builtin .append,args:=#[s,x],argTypes:=#[46,46] })
 (base:Nat) (v u:Value) (l m:List Rf) (hs:a.eval s=v) (hx:a.eval x=u) (hv:Row w base v l) (hu:RefsO w u m) (h1:l.length+m.length≤1000000) (hb:base≤w.heap.size)
 (h:∀ v' w',Row w' base v' (l ++ m)→Keeps (fun k=>v.ownBlock=some k) w w'→(v'.ownBlock=v.ownBlock∨v'.ownBlock=some w.heap.size)→K (a.put o.dst v') w'):
 if Region.wanted o (yielded ops a.tmps)=true then Oper.wp Tryz.prog o a w K Q else E:=by
 have hw:Region.wanted o (yielded ops a.tmps)=true:=by simp [Region.wanted,hgd]
 rw [if_pos hw]
 obtain⟨v',w',hr,h2,h3,h4⟩:=run_append_refsO o.type base v u l m w hv hu h1 hb
 unfold Oper.wp execOp
 simp only [ho,resolve,invoke,builtin,Sem.run_bind,Sem.run_pure,Result.andThen_ok,List.map_toArray,List.map_cons,List.map_nil,hs,hx,hr]
 exact h v' w' h2 h3 h4
theorem row_empty {w:World} {base B:Nat} (h:w.heap[B]?=some (.cells #[] 34)) (hb:base≤B):Row w base (.slice (some ⟨B,0,none⟩) 0 0) []:=
 ⟨by simp,.inr ⟨B,0,#[],rfl,hb,h,by simp,by simp,by simp,by simp⟩⟩
structure L18 where
 hb:Nat
 hr:Nat
 sr:Nat
 sv:Nat→Value
structure R18 (w:World) (x:Nat) (L:L18) (A:Ar):Prop where
 own:∃ c cap,w.heap[x]?=some (.cells c 149)∧c.size=20∧c[0]?=some (.bool true)∧c[1]?=some (.int .i64 A.H.T.n)∧c[2]?=some (.pointer (some ⟨L.hb,0,none⟩))∧c[3]?=some (.slice (some ⟨L.sr,0,none⟩) A.many cap)∧Rfs c 4 8 A.gl∧A.many≤cap∧cap≤maxLen
 heap:R14 w L.hb L.hr A.H
 row:∃ c,w.heap[L.sr]?=some (.cells c 46)∧∀ m,m<A.many→c[m]?=some (L.sv m)
 st:∀ m,m<A.many→RefsC w (L.sv m) (A.rt m).l
 ok:A.Ok
def Alien (S:Nat→Prop) (w:World):Prop:=∀ y c t,w.heap[y]?=some (.cells c t)→t=149∨t=217∨t=220∨t=46∨t=34→¬ S y
theorem Alien.no (w:World):Alien (fun _=>False) w:=fun _ _ _ _ _ h=>h
section
variable {w w':World} {x:Nat} {L:L18} {A:Ar}
theorem R18.keeps {S:Nat→Prop} (h:R18 w x L A) (hk:Keeps S w w') (hS:Alien S w):R18 w' x L A:=by
 obtain⟨c,cap,h1,h2⟩:=h.own
 obtain⟨cr,r1,r2⟩:=h.row
 obtain⟨_,_,_,a1⟩:=h.heap.own
 obtain⟨_,a2,_⟩:=h.heap.row
 refine⟨⟨c,cap,block_keep h1 hk (hS _ _ _ h1 (.inl rfl)),h2⟩,h.heap.keeps hk (hS _ _ _ a1 (by simp)) (hS _ _ _ a2 (by simp)),⟨cr,block_keep r1 hk (hS _ _ _ r1 (by simp)),r2⟩,fun m hm=>(h.st m hm).keeps hk (fun k hk'=>?_),h.ok⟩
 rcases (h.st m hm).r with⟨e,_⟩ | ⟨g,cap,cur,e,hg,_⟩
 ·rw [e] at hk';cases hk'
 ·rw [e] at hk'
  obtain rfl:g=k:=Option.some.inj hk'
  exact hS _ _ _ hg (by simp)
theorem R18.k0 (h:R18 w x L A) (hk:Keeps (fun _=>False) w w'):R18 w' x L A:=h.keeps hk (Alien.no w)
theorem R18.lt (h:R18 w x L A):x<w.heap.size∧L.sr<w.heap.size:=by
 obtain⟨c,cap,h1,h2⟩:=h.own
 obtain⟨cr,r1,r2⟩:=h.row
 exact⟨lt_block h1,lt_block r1⟩
theorem R18.made (h:R18 w x L A):w.cell? ⟨x,0,none⟩=some (.bool true):=by
 obtain⟨c,cap,h1,_,h2,_⟩:=h.own
 exact cell_at h1 h2
theorem R18.c1 (h:R18 w x L A):w.cell? ⟨x,1,none⟩=some (.int .i64 A.H.T.n):=by
 obtain⟨c,cap,h1,_,_,h2,_⟩:=h.own
 exact cell_at h1 h2
theorem R18.c2 (h:R18 w x L A):w.cell? ⟨x,2,none⟩=some (.pointer (some ⟨L.hb,0,none⟩)):=by
 obtain⟨c,cap,h1,_,_,_,h2,_⟩:=h.own
 exact cell_at h1 h2
theorem R18.c3 (h:R18 w x L A):∃ cap,A.many≤cap∧cap≤maxLen∧w.cell? ⟨x,3,none⟩=some (.slice (some ⟨L.sr,0,none⟩) A.many cap):=by
 obtain⟨c,cap,h1,_,_,_,_,h2,_,a,b⟩:=h.own
 exact⟨cap,a,b,cell_at h1 h2⟩
theorem R18.gl (h:R18 w x L A) {i:Nat} (hi:i<8):w.cell? ⟨x,4+i * 2,none⟩=some (.int .i64 (A.gl i).s)∧w.cell? ⟨x,4+i * 2+1,none⟩=some (.int .u32 (A.gl i).g):=by
 obtain⟨c,cap,h1,_,_,_,_,_,h2,_⟩:=h.own
 obtain⟨a,b⟩:=h2 i hi
 exact⟨cell_at h1 a,cell_at h1 b⟩
theorem R18.sc (h:R18 w x L A) {m:Nat} (hm:m<A.many):w.cell? ⟨L.sr,m,none⟩=some (L.sv m):=by
 obtain⟨cr,r1,r2⟩:=h.row
 exact cell_at r1 (r2 m hm)
theorem R18.sl (h:R18 w x L A) {m:Nat} (hm:m<A.many):∃ p c,L.sv m = .slice p (A.rt m).n c∧(A.rt m).n≤32:=by
 obtain⟨p,c,e⟩:=(h.st m hm).slice
 rw [rt_len] at e
 exact⟨p,c,e,(h.ok.rt m hm).1⟩
theorem valid18 (x:Nat) (w:World) (h:w.cell? ⟨x,0,none⟩=some (.bool true)):
 Calls Tryz.prog 147 #[.pointer (some ⟨x,0,none⟩)] w fun e w'=>e = .returned (.bool true)∧w'=w:=by
 go_enter Tryz.func147,Tryz.ntmps147
 go_wp2
 go_ret
 exact⟨rfl,rfl⟩
def Ar.mutE (A:Ar) (m:Int):Int:=if m<0∨(A.many:Int)≤m then 3 else 0
theorem mutator18 (m:Int) (h:R18 w x L A):
 Calls Tryz.prog 195 #[.pointer (some ⟨x,0,none⟩),.int .i64 m] w fun e w'=>e = .returned (.int .i64 (A.mutE m))∧w'=w:=by
 have HM:=hid h.made
 obtain⟨cap,a1,a2,c3⟩:=h.c3
 have hc:m<0∨(0≤m∧(A.many:Int)≤m)∨(0≤m∧m<A.many):=by omega
 obtain⟨n,hn⟩:∃ n,A.many=n:=⟨_,rfl⟩
 have HE:=hid (show A.mutE m=if m<0∨(n:Int)≤m then 3 else 0 by unfold Ar.mutE;rw [hn])
 rw [hn] at c3 hc
 clear h hn a1 a2
 rcases hc with h1 | ⟨h1,h2⟩ | ⟨h1,h2⟩
 ·go_enter Tryz.func195,Tryz.ntmps195
  go_wp2_with fail
  refine (valid18 x _ HM.out).mono ?_
  rintro e w' ⟨rfl,h'⟩
  obtain rfl:=h'.symm
  go_wp2_with fail
  go_ret
  exact⟨ret_int (by rw [HE.out,if_pos (by omega)]),rfl⟩
 ·go_enter Tryz.func195,Tryz.ntmps195
  go_wp2_with fail
  refine (valid18 x _ HM.out).mono ?_
  rintro e w' ⟨rfl,h'⟩
  obtain rfl:=h'.symm
  go_wp2_with fail
  go_ret
  exact⟨ret_int (by rw [HE.out,if_pos (by omega)]),rfl⟩
 ·go_enter Tryz.func195,Tryz.ntmps195
  go_wp2_with fail
  refine (valid18 x _ HM.out).mono ?_
  rintro e w' ⟨rfl,h'⟩
  obtain rfl:=h'.symm
  go_wp2_with fail
  go_ret
  exact⟨ret_int (by rw [HE.out,if_neg (by omega)]),rfl⟩
theorem full18 (m:Nat) (h:R18 w x L A) (hm:m<A.many):
 Calls Tryz.prog 197 #[.pointer (some ⟨x,0,none⟩),.int .i64 m] w fun e w'=>e = .returned (.bool (decide (32≤(A.rt m).n)))∧w'=w:=by
 obtain⟨cap,a1,a2,c3⟩:=h.c3
 have sc:=h.sc hm
 obtain⟨p,c,e,h32⟩:=h.sl hm
 rw [e] at sc
 obtain⟨n,hn⟩:∃ n,(A.rt m).n=n:=⟨_,rfl⟩
 rw [hn] at sc h32 ⊢
 have hm1:(m:Int)<A.many:=by omega
 have hm0:(0:Int)≤m:=by omega
 clear h e hn
 go_enter Tryz.func197,Tryz.ntmps197
 go_wp2_with fail
 go_ret
 refine⟨ret_bool ?_,rfl⟩
 by_cases h:32≤n
 ·rw [decide_eq_true h,decide_eq_true (show (32:Int)≤(n:Int) by omega)]
 ·rw [decide_eq_false h,decide_eq_false (show ¬ (32:Int)≤(n:Int) by omega)]
theorem sizes18 (h:R18 w x L A):
 Calls Tryz.prog 213 #[.pointer (some ⟨x,0,none⟩)] w fun e w'=>e = .returned (.tuple #[.int .i64 A.H.T.n,.int .i64 A.many])∧Keeps (fun _=>False) w w':=by
 have HM:=hid h.made
 have c1:=h.c1
 obtain⟨cap,a1,a2,c3⟩:=h.c3
 clear h a1 a2
 go_enter Tryz.func213,Tryz.ntmps213
 go_wp2_with fail
 refine (valid18 x _ HM.out).mono ?_
 rintro e w' ⟨rfl,h'⟩
 obtain rfl:=h'.symm
 go_wp2_with fail
 go_quiet (fail)
 go_wp2
 go_ret2
 exact⟨rfl,by repeat (first | exact Keeps.refl _ _ | apply Keeps.drewN)⟩
theorem heap18 (h:R18 w x L A):
 Calls Tryz.prog 217 #[.pointer (some ⟨x,0,none⟩)] w fun e w'=>∃ b' r',e = .returned (.pointer (some ⟨b',0,none⟩))∧Keeps (fun _=>False) w w'∧w.heap.size≤b'∧w.heap.size≤r'∧R14 w' b' r' A.H:=by
 have HM:=hid h.made
 have c2:=h.c2
 have HC:=hid (copy14 h.heap)
 clear h
 go_enter Tryz.func217,Tryz.ntmps217
 go_wp2_with fail
 refine (valid18 x _ HM.out).mono ?_
 rintro e w' ⟨rfl,h'⟩
 obtain rfl:=h'.symm
 go_wp2_with fail
 refine HC.out.mono ?_
 rintro e w1 ⟨b',r',rfl,k1,h1,h2,h3⟩
 go_wp2_with fail
 go_ret
 exact⟨b',r',rfl,k1,h1,h2,h3⟩
theorem root18 (m i:Int) (h:R18 w x L A):
 Calls Tryz.prog 204 #[.pointer (some ⟨x,0,none⟩),.int .i64 m,.int .i64 i] w fun e w'=>e = .returned (.tuple #[(A.rootR m i).1.val,.int .i64 (A.rootR m i).2])∧Keeps (fun _=>False) w w':=by
 have HMU:=hid (mutator18 m (h.k0 ((Keeps.refl (fun _=>False) w).alloc (.cells #[.int .i64 0,.int .u32 0] 34))))
 by_cases hm:m<0∨(A.many:Int)≤m
 ·have HR:=hid (show A.rootR m i=(.no,3) by unfold Ar.rootR;rw [if_pos hm])
  rw [HR.out]
  rw [show A.mutE m=3 by unfold Ar.mutE;rw [if_pos hm]] at HMU
  clear h hm
  simp only [Rf.val,Rf.no]
  go_enter Tryz.func204,Tryz.ntmps204
  go_wp2_with fail
  refine (HMU.out).mono ?_
  rintro e w' ⟨rfl,h'⟩
  obtain rfl:=h'.symm
  go_wp2_with fail
  refine bodyPost_ret_by (v:=.tuple #[.agg #[.int .i64 0,.int .u32 0],.int .i64 3]) (by simp [results,Tryz.results204,go_sem, *]) rfl ⟨rfl,?_⟩
  refine Keeps.fresh ?_
  repeat (first | (with_reducible exact Keeps.refl _ _) | with_reducible refine Keeps.setCell ?_ ?_ _ | with_reducible refine Keeps.alloc ?_ _ | with_reducible refine Keeps.drewN ?_ _ | with_reducible refine Keeps.drew ?_)
  all_goals first | (left;simp;done) | (left;simp;omega) | (right;simp;done) | (right;simp;omega)
 ·obtain⟨k,rfl⟩:∃ k:Nat,m=k:=⟨m.toNat,by omega⟩
  have hk:k<A.many:=by omega
  obtain⟨cap,a1,a2,c3⟩:=h.c3
  obtain⟨hlx,hls⟩:=h.lt
  have sc:=h.sc hk
  obtain⟨p,c,e,h32⟩:=h.sl hk
  have hst:=(h.st k hk).r
  rw [e] at sc hst
  rw [show A.mutE k=0 by unfold Ar.mutE;rw [if_neg hm]] at HMU
  have hm1:(k:Int)<A.many:=by omega
  have hm0:(0:Int)≤(k:Int):=by omega
  have HE:=hid (show A.rootR k i=if i<0∨((A.rt k).n:Int)≤i then (.no,3) else ((A.rt k).f i.toNat,0) by unfold Ar.rootR;rw [if_neg hm,Int.toNat_natCast])
  obtain⟨n,hn⟩:∃ n,(A.rt k).n=n:=⟨_,rfl⟩
  rw [hn] at sc h32 hst HE
  have hc:i<0∨(0≤i∧(n:Int)≤i)∨(0≤i∧i<n):=by omega
  have HN:=hid hn
  clear h hm e hn
  unfold maxLen at a2
  rcases hc with h1 | ⟨h1,h2⟩ | ⟨h1,h2⟩
  ·have HR:=hid (show A.rootR k i=(.no,3) by rw [HE.out,if_pos (by omega)])
   rw [HR.out]
   simp only [Rf.val,Rf.no]
   clear hst
   go_enter Tryz.func204,Tryz.ntmps204
   go_wp2_with fail
   refine (HMU.out).mono ?_
   rintro e w' ⟨rfl,h'⟩
   obtain rfl:=h'.symm
   go_wp2_with fail
   refine bodyPost_ret_by (v:=.tuple #[.agg #[.int .i64 0,.int .u32 0],.int .i64 3]) (by simp [results,Tryz.results204,go_sem, *]) rfl ⟨rfl,?_⟩
   refine Keeps.fresh ?_
   repeat (first | (with_reducible exact Keeps.refl _ _) | with_reducible refine Keeps.setCell ?_ ?_ _ | with_reducible refine Keeps.alloc ?_ _ | with_reducible refine Keeps.drewN ?_ _ | with_reducible refine Keeps.drew ?_)
   all_goals first | (left;simp;done) | (left;simp;omega) | (right;simp;done) | (right;simp;omega)
  ·have HR:=hid (show A.rootR k i=(.no,3) by rw [HE.out,if_pos (by omega)])
   rw [HR.out]
   simp only [Rf.val,Rf.no]
   clear hst
   go_enter Tryz.func204,Tryz.ntmps204
   go_wp2_with fail
   refine (HMU.out).mono ?_
   rintro e w' ⟨rfl,h'⟩
   obtain rfl:=h'.symm
   go_wp2_with fail
   refine bodyPost_ret_by (v:=.tuple #[.agg #[.int .i64 0,.int .u32 0],.int .i64 3]) (by simp [results,Tryz.results204,go_sem, *]) rfl ⟨rfl,?_⟩
   refine Keeps.fresh ?_
   repeat (first | (with_reducible exact Keeps.refl _ _) | with_reducible refine Keeps.setCell ?_ ?_ _ | with_reducible refine Keeps.alloc ?_ _ | with_reducible refine Keeps.drewN ?_ _ | with_reducible refine Keeps.drew ?_)
   all_goals first | (left;simp;done) | (left;simp;omega) | (right;simp;done) | (right;simp;omega)
  ·obtain⟨j,rfl⟩:∃ j:Nat,i=j:=⟨i.toNat,by omega⟩
   have hj:(A.rt k).l[j]?=some ((A.rt k).f j):=by
    unfold Sk.l
    rw [List.getElem?_map,List.getElem?_range (by rw [HN.out];omega)];rfl
   obtain⟨g,rfl,hgl,c0,c1⟩:=hst.cell.2 j _ hj
   have HR:=hid (show A.rootR k j=((A.rt k).f j,0) by rw [HE.out,if_neg (by omega),Int.toNat_natCast])
   rw [HR.out]
   obtain⟨⟨s,gg⟩,hr⟩:∃ r,(A.rt k).f j=r:=⟨_,rfl⟩
   rw [hr] at c0 c1 ⊢
   simp only [Rf.val]
   clear hst hj hr
   go_enter Tryz.func204,Tryz.ntmps204
   go_wp2_with fail
   refine (HMU.out).mono ?_
   rintro e w' ⟨rfl,h'⟩
   obtain rfl:=h'.symm
   go_wp2_with fail
   refine bodyPost_ret_by (v:=.tuple #[.agg #[.int .i64 s,.int .u32 gg],.int .i64 0]) (by simp [results,Tryz.results204,go_sem, *]) rfl ⟨rfl,?_⟩
   refine Keeps.fresh ?_
   repeat (first | (with_reducible exact Keeps.refl _ _) | with_reducible refine Keeps.setCell ?_ ?_ _ | with_reducible refine Keeps.alloc ?_ _ | with_reducible refine Keeps.drewN ?_ _ | with_reducible refine Keeps.drew ?_)
   all_goals first | (left;simp;done) | (left;simp;omega) | (right;simp;done) | (right;simp;omega)
theorem value18 (m i:Int) (h:R18 w x L A):
 Calls Tryz.prog 206 #[.pointer (some ⟨x,0,none⟩),.int .i64 m,.int .i64 i] w fun e w'=>e = .returned (.tuple #[(A.valueR m i).1.val,.int .i64 (A.valueR m i).2])∧Keeps (fun _=>False) w w':=by
 have HMU:=hid (mutator18 m (h.k0 ((Keeps.refl (fun _=>False) w).alloc (.cells #[.int .i64 0,.int .u32 0] 34))))
 have HRO:=hid (root18 m i (h.k0 ((Keeps.refl (fun _=>False) w).alloc (.cells #[.int .i64 0,.int .u32 0] 34))))
 have HV:=hid (show A.valueR m i=if m<0∨(A.many:Int)≤m then (.no,3) else if i=-1 then (.no,0) else A.rootR m i from rfl)
 have HR0:=hid (show A.rootR m i=if m<0∨(A.many:Int)≤m then (.no,3) else if i<0∨((A.rt m.toNat).n:Int)≤i then (.no,3) else ((A.rt m.toNat).f i.toNat,0) from rfl)
 have HME:=hid (show A.mutE m=if m<0∨(A.many:Int)≤m then 3 else 0 from rfl)
 clear h
 by_cases hm:m<0∨(A.many:Int)≤m
 ·have HR:=hid (show A.valueR m i=A.rootR m i by rw [HV.out,HR0.out,if_pos hm,if_pos hm])
  rw [HR.out]
  rw [show A.mutE m=3 by rw [HME.out,if_pos hm]] at HMU
  obtain⟨⟨⟨s,g⟩,ee⟩,hr⟩:∃ r,A.rootR m i=r:=⟨_,rfl⟩
  rw [hr] at HRO ⊢
  clear hm hr HR HV HR0 HME
  simp only [Rf.val] at HRO ⊢
  go_enter Tryz.func206,Tryz.ntmps206
  go_wp2_with fail
  refine (HMU.out).mono ?_
  rintro e w' ⟨rfl,h'⟩
  obtain rfl:=h'.symm
  go_wp2_with fail
  refine HRO.out.mono ?_
  rintro e w1 ⟨rfl,k1⟩
  obtain⟨b0,b1,bf,bl⟩:=cells2 (block_keep (alloc_new (w:=w)) k1 (fun h=>h))
  have bf0:=bf 0;have bf1:=bf 1
  have HK1:=hid (((Keeps.refl (fun y=>w.heap.size≤y) w).alloc _).trans k1.up)
  clear k1 bf
  go_wp2_with fail
  refine bodyPost_ret_by (v:=.tuple #[.agg #[.int .i64 s,.int .u32 g],.int .i64 ee]) (by simp [results,Tryz.results206,go_sem, *]) rfl ⟨rfl,?_⟩
  refine Keeps.fresh ?_
  repeat (first | (with_reducible exact HK1.out) | with_reducible refine Keeps.setCell ?_ ?_ _ | with_reducible refine Keeps.alloc ?_ _ | with_reducible refine Keeps.drewN ?_ _ | with_reducible refine Keeps.drew ?_)
  all_goals first | (left;simp;done) | (left;simp;omega) | (right;simp;done) | (right;simp;omega)
 ·rw [show A.mutE m=0 by rw [HME.out,if_neg hm]] at HMU
  by_cases hi:i=-1
  ·subst hi
   have HR:=hid (show A.valueR m (-1)=(.no,0) by rw [HV.out,if_neg hm,if_pos rfl])
   rw [HR.out]
   clear hm HR HV HR0 HME HRO
   simp only [Rf.val,Rf.no]
   go_enter Tryz.func206,Tryz.ntmps206
   go_wp2_with fail
   refine (HMU.out).mono ?_
   rintro e w' ⟨rfl,h'⟩
   obtain rfl:=h'.symm
   go_wp2_with fail
   refine bodyPost_ret_by (v:=.tuple #[.agg #[.int .i64 0,.int .u32 0],.int .i64 0]) (by simp [results,Tryz.results206,go_sem, *]) rfl ⟨rfl,?_⟩
   refine Keeps.fresh ?_
   repeat (first | (with_reducible exact Keeps.refl _ _) | with_reducible refine Keeps.setCell ?_ ?_ _ | with_reducible refine Keeps.alloc ?_ _ | with_reducible refine Keeps.drewN ?_ _ | with_reducible refine Keeps.drew ?_)
   all_goals first | (left;simp;done) | (left;simp;omega) | (right;simp;done) | (right;simp;omega)
  ·have HR:=hid (show A.valueR m i=A.rootR m i by rw [HV.out,if_neg hm,if_neg hi])
   have hib:(i == -1)=false:=by simpa using hi
   rw [HR.out]
   obtain⟨⟨⟨s,g⟩,ee⟩,hr⟩:∃ r,A.rootR m i=r:=⟨_,rfl⟩
   rw [hr] at HRO ⊢
   clear hm hr HR HV HR0 HME hi
   simp only [Rf.val] at HRO ⊢
   go_enter Tryz.func206,Tryz.ntmps206
   go_wp2_with fail
   refine (HMU.out).mono ?_
   rintro e w' ⟨rfl,h'⟩
   obtain rfl:=h'.symm
   go_wp2_with fail
   refine HRO.out.mono ?_
   rintro e w1 ⟨rfl,k1⟩
   obtain⟨b0,b1,bf,bl⟩:=cells2 (block_keep (alloc_new (w:=w)) k1 (fun h=>h))
   have bf0:=bf 0;have bf1:=bf 1
   have HK1:=hid (((Keeps.refl (fun y=>w.heap.size≤y) w).alloc _).trans k1.up)
   clear k1 bf
   go_wp2_with fail
   refine bodyPost_ret_by (v:=.tuple #[.agg #[.int .i64 s,.int .u32 g],.int .i64 ee]) (by simp [results,Tryz.results206,go_sem, *]) rfl ⟨rfl,?_⟩
   refine Keeps.fresh ?_
   repeat (first | (with_reducible exact HK1.out) | with_reducible refine Keeps.setCell ?_ ?_ _ | with_reducible refine Keeps.alloc ?_ _ | with_reducible refine Keeps.drewN ?_ _ | with_reducible refine Keeps.drew ?_)
   all_goals first | (left;simp;done) | (left;simp;omega) | (right;simp;done) | (right;simp;omega)
end
end Go.Proofs.YtnlkfbndlngjaaaGreat
namespace Go.Proofs.YtnlkfbndlngjaaaGreat
section
variable {P:Program} {ops:Array Oper} {Q:Exit→Act→World→Prop} {md:Region.Mode} {S:World→Prop} {t:Nat}
def predB (md:Region.Mode) (ops:Array Oper) (j k:Nat):Bool:=((ops[j]?).map (·.after.any fun e=>Region.binds md e && e.on == k)).getD false
def stepL (md:Region.Mode) (ops:Array Oper) (l:List Nat):List Nat:=(List.range ops.size).filter fun k=>l.any fun j=>predB md ops j k
def waitsL (md:Region.Mode) (ops:Array Oper):Nat→List Nat→Nat→Bool
 | 0,_,_=>false
 | f+1,l,i=>(stepL md ops l).contains i || waitsL md ops f (stepL md ops l) i
def Dn (md:Region.Mode) (ops:Array Oper) (listed:Array Bool):Prop:=∀ j k,predB md ops j k=true→listed.getD j false=true→listed.getD k false=true
def dnB (md:Region.Mode) (ops:Array Oper) (listed:Array Bool):Bool:=(List.range ops.size).all fun j=>!listed.getD j false || ((ops[j]?).map (·.after.all fun e=>!Region.binds md e || listed.getD e.on false)).getD false
theorem predB_of {j k:Nat} (h:predB md ops j k=true):∃ o,ops[j]?=some o∧∃ e∈o.after,Region.binds md e=true∧e.on=k:=by
 unfold predB at h
 rcases ho:ops[j]? with _ | o
 ·rw [ho] at h;cases h
 ·rw [ho] at h
  simp only [Option.map_some,Option.getD_some] at h
  rw [← Array.any_toList] at h
  obtain⟨e,he,h1⟩:=List.any_eq_true.1 h
  have he:=Array.mem_toList_iff.1 he
  simp only [Bool.and_eq_true,beq_iff_eq] at h1
  exact⟨o,rfl,e,he,h1.1,h1.2⟩
theorem dn_of {listed:Array Bool} (h:dnB md ops listed=true):Dn md ops listed:=by
 intro j k hp hj
 obtain⟨o,ho,e,he,hb,rfl⟩:=predB_of hp
 have h1:=List.all_eq_true.1 h j (List.mem_range.2 (Array.getElem?_eq_some_iff.1 ho).1)
 rw [hj,ho] at h1
 simp only [Bool.not_true,Bool.false_or,Option.map_some,Option.getD_some,Array.all_eq_true_iff_forall_mem] at h1
 have:=h1 e he
 rw [hb] at this
 simpa using this
theorem Dn.set {listed:Array Bool} (h:Dn md ops listed) {j:Nat} (hj:j∈Region.ready md ops listed):Dn md ops (listed.setIfInBounds j true):=by
 intro a b hp ha
 by_cases e:a=j
 ·subst e
  obtain⟨_,o,ho,hall⟩:=mem_ready.1 hj
  obtain⟨o',ho',e,he,hb,rfl⟩:=predB_of hp
  rw [ho] at ho'
  obtain rfl:=Option.some.inj ho'
  exact getD_set_true (hall e he hb)
 ·rw [getD_set_ne false (Ne.symm e)] at ha
  exact getD_set_true (h a b hp ha)
theorem Dn.waits {listed:Array Bool} (h:Dn md ops listed):∀ (f:Nat) (l:List Nat) (i:Nat),waitsL md ops f l i=true→(∀ j∈l,∀ k,predB md ops j k=true→listed.getD k false=true)→listed.getD i false=true
 | 0,_,_,h0,_=>by cases h0
 | f+1,l,i,h0,hl=>by
  have hm:∀ k∈stepL md ops l,listed.getD k false=true:=fun k hk=>by
   obtain⟨_,hk⟩:=List.mem_filter.1 hk
   obtain⟨j,hj,hp⟩:=List.any_eq_true.1 hk
   exact hl j hj k hp
  unfold waitsL at h0
  rcases Bool.or_eq_true _ _ ▸ h0 with h1 | h1
  ·exact hm i (by simpa using h1)
  ·exact Dn.waits h f _ i h1 (fun j hj k hp=>h j k hp (hm j hj))
theorem Dn.last {listed:Array Bool} (h:Dn md ops listed) {f i:Nat} (hw:waitsL md ops f [t] i=true) (ht:t∈Region.ready md ops listed):listed.getD i false=true:=by
 refine h.waits f [t] i hw (fun j hj k hp=>?_)
 rw [List.mem_singleton.1 hj] at hp
 obtain⟨_,o,ho,hall⟩:=mem_ready.1 ht
 obtain⟨o',ho',e,he,hb,rfl⟩:=predB_of hp
 rw [ho] at ho'
 obtain rfl:=Option.some.inj ho'
 exact hall e he hb
def wpAnyT (P:Program) (md:Region.Mode) (ops:Array Oper) (Q:Exit→Act→World→Prop) (S:World→Prop) (t:Nat):Nat→Array Bool→Act→World→Prop
 | 0,listed,a,w=>Region.ready md ops listed=[]∧Q .normal a w
 | fuel+1,listed,a,w=>
  (Region.ready md ops listed=[]→Q .normal a w)∧
  ∀ i∈Region.ready md ops listed,wpOp P ops Q i (fun a' w'=>(i=t→Region.ready md ops (listed.setIfInBounds i true)=[]∧Q .normal a' w')∧(i≠t→S w'∧wpAnyT P md ops Q S t fuel (listed.setIfInBounds i true) a' w')) a w
theorem wpAny_of_T:∀ (fuel:Nat) (listed:Array Bool) (a:Act) (w:World),wpAnyT P md ops Q S t fuel listed a w→wpAny P md ops Q fuel listed a w
 | 0,_,_,_,h=>h
 | fuel+1,_,_,_,h=>⟨h.1,fun i hi=>wpOp_mono (fun a' w' h'=>by
  by_cases e:i=t
  ·obtain⟨h1,h2⟩:=h'.1 e
   cases fuel with
   | zero=>exact⟨h1,h2⟩
   | succ f=>exact⟨fun _=>h2,by rw [h1];simp⟩
  ·exact wpAny_of_T fuel _ a' w' (h'.2 e).2) (h.2 i hi)⟩
theorem wpAnyT_first {i:Nat} {oi:Oper} {v:Value} (hi:ops[i]?=some oi) (hsel:∀ (j:Nat) (o:Oper) cs b,ops[j]?=some o→o.op≠.select cs b)
 (hQ:∀ c a w,Q (.panic c) (a.put oi.dst v) w→Q (.panic c) a w) {f:Nat} (hw:waitsL md ops f [t] i=true) (hit:i≠t):
 ∀ (fuel:Nat) (listed:Array Bool) (a:Act) (w:World),Dn md ops listed→
  (∀ j oj,ops[j]?=some oj→j≠i→listed.getD j true=false→(∀ e∈oj.after,Region.binds md e=true→e.on≠i)→oi.apart ops oj=true)→
  i∈Region.ready md ops listed→YieldsIf P ops S oi v a→S w→
  wpAnyT P md ops Q S t fuel (listed.setIfInBounds i true) (a.put oi.dst v) w→wpAnyT P md ops Q S t (fuel+1) listed a w:=by
 intro fuel
 induction fuel with
 | zero=>
  intro listed a w _ _ hr hy hS H
  refine⟨fun h=>(by rw [h] at hr;cases hr),fun j hj=>?_⟩
  by_cases hji:j=i
  ·subst hji;exact hy.wpOp hi hS ⟨fun e=>absurd e hit,fun _=>⟨hS,H⟩⟩
  ·have:=ready_mono hj hji
   rw [H.1] at this
   cases this
 | succ fuel ih=>
  intro listed a w hD hfree hr hy hS H
  refine⟨fun h=>(by rw [h] at hr;cases hr),fun j hj=>?_⟩
  by_cases hji:j=i
  ·subst hji;exact hy.wpOp hi hS ⟨fun e=>absurd e hit,fun _=>⟨hS,H⟩⟩
  ·have hjt:j≠t:=by
    rintro rfl
    have h1:=hD.last hw hj
    have h0:=(mem_ready.1 hr).1
    rcases Nat.lt_or_ge i listed.size with h' | h'
    ·simp [h'] at h0 h1;rw [h0] at h1;cases h1
    ·simp [Array.getElem?_eq_none h'] at h1
   have h1:=H.2 j (ready_mono hj hji)
   obtain⟨hjun,oj,hoj,hall⟩:=mem_ready.1 hj
   have hnot:∀ e∈oj.after,Region.binds md e=true→e.on≠i:=fun e he hb heq=>by
    have h1:=hall e he hb
    have h0:=(mem_ready.1 hr).1
    rw [heq] at h1
    rcases Nat.lt_or_ge i listed.size with h' | h'
    ·simp [h'] at h0 h1;rw [h0] at h1;cases h1
    ·simp [Array.getElem?_eq_none h'] at h1
   have h2:=wpOp_putIf hoj (hfree j oj hoj hji hjun hnot) (fun cs b=>hsel i oi cs b hi) (fun cs b=>hsel j oj cs b hoj) hQ hy h1
   have hfree':∀ k ok,ops[k]?=some ok→k≠i→(listed.setIfInBounds j true).getD k true=false→
    (∀ e∈ok.after,Region.binds md e=true→e.on≠i)→oi.apart ops ok=true:=fun k ok hk hki hun hno=>by
    refine hfree k ok hk hki ?_ hno
    by_cases hjk:j=k
    ·subst hjk;exact hjun
    ·rw [getD_set_ne true hjk] at hun;exact hun
   refine wpOp_mono (fun a' w' h3=>⟨fun e=>absurd e hjt,fun _=>⟨(h3.2.2 hjt).1,ih (listed.setIfInBounds j true) a' w' (hD.set hj) hfree' (ready_mono hr (Ne.symm hji)) h3.1 (h3.2.2 hjt).1 ?_⟩⟩) h2
   rw [Array.setIfInBounds_comm _ _ hji]
   exact (h3.2.2 hjt).2
theorem wpAnyT_take {i:Nat} {oi:Oper} {v:Value} {fuel:Nat} {listed:Array Bool} {a:Act} {w:World} (hi:ops[i]?=some oi)
 (hs:Region.noSelect ops=true) (hf:Region.free md ops listed i=true) (hr:(Region.ready md ops listed).contains i=true) (hd:(dnB md ops listed && (waitsL md ops 12 [t] i && !(i == t)))=true)
 (hQ:∀ c a w,Q (.panic c) (a.put oi.dst v) w→Q (.panic c) a w) (hy:YieldsIf P ops S oi v a) (hS:S w)
 (h:wpAnyT P md ops Q S t fuel (listed.setIfInBounds i true) (a.put oi.dst v) w):wpAnyT P md ops Q S t (fuel+1) listed a w:=by
 simp only [Bool.and_eq_true,Bool.not_eq_true',beq_eq_false_iff_ne] at hd
 exact wpAnyT_first hi (Region.noSelect_spec hs) hQ hd.2.1 hd.2.2 fuel listed a w (dn_of hd.1) (Region.free_spec hi hf) (by simpa using hr) hy hS h
def AllReadyT (P:Program) (md:Region.Mode) (ops:Array Oper) (Q:Exit→Act→World→Prop) (S:World→Prop) (t:Nat) (fuel:Nat) (listed:Array Bool) (a:Act) (w:World) (rs:List Nat):Prop:=
 ∀ i∈rs,wpOp P ops Q i (fun a' w'=>(i=t→Region.ready md ops (listed.setIfInBounds i true)=[]∧Q .normal a' w')∧(i≠t→S w'∧wpAnyT P md ops Q S t fuel (listed.setIfInBounds i true) a' w')) a w
theorem AllReadyT.nil {fuel:Nat} {listed:Array Bool} {a:Act} {w:World}:AllReadyT P md ops Q S t fuel listed a w []:=fun _ h=>by cases h
theorem AllReadyT.cons {fuel:Nat} {listed:Array Bool} {a:Act} {w:World} {i:Nat} {o:Oper} {rs:List Nat} (ho:ops[i]?=some o) (hit:(i == t)=false)
 (h:∀ K':Act→World→Prop,Shut (∀ a w,S w→(S w→wpAnyT P md ops Q S t fuel (listed.setIfInBounds i true) a w)→K' a w)→if Region.wanted o (yielded ops a.tmps)=true then Oper.wp P o a w K' Q else K' (a.put o.dst undef) w)
 (hs:AllReadyT P md ops Q S t fuel listed a w rs):AllReadyT P md ops Q S t fuel listed a w (i :: rs):=fun j hj=>by
 rcases List.mem_cons.1 hj with rfl | hj
 ·exact wpOp_step ho (fun K' hK=>h K' (fun a w hS hW=>hK a w ⟨fun e=>by simp [e] at hit,fun _=>⟨hS,hW hS⟩⟩))
 ·exact hs j hj
theorem AllReadyT.last {fuel:Nat} {listed:Array Bool} {a:Act} {w:World} {o:Oper} (ho:ops[t]?=some o) (hr:Region.ready md ops (listed.setIfInBounds t true)=[])
 (h:∀ K':Act→World→Prop,Shut (∀ a w,Q .normal a w→K' a w)→if Region.wanted o (yielded ops a.tmps)=true then Oper.wp P o a w K' Q else K' (a.put o.dst undef) w):
 AllReadyT P md ops Q S t fuel listed a w [t]:=fun j hj=>by
 obtain rfl:=List.mem_singleton.1 hj
 exact wpOp_step ho (fun K' hK=>h K' (fun a w hq=>hK a w ⟨fun _=>⟨hr,hq⟩,fun e=>absurd rfl e⟩))
theorem wpAnyT_ready {rs:List Nat} {fuel:Nat} {listed:Array Bool} {a:Act} {w:World} (hr:Region.ready md ops listed=rs) (hne:rs≠[])
 (h:AllReadyT P md ops Q S t fuel listed a w rs):wpAnyT P md ops Q S t (fuel+1) listed a w:=⟨fun h0=>absurd (hr ▸ h0) hne,hr ▸ h⟩
theorem wp_region_last {id:Nat} {a:Act} {w:World} (t:Nat) (S:World→Prop) (hm:P.follows .mixedOrders=true) (hS:S w.drew)
 (h:S w.drew→wpAnyT P .any ops (NoPanic Q) S t ops.size (Array.replicate ops.size false) a w.drew):(Code.region id ops true).wp P Q a w:=
 wp_region_noPanic (wp_region_any hm (wpAny_of_T _ _ _ _ (h hS)))
end
end Go.Proofs.YtnlkfbndlngjaaaGreat
namespace Go.Proofs.YtnlkfbndlngjaaaGreat
open Go.RowKit
set_option linter.unusedVariables false
set_option linter.unusedSimpArgs false
theorem drew_blk {w:World} {b:Nat} {o:Obj} (h:w.heap[b]?=some o):w.drew.heap[b]?=some o:=h
theorem rows_info:∃ i,Tryz.prog.info? 46=some i∧i.zero=some (.slice none 0 0)∧i.size=1∧i.bytes=24:=by
 have h:(Tryz.prog.info? 46).map (fun i=>(i.zero,i.size,i.bytes))=some (some (.slice none 0 0),1,24):=by kernel_rfl
 rcases hi:Tryz.prog.info? 46 with _ | i
 ·rw [hi] at h;cases h
 ·rw [hi] at h
  simp only [Option.map_some,Option.some.injEq,Prod.mk.injEq] at h
  exact⟨i,rfl,h.1,h.2.1,h.2.2⟩
def Up18 (x N:Nat) (L:L18) (A':Ar) (w w':World):Prop:=Keeps (fun y=>y=x∨y=L.hb) w w'∧∃ L',L'.hb=L.hb∧R18 w' x L' A'∧
 ∀ m k,m<A'.many→(L'.sv m).ownBlock=some k→(∃ m',m'<A'.many∧(L.sv m').ownBlock=some k)∨N≤k
section
variable {w w':World} {x:Nat} {L:L18} {A:Ar}
theorem svL_len (L:L18):∀ i,((fun i=>[L.sv i]) i).length=1:=fun _=>rfl
theorem R18.svs (h:R18 w x L A):∀ j u,(slotsL (fun i=>[L.sv i]) A.many)[j]?=some u→w.cell? ((⟨L.sr,0,none⟩:Addr).add j)=some u:=by
 intro j u hu
 have hj:j<A.many:=by
  have:=(List.getElem?_eq_some_iff.1 hu).1
  rw [slotsL_len (svL_len L)] at this
  omega
 have:=slotsL_get (svL_len L) A.many j 0 hj (by omega)
 rw [Nat.mul_one,Nat.add_zero,hu] at this
 rw [Addr.add_mid,Nat.zero_add,h.sc hj,this];rfl
theorem set18 (m N:Nat) (v:Value) (S:Sk) (h:R18 w x L A) (hm:m<A.many) (hv:RefsC w v S.l) (hvb:∀ k,v.ownBlock=some k→N≤k) (hok:(A.setRt m S).Ok):
 Calls Tryz.prog 208 #[.pointer (some ⟨x,0,none⟩),.int .i64 m,v] w fun e w'=>e = .returned (.tuple #[])∧Up18 x N L (A.setRt m S) w w':=by
 obtain⟨p,c,rfl⟩:=hv.slice
 obtain⟨cap,m1,m2,c3⟩:=h.c3
 obtain⟨hlx,hls⟩:=h.lt
 have HH:=hid h
 obtain⟨ri,hi1,hi2,hi3,hi4⟩:=rows_info
 have hmany:=h.ok.m4
 have hmany1:=h.ok.m1
 have HNEWS:=hid (fun W (hk:Keeps (fun _=>False) w W)=>(h.k0 hk).svs)
 have HONE:=hid (show ∀ u∈slotsL (fun i=>[L.sv i]) A.many,u.oneCell'=true by
  intro u hu
  obtain⟨i,hi,hu⟩:=List.mem_flatMap.1 hu
  have hi':i<A.many:=by simpa using hi
  obtain⟨p,c,e,_⟩:=h.sl hi'
  rw [List.mem_singleton.1 hu,e];rfl)
 have hm0:(0:Int)≤(m:Int):=by omega
 have HV:=hid hv;have HOK:=hid hok;have HVB:=hid hvb
 obtain⟨n,hn⟩:∃ n,A.many=n:=⟨_,rfl⟩
 rw [hn] at m1 c3 hmany hmany1 HNEWS HONE
 have hmn:(m:Int)<n:=by omega
 have HN:=hid hn
 have HOWN:=hid (World.ownsRow_made (base:=w.heap.size) (e:=46) (size:=1) w #[] 0 (by simp) (by simp) rfl)
 obtain⟨sl,hsl⟩:∃ sl,S.l.length=sl:=⟨_,rfl⟩
 rw [hsl] at HV ⊢
 have HSL:=hid hsl
 clear h hv hok hn hsl hvb
 unfold maxLen at m2
 go_enter Tryz.func208,Tryz.ntmps208
 go_wp2_with (first
  | (at_builtin;refine wpList_append_lies _ rfl _ _ 146 rfl w.heap.size 46 ri (.slice none 0 0) 1 24 Tryz.underlying146 hi1 hi2 hi3 hi4 rfl (by decide) (.slice (some ⟨w.heap.size,0,none⟩) 0 0) 0 [] rfl HOWN.out ⟨L.sr,0,none⟩ n cap (slotsL (fun i=>[L.sv i]) n) rfl (by rw [slotsL_len (svL_len L)]) ?c1 ?c2 (by omega) ?c3 ?c4 ?c5 (w.heap.size+1) (by simp) ?_)
  | fail)
 case c1=>exact HNEWS.out _ ((Keeps.refl _ _).alloc _)
 case c2=>exact HONE.out
 case c3=>simp [maxLen];omega
 case c4=>omega
 case c5=>simp
 intro g' cap' w3 hown3 hgr hat hlt
 have hgk:=grown_keeps hgr
 have hg0:w.heap.size≤g':=by
  rcases hat with h | h
  ·simp [Value.ownBlock] at h;omega
  ·omega
 have K3:Keeps (fun _=>False) w w3:=Keeps.fresh (((Keeps.refl (fun y=>w.heap.size≤y) w).alloc _).trans' hgk (fun _ _ h=>h) (fun k hk h=>by simp [Value.ownBlock] at h;omega))
 obtain⟨cur,hcur,k1,k2,k3,k4⟩:=rowS_of (svL_len L) (show w3.ownsRow w.heap.size 46 1 (.slice (some ⟨g',0,none⟩) n cap') n (slotsL (fun i=>[L.sv i]) n) by simpa using hown3)
 have h3:=HH.out.k0 K3
 obtain⟨cx,capx,x1,x2,x3,x4,x5,x6,x7,x8⟩:=h3.own
 have t0:w3.cell? ⟨g',m,none⟩=some (L.sv m):=by
  have:=k4 m 0 (by omega) (by omega)
  rw [Nat.mul_one,Nat.add_zero] at this
  rw [cell_block hcur,this];rfl
 have f0:=frozen_block hcur m
 have b3:=cell_at x1 x6
 have bf:=frozen_block x1 3
 have hne:x≠g':=by omega
 have hlx3:=lt_block x1
 have HX:=hid (And.intro x1 (And.intro x2 (And.intro x3 (And.intro x4 (And.intro x5 x7)))));have HCUR:=hid (And.intro hcur (And.intro k1 (And.intro k2 (And.intro k3 k4))));have HK3:=hid K3;have H3:=hid h3
 have k1i:(n:Int)≤cap':=by omega
 clear hcur k1 k2 k3 k4 K3 hown3 hgr hgk hat x1 x2 x3 x4 x5 x6 x7 x8 h3
 go_wp2_with fail
 go_end0
 obtain⟨hcur,k1,k2,k3,k4⟩:=HCUR.out
 obtain⟨x1,x2,x3,x4,x5,x7⟩:=HX.out
 obtain⟨W,hW⟩:∃ W,(w3.setCell ⟨g',m,none⟩ (.slice p sl c)).setCell ⟨x,3,none⟩ (.slice (some ⟨g',0,none⟩) n cap')=W:=⟨_,rfl⟩
 rw [hW]
 have kW:Keeps (fun y=>y=x∨y=g') w3 W:=by
  rw [← hW]
  exact Keeps.setCell (S:=fun y=>y=x∨y=g') (p:=⟨x,3,none⟩) (Keeps.setCell (S:=fun y=>y=x∨y=g') (p:=⟨g',m,none⟩) (Keeps.refl _ _) (.inl (.inr rfl)) _) (.inl (.inl rfl)) _
 have qx:W.heap[x]?=some (.cells (cx.setIfInBounds 3 (.slice (some ⟨g',0,none⟩) n cap')) 149):=by rw [← hW];exact set_block (set_oth x1 hne) 3 _
 have qg:W.heap[g']?=some (.cells (cur.setIfInBounds m (.slice p sl c)) 46):=by rw [← hW];exact set_oth (set_block hcur m _) (Ne.symm hne)
 have kF:Keeps (fun y=>y=x) w W:=Keeps.mono (HK3.out.up.trans' kW (U:=fun y=>y=x∨w.heap.size≤y) (fun _ _ h=>h) (fun y _ h=>h.imp id (fun e=>by omega))) (fun y hy h=>h.elim id (fun e=>by omega))
 have hh:=H3.out.heap
 obtain⟨_,_,_,a1⟩:=hh.own
 obtain⟨_,a2,_⟩:=hh.row
 have nb1:L.hb≠x:=type_ne a1 x1 (by decide)
 have nb2:L.hr≠x:=type_ne a2 x1 (by decide)
 have nb3:L.hb≠g':=type_ne a1 hcur (by decide)
 have nb4:L.hr≠g':=type_ne a2 hcur (by decide)
 have refs:∀ {u:Value} {l:List Rf},RefsC w u l→RefsC W u l:=fun {u l} hu=>by
  refine hu.keeps kF (fun k hk e=>?_)
  rcases hu.r with⟨e',_⟩ | ⟨g,cap,cur,e',hg,_⟩
  ·rw [e'] at hk;cases hk
  ·rw [e'] at hk
   obtain rfl:g=k:=Option.some.inj hk
   obtain⟨cx0,_,y1,_⟩:=HH.out.own
   exact type_ne hg y1 (by decide) e
 refine⟨rfl,kF.mono (fun _ _ h=>.inl h),⟨L.hb,L.hr,g',updf L.sv m (.slice p sl c)⟩,rfl,⟨⟨_,cap',qx,by simpa using x2,?_,?_,?_,?_,?_,?_,k2⟩,?_,⟨_,qg,fun j hj=>?_⟩,fun j hj=>?_,HOK.out⟩,fun j k hj hk=>?_⟩
 ·rw [Array.getElem?_setIfInBounds_ne (by omega)];exact x3
 ·rw [Array.getElem?_setIfInBounds_ne (by omega)];exact x4
 ·rw [Array.getElem?_setIfInBounds_ne (by omega)];exact x5
 ·rw [Array.getElem?_setIfInBounds_self_of_lt (by omega)]
  show _=some (Value.slice _ A.many _)
  rw [HN.out]
 ·exact x7.head 3 (by omega) _
 ·show A.many≤cap'
  rw [HN.out];exact k1
 ·exact hh.keeps kW (by simp [nb1,nb3]) (by simp [nb2,nb4])
 ·have hj':j<n:=by rw [← HN.out];exact hj
  show _=some (updf L.sv m _ j)
  by_cases e:j=m
  ·subst e
   rw [updf_same,Array.getElem?_setIfInBounds_self_of_lt (by omega)]
  ·rw [updf_ne _ _ e,Array.getElem?_setIfInBounds_ne (by omega)]
   have:=k4 j 0 hj' (by omega)
   rw [Nat.mul_one,Nat.add_zero] at this
   rw [this];rfl
 ·show RefsC W (updf L.sv m _ j) ((updf A.rt m S j).l)
  by_cases e:j=m
  ·subst e
   rw [updf_same,updf_same];exact refs HV.out
  ·rw [updf_ne _ _ e,updf_ne _ _ e];exact refs (HH.out.st j hj)
 ·dsimp only at hk
  by_cases e:j=m
  ·subst e
   rw [updf_same,← HSL.out] at hk;exact .inr (HVB.out k hk)
  ·rw [updf_ne _ _ e] at hk;exact .inl ⟨j,hj,hk⟩
theorem Sk.push_l (S:Sk) (r:Rf):(S.push r).l=S.l ++ [r]:=by
 unfold Sk.l Sk.push
 show (List.range (S.n+1)).map (updf S.f S.n r)=_
 rw [List.range_succ,List.map_append]
 congr 1
 ·refine List.map_congr_left fun i hi=>?_
  have:i<S.n:=by simpa using hi
  exact updf_ne _ _ (by omega)
 ·simp [updf_same]
theorem give18 (m:Nat) (r:Rf) (h:R18 w x L A) (hm:m<A.many) (hn:(A.rt m).n<32) (hr:r.Ok):
 Calls Tryz.prog 200 #[.pointer (some ⟨x,0,none⟩),.int .i64 m,.agg #[.int .i64 r.s,.int .u32 r.g]] w fun e w'=>e = .returned (.tuple #[])∧Up18 x w.heap.size L (A.setRt m ((A.rt m).push r)) w w':=by
 obtain⟨wb,hwb⟩:∃ wb,w.alloc (.cells #[.int .i64 r.s,.int .u32 r.g] 34)=wb:=⟨_,rfl⟩
 have kb:Keeps (fun _=>False) w wb:=by rw [← hwb];exact (Keeps.refl _ _).alloc _
 have qb:wb.heap[w.heap.size]?=some (.cells #[.int .i64 r.s,.int .u32 r.g] 34):=by rw [← hwb];exact alloc_new
 have szb:wb.heap.size=w.heap.size+1:=by rw [← hwb];simp
 have hb:=h.k0 kb
 obtain⟨p,c,e,h32⟩:=h.sl hm
 have hst:=(h.st m hm)
 rw [e] at hst
 obtain⟨cap,m1,m2,c3⟩:=hb.c3
 have sc:=hb.sc hm
 rw [e] at sc
 obtain⟨b0,b1,_,bl⟩:=cells2 qb
 have hm0:(0:Int)≤(m:Int):=by omega
 have hmn:(m:Int)<A.many:=by omega
 obtain⟨hlx,hls⟩:=hb.lt
 have hsr:L.sr<w.heap.size:=h.lt.2
 have hxw:x<w.heap.size:=h.lt.1
 have up:∀ {W:World},Keeps (fun y=>wb.heap.size≤y) wb W→Keeps (fun _=>False) w W:=fun hk=>Keeps.fresh (kb.up.trans (hk.mono (fun y _ hy=>by have:=kb.size;omega)))
 have HPS:=hid (fun W (hk:Keeps (fun y=>wb.heap.size≤y) wb W)=>show W.cell? ⟨x,3,none⟩=some (.slice (some ⟨L.sr,0,none⟩) A.many cap)∧W.cell? ⟨L.sr,m,none⟩=some (.slice p (A.rt m).n c)∧W.cell? ⟨w.heap.size,0,none⟩=some (.int .i64 r.s)∧W.cell? ⟨w.heap.size,1,none⟩=some (.int .u32 r.g) from by
  have q:=block_keep qb hk (by omega)
  exact⟨by rw [World.cell?_of_block (hk.block x hlx (by omega))];exact c3,by rw [World.cell?_of_block (hk.block L.sr hls (by omega))];exact sc,cell_at q rfl,cell_at q rfl⟩)
 have HRL:=hid (fun W (hk:Keeps (fun y=>wb.heap.size≤y) wb W)=>(hst.keeps (up hk) (fun _ _ h=>h)).o)
 have HOK:=hid (h.ok.push hm hr hn)
 have HST:=hid (fun W v (hk:Keeps (fun y=>wb.heap.size≤y) wb W) (hv:RefsC W v ((A.rt m).l ++ [r])) (hvb:∀ k,v.ownBlock=some k→wb.heap.size≤k)=>(set18 m w.heap.size v ((A.rt m).push r) (h.k0 (up hk)) hm (by rw [Sk.push_l];exact hv) (fun k hk=>by have:=hvb k hk;omega) HOK.out).mono (fun e w' (hu:e = .returned (.tuple #[])∧Up18 x w.heap.size L (A.setRt m ((A.rt m).push r)) W w')=>show e = .returned (.tuple #[])∧Up18 x w.heap.size L (A.setRt m ((A.rt m).push r)) w w' from⟨hu.1,(up hk).up.trans hu.2.1,hu.2.2⟩))
 have hll:(A.rt m).l.length=(A.rt m).n:=rt_len A m
 obtain⟨l,hl⟩:∃ l,(A.rt m).l=l:=⟨_,rfl⟩
 obtain⟨n,hn'⟩:∃ n,(A.rt m).n=n:=⟨_,rfl⟩
 rw [hl] at HRL HST hll
 rw [hn'] at HPS HRL sc hll h32 hn
 have HLL:=hid hll
 have HW:=hid hwb
 have HSZ:=hid szb
 obtain⟨T,hT⟩:∃ T,A.setRt m ((A.rt m).push r)=T:=⟨_,rfl⟩
 rw [hT] at HST ⊢
 obtain⟨many,hmy⟩:∃ many,A.many=many:=⟨_,rfl⟩
 rw [hmy] at HPS hmn c3 m1
 unfold maxLen at m2
 clear h hb hst e hr up hT hl hn' hll kb qb hwb szb HOK hm hmy c3 sc b0 b1 bl
 obtain⟨c3,sc,b0,b1⟩:=HPS.out wb (Keeps.refl _ _)
 go_enter Tryz.func200,Tryz.ntmps200
 go_upto_region 1 with (fail)
 rw [HW.out]
 refine wp_region_last 14 (fun W=>W.cell? ⟨x,3,none⟩=some (.slice (some ⟨L.sr,0,none⟩) many cap)∧W.cell? ⟨L.sr,m,none⟩=some (.slice p n c)∧W.cell? ⟨w.heap.size,0,none⟩=some (.int .i64 r.s)∧W.cell? ⟨w.heap.size,1,none⟩=some (.int .u32 r.g)) (by kernel_rfl) (HPS.out _ (Keeps.refl _ _).drew) (fun hS=>?_)
 refine wpAnyT_take (i:=0) (v:=?_) rfl (by kernel_rfl) (by kernel_rfl) (by kernel_rfl) (by kernel_rfl) (fun _ _ _ h=>h) (Or.inl ⟨by rfl,?_⟩) (by assumption) ?_
 rotate_left
 ·(intro w hSw;(try dsimp only at hSw);simp only [List.getElem_toArray,List.getElem_cons_zero,List.getElem_cons_succ];go_simp;(first | done | with_reducible rfl))
 simp only [List.getElem_toArray,List.getElem_cons_zero,List.getElem_cons_succ,Act.put,List.setIfInBounds_toArray,List.set_cons_zero,List.set_cons_succ]
 refine wpAnyT_take (i:=1) (v:=?_) rfl (by kernel_rfl) (by kernel_rfl) (by kernel_rfl) (by kernel_rfl) (fun _ _ _ h=>h) (Or.inl ⟨by rfl,?_⟩) (by assumption) ?_
 rotate_left
 ·(intro w hSw;(try dsimp only at hSw);simp only [List.getElem_toArray,List.getElem_cons_zero,List.getElem_cons_succ];go_simp;(first | done | with_reducible rfl))
 simp only [List.getElem_toArray,List.getElem_cons_zero,List.getElem_cons_succ,Act.put,List.setIfInBounds_toArray,List.set_cons_zero,List.set_cons_succ]
 refine wpAnyT_take (i:=3) (v:=?_) rfl (by kernel_rfl) (by kernel_rfl) (by kernel_rfl) (by kernel_rfl) (fun _ _ _ h=>h) (Or.inl ⟨by rfl,?_⟩) (by assumption) ?_
 rotate_left
 ·(intro w hSw;(try dsimp only at hSw);simp only [List.getElem_toArray,List.getElem_cons_zero,List.getElem_cons_succ];go_simp;(first | done | with_reducible rfl))
 simp only [List.getElem_toArray,List.getElem_cons_zero,List.getElem_cons_succ,Act.put,List.setIfInBounds_toArray,List.set_cons_zero,List.set_cons_succ]
 refine wpAnyT_take (i:=4) (v:=?_) rfl (by kernel_rfl) (by kernel_rfl) (by kernel_rfl) (by kernel_rfl) (fun _ _ _ h=>h) (Or.inl ⟨by rfl,?_⟩) (by assumption) ?_
 rotate_left
 ·(intro w hSw;(try dsimp only at hSw);simp only [List.getElem_toArray,List.getElem_cons_zero,List.getElem_cons_succ];go_simp;(first | done | with_reducible rfl))
 simp only [List.getElem_toArray,List.getElem_cons_zero,List.getElem_cons_succ,Act.put,List.setIfInBounds_toArray,List.set_cons_zero,List.set_cons_succ]
 refine wpAnyT_take (i:=5) (v:=?_) rfl (by kernel_rfl) (by kernel_rfl) (by kernel_rfl) (by kernel_rfl) (fun _ _ _ h=>h) (Or.inl ⟨by rfl,?_⟩) (by assumption) ?_
 rotate_left
 ·(intro w hSw;(try dsimp only at hSw);simp only [List.getElem_toArray,List.getElem_cons_zero,List.getElem_cons_succ];go_simp;(first | done | with_reducible rfl))
 simp only [List.getElem_toArray,List.getElem_cons_zero,List.getElem_cons_succ,Act.put,List.setIfInBounds_toArray,List.set_cons_zero,List.set_cons_succ]
 refine wpAnyT_take (i:=6) (v:=?_) rfl (by kernel_rfl) (by kernel_rfl) (by kernel_rfl) (by kernel_rfl) (fun _ _ _ h=>h) (Or.inl ⟨by rfl,?_⟩) (by assumption) ?_
 rotate_left
 ·(intro w hSw;(try dsimp only at hSw);simp only [List.getElem_toArray,List.getElem_cons_zero,List.getElem_cons_succ];go_simp;(first | done | with_reducible rfl))
 simp only [List.getElem_toArray,List.getElem_cons_zero,List.getElem_cons_succ,Act.put,List.setIfInBounds_toArray,List.set_cons_zero,List.set_cons_succ]
 refine wpAnyT_take (i:=7) (v:=?_) rfl (by kernel_rfl) (by kernel_rfl) (by kernel_rfl) (by kernel_rfl) (fun _ _ _ h=>h) (Or.inl ⟨by rfl,?_⟩) (by assumption) ?_
 rotate_left
 ·(intro w hSw;(try dsimp only at hSw);simp only [List.getElem_toArray,List.getElem_cons_zero,List.getElem_cons_succ];go_simp;(first | done | with_reducible rfl))
 simp only [List.getElem_toArray,List.getElem_cons_zero,List.getElem_cons_succ,Act.put,List.setIfInBounds_toArray,List.set_cons_zero,List.set_cons_succ]
 refine wpAnyT_take (i:=8) (v:=?_) rfl (by kernel_rfl) (by kernel_rfl) (by kernel_rfl) (by kernel_rfl) (fun _ _ _ h=>h) (Or.inl ⟨by rfl,?_⟩) (by assumption) ?_
 rotate_left
 ·(intro w hSw;(try dsimp only at hSw);simp only [List.getElem_toArray,List.getElem_cons_zero,List.getElem_cons_succ];go_simp;(first | done | with_reducible rfl))
 simp only [List.getElem_toArray,List.getElem_cons_zero,List.getElem_cons_succ,Act.put,List.setIfInBounds_toArray,List.set_cons_zero,List.set_cons_succ]
 refine wpAnyT_take (i:=9) (v:=?_) rfl (by kernel_rfl) (by kernel_rfl) (by kernel_rfl) (by kernel_rfl) (fun _ _ _ h=>h) (Or.inl ⟨by rfl,?_⟩) (by assumption) ?_
 rotate_left
 ·(intro w hSw;(try dsimp only at hSw);simp only [List.getElem_toArray,List.getElem_cons_zero,List.getElem_cons_succ];go_simp;(first | done | with_reducible rfl))
 simp only [List.getElem_toArray,List.getElem_cons_zero,List.getElem_cons_succ,Act.put,List.setIfInBounds_toArray,List.set_cons_zero,List.set_cons_succ]
 refine wpAnyT_take (i:=11) (v:=?_) rfl (by kernel_rfl) (by kernel_rfl) (by kernel_rfl) (by kernel_rfl) (fun _ _ _ h=>h) (Or.inl ⟨by rfl,?_⟩) (by assumption) ?_
 rotate_left
 ·(intro w hSw;(try dsimp only at hSw);simp only [List.getElem_toArray,List.getElem_cons_zero,List.getElem_cons_succ];go_simp;(first | done | with_reducible rfl))
 simp only [List.getElem_toArray,List.getElem_cons_zero,List.getElem_cons_succ,Act.put,List.setIfInBounds_toArray,List.set_cons_zero,List.set_cons_succ]
 refine wpAnyT_ready (rs:=[2,12]) (by kernel_rfl) (by simp) ?_
 refine AllReadyT.cons rfl rfl (fun K hK=>?_) (AllReadyT.cons rfl rfl (fun K hK=>?_) AllReadyT.nil)
 ·go_simp
  refine hK.out _ _ ?_ (fun hHeld=>?_)
  ·exact HPS.out _ (by repeat (first | with_reducible exact Keeps.refl _ _ | with_reducible refine Keeps.alloc ?_ _ | with_reducible refine Keeps.drew ?_ | with_reducible refine Keeps.trans ?_ (by with_reducible assumption)))
  clear hK K
  try dsimp only [Act.put,List.setIfInBounds_toArray,List.set_cons_zero,List.set_cons_succ]
  refine wpAnyT_ready (rs:=[10,12]) (by kernel_rfl) (by simp) ?_
  refine AllReadyT.cons rfl rfl (fun K hK=>?_) (AllReadyT.cons rfl rfl (fun K hK=>?_) AllReadyT.nil)
  ·refine step_append_refsO _ (by rfl) _ _ (by rfl) wb.heap.size (.slice (some ⟨_,0,none⟩) 0 0) (.slice p n c) [] l (by rfl) (by rfl) (row_empty (by first | exact alloc_new | exact alloc_old alloc_new | exact alloc_new' (by simp)) (by first | omega | (simp;done))) (HRL.out _ (by repeat (first | with_reducible exact Keeps.refl _ _ | with_reducible refine Keeps.alloc ?_ _ | with_reducible refine Keeps.drew ?_ | with_reducible refine Keeps.trans ?_ (by with_reducible assumption)))) (by rw [HLL.out];first | omega | (simp;done) | (simp;omega)) (by first | omega | (simp;done) | (simp;omega)) ?_
   intro v5 w5 hr5 hk5 ho5
   rw [List.nil_append] at hr5
   have hk5':Keeps (fun y=>wb.heap.size≤y) _ w5:=hk5.mono (fun y _ hy=>by simp [Value.ownBlock] at hy;omega)
   have hs5:=hk5.size
   simp only [World.size_alloc,World.size_drew] at hs5
   clear ho5
   refine hK.out _ _ ?_ (fun hHeld=>?_)
   ·exact HPS.out _ (by repeat (first | with_reducible exact Keeps.refl _ _ | with_reducible refine Keeps.alloc ?_ _ | with_reducible refine Keeps.drew ?_ | with_reducible refine Keeps.trans ?_ (by with_reducible assumption)))
   clear hK K
   try dsimp only [Act.put,List.setIfInBounds_toArray,List.set_cons_zero,List.set_cons_succ]
   refine wpAnyT_ready (rs:=[12]) (by kernel_rfl) (by simp) ?_
   refine AllReadyT.cons rfl rfl (fun K hK=>?_) AllReadyT.nil
   go_simp
   refine hK.out _ _ ?_ (fun hHeld=>?_)
   ·exact HPS.out _ (by repeat (first | with_reducible exact Keeps.refl _ _ | with_reducible refine Keeps.alloc ?_ _ | with_reducible refine Keeps.drew ?_ | with_reducible refine Keeps.trans ?_ (by with_reducible assumption)))
   clear hK K
   try dsimp only [Act.put,List.setIfInBounds_toArray,List.set_cons_zero,List.set_cons_succ]
   refine wpAnyT_ready (rs:=[13]) (by kernel_rfl) (by simp) ?_
   refine AllReadyT.cons rfl rfl (fun K hK=>?_) AllReadyT.nil
   refine step_append_refsO _ (by rfl) _ _ (by rfl) wb.heap.size _ _ l [r] (by rfl) (by rfl) (hr5.keeps (S:=fun _=>False) (by repeat (first | with_reducible exact Keeps.refl _ _ | with_reducible refine Keeps.alloc ?_ _)) (fun _ _ _ _ h=>h)) (Refs.o (refs_one (by first | exact alloc_new | exact block_keep (drew_blk (alloc_new' (by simp))) hk5 (by simp [Value.ownBlock]) | exact block_keep (drew_blk (alloc_old alloc_new)) hk5 (by simp [Value.ownBlock])))) (by rw [HLL.out,List.length_singleton];omega) (by first | omega | (simp;done) | (simp;omega)) ?_
   intro v6 w6 hr6 hk6 ho6
   have hk6':Keeps (fun y=>wb.heap.size≤y) _ w6:=hk6.mono (fun y _ hy=>(hr5.lt y hy).1)
   clear ho6
   refine hK.out _ _ ?_ (fun hHeld=>?_)
   ·exact HPS.out _ (by repeat (first | with_reducible exact Keeps.refl _ _ | with_reducible refine Keeps.alloc ?_ _ | with_reducible refine Keeps.drew ?_ | with_reducible refine Keeps.trans ?_ (by with_reducible assumption)))
   clear hK K
   try dsimp only [Act.put,List.setIfInBounds_toArray,List.set_cons_zero,List.set_cons_succ]
   refine wpAnyT_ready (rs:=[14]) (by kernel_rfl) (by simp) ?_
   refine AllReadyT.last rfl (by kernel_rfl) (fun K hK=>?_)
   go_simp
   go_at_call 208
   refine (HST.out _ _ (by repeat (first | with_reducible exact Keeps.refl _ _ | with_reducible refine Keeps.alloc ?_ _ | with_reducible refine Keeps.drew ?_ | with_reducible refine Keeps.trans ?_ (by with_reducible assumption))) hr6.refsC (fun k hk=>(hr6.lt k hk).1)).mono ?_
   rintro e w7 ⟨rfl,hu7⟩
   refine hK.out _ _ ?_
   refine NoPanic.normal ?_
   go_wp2_with fail
   go_end0
   exact⟨rfl,hu7⟩
  ·go_simp
   refine hK.out _ _ ?_ (fun hHeld=>?_)
   ·exact HPS.out _ (by repeat (first | with_reducible exact Keeps.refl _ _ | with_reducible refine Keeps.alloc ?_ _ | with_reducible refine Keeps.drew ?_ | with_reducible refine Keeps.trans ?_ (by with_reducible assumption)))
   clear hK K
   try dsimp only [Act.put,List.setIfInBounds_toArray,List.set_cons_zero,List.set_cons_succ]
   refine wpAnyT_ready (rs:=[10]) (by kernel_rfl) (by simp) ?_
   refine AllReadyT.cons rfl rfl (fun K hK=>?_) AllReadyT.nil
   refine step_append_refsO _ (by rfl) _ _ (by rfl) wb.heap.size (.slice (some ⟨_,0,none⟩) 0 0) (.slice p n c) [] l (by rfl) (by rfl) (row_empty (by first | exact alloc_new | exact alloc_old alloc_new | exact alloc_new' (by simp)) (by first | omega | (simp;done))) (HRL.out _ (by repeat (first | with_reducible exact Keeps.refl _ _ | with_reducible refine Keeps.alloc ?_ _ | with_reducible refine Keeps.drew ?_ | with_reducible refine Keeps.trans ?_ (by with_reducible assumption)))) (by rw [HLL.out];first | omega | (simp;done) | (simp;omega)) (by first | omega | (simp;done) | (simp;omega)) ?_
   intro v5 w5 hr5 hk5 ho5
   rw [List.nil_append] at hr5
   have hk5':Keeps (fun y=>wb.heap.size≤y) _ w5:=hk5.mono (fun y _ hy=>by simp [Value.ownBlock] at hy;omega)
   have hs5:=hk5.size
   simp only [World.size_alloc,World.size_drew] at hs5
   clear ho5
   refine hK.out _ _ ?_ (fun hHeld=>?_)
   ·exact HPS.out _ (by repeat (first | with_reducible exact Keeps.refl _ _ | with_reducible refine Keeps.alloc ?_ _ | with_reducible refine Keeps.drew ?_ | with_reducible refine Keeps.trans ?_ (by with_reducible assumption)))
   clear hK K
   try dsimp only [Act.put,List.setIfInBounds_toArray,List.set_cons_zero,List.set_cons_succ]
   refine wpAnyT_ready (rs:=[13]) (by kernel_rfl) (by simp) ?_
   refine AllReadyT.cons rfl rfl (fun K hK=>?_) AllReadyT.nil
   refine step_append_refsO _ (by rfl) _ _ (by rfl) wb.heap.size _ _ l [r] (by rfl) (by rfl) (hr5.keeps (S:=fun _=>False) (by repeat (first | with_reducible exact Keeps.refl _ _ | with_reducible refine Keeps.alloc ?_ _)) (fun _ _ _ _ h=>h)) (Refs.o (refs_one (by first | exact alloc_new | exact block_keep (drew_blk (alloc_new' (by simp))) hk5 (by simp [Value.ownBlock]) | exact block_keep (drew_blk (alloc_old alloc_new)) hk5 (by simp [Value.ownBlock])))) (by rw [HLL.out,List.length_singleton];omega) (by first | omega | (simp;done) | (simp;omega)) ?_
   intro v6 w6 hr6 hk6 ho6
   have hk6':Keeps (fun y=>wb.heap.size≤y) _ w6:=hk6.mono (fun y _ hy=>(hr5.lt y hy).1)
   clear ho6
   refine hK.out _ _ ?_ (fun hHeld=>?_)
   ·exact HPS.out _ (by repeat (first | with_reducible exact Keeps.refl _ _ | with_reducible refine Keeps.alloc ?_ _ | with_reducible refine Keeps.drew ?_ | with_reducible refine Keeps.trans ?_ (by with_reducible assumption)))
   clear hK K
   try dsimp only [Act.put,List.setIfInBounds_toArray,List.set_cons_zero,List.set_cons_succ]
   refine wpAnyT_ready (rs:=[14]) (by kernel_rfl) (by simp) ?_
   refine AllReadyT.last rfl (by kernel_rfl) (fun K hK=>?_)
   go_simp
   go_at_call 208
   refine (HST.out _ _ (by repeat (first | with_reducible exact Keeps.refl _ _ | with_reducible refine Keeps.alloc ?_ _ | with_reducible refine Keeps.drew ?_ | with_reducible refine Keeps.trans ?_ (by with_reducible assumption))) hr6.refsC (fun k hk=>(hr6.lt k hk).1)).mono ?_
   rintro e w7 ⟨rfl,hu7⟩
   refine hK.out _ _ ?_
   refine NoPanic.normal ?_
   go_wp2_with fail
   go_end0
   exact⟨rfl,hu7⟩
 ·go_simp
  refine hK.out _ _ ?_ (fun hHeld=>?_)
  ·exact HPS.out _ (by repeat (first | with_reducible exact Keeps.refl _ _ | with_reducible refine Keeps.alloc ?_ _ | with_reducible refine Keeps.drew ?_ | with_reducible refine Keeps.trans ?_ (by with_reducible assumption)))
  clear hK K
  try dsimp only [Act.put,List.setIfInBounds_toArray,List.set_cons_zero,List.set_cons_succ]
  refine wpAnyT_ready (rs:=[2]) (by kernel_rfl) (by simp) ?_
  refine AllReadyT.cons rfl rfl (fun K hK=>?_) AllReadyT.nil
  go_simp
  refine hK.out _ _ ?_ (fun hHeld=>?_)
  ·exact HPS.out _ (by repeat (first | with_reducible exact Keeps.refl _ _ | with_reducible refine Keeps.alloc ?_ _ | with_reducible refine Keeps.drew ?_ | with_reducible refine Keeps.trans ?_ (by with_reducible assumption)))
  clear hK K
  try dsimp only [Act.put,List.setIfInBounds_toArray,List.set_cons_zero,List.set_cons_succ]
  refine wpAnyT_ready (rs:=[10]) (by kernel_rfl) (by simp) ?_
  refine AllReadyT.cons rfl rfl (fun K hK=>?_) AllReadyT.nil
  refine step_append_refsO _ (by rfl) _ _ (by rfl) wb.heap.size (.slice (some ⟨_,0,none⟩) 0 0) (.slice p n c) [] l (by rfl) (by rfl) (row_empty (by first | exact alloc_new | exact alloc_old alloc_new | exact alloc_new' (by simp)) (by first | omega | (simp;done))) (HRL.out _ (by repeat (first | with_reducible exact Keeps.refl _ _ | with_reducible refine Keeps.alloc ?_ _ | with_reducible refine Keeps.drew ?_ | with_reducible refine Keeps.trans ?_ (by with_reducible assumption)))) (by rw [HLL.out];first | omega | (simp;done) | (simp;omega)) (by first | omega | (simp;done) | (simp;omega)) ?_
  intro v5 w5 hr5 hk5 ho5
  rw [List.nil_append] at hr5
  have hk5':Keeps (fun y=>wb.heap.size≤y) _ w5:=hk5.mono (fun y _ hy=>by simp [Value.ownBlock] at hy;omega)
  have hs5:=hk5.size
  simp only [World.size_alloc,World.size_drew] at hs5
  clear ho5
  refine hK.out _ _ ?_ (fun hHeld=>?_)
  ·exact HPS.out _ (by repeat (first | with_reducible exact Keeps.refl _ _ | with_reducible refine Keeps.alloc ?_ _ | with_reducible refine Keeps.drew ?_ | with_reducible refine Keeps.trans ?_ (by with_reducible assumption)))
  clear hK K
  try dsimp only [Act.put,List.setIfInBounds_toArray,List.set_cons_zero,List.set_cons_succ]
  refine wpAnyT_ready (rs:=[13]) (by kernel_rfl) (by simp) ?_
  refine AllReadyT.cons rfl rfl (fun K hK=>?_) AllReadyT.nil
  refine step_append_refsO _ (by rfl) _ _ (by rfl) wb.heap.size _ _ l [r] (by rfl) (by rfl) (hr5.keeps (S:=fun _=>False) (by repeat (first | with_reducible exact Keeps.refl _ _ | with_reducible refine Keeps.alloc ?_ _)) (fun _ _ _ _ h=>h)) (Refs.o (refs_one (by first | exact alloc_new | exact block_keep (drew_blk (alloc_new' (by simp))) hk5 (by simp [Value.ownBlock]) | exact block_keep (drew_blk (alloc_old alloc_new)) hk5 (by simp [Value.ownBlock])))) (by rw [HLL.out,List.length_singleton];omega) (by first | omega | (simp;done) | (simp;omega)) ?_
  intro v6 w6 hr6 hk6 ho6
  have hk6':Keeps (fun y=>wb.heap.size≤y) _ w6:=hk6.mono (fun y _ hy=>(hr5.lt y hy).1)
  clear ho6
  refine hK.out _ _ ?_ (fun hHeld=>?_)
  ·exact HPS.out _ (by repeat (first | with_reducible exact Keeps.refl _ _ | with_reducible refine Keeps.alloc ?_ _ | with_reducible refine Keeps.drew ?_ | with_reducible refine Keeps.trans ?_ (by with_reducible assumption)))
  clear hK K
  try dsimp only [Act.put,List.setIfInBounds_toArray,List.set_cons_zero,List.set_cons_succ]
  refine wpAnyT_ready (rs:=[14]) (by kernel_rfl) (by simp) ?_
  refine AllReadyT.last rfl (by kernel_rfl) (fun K hK=>?_)
  go_simp
  go_at_call 208
  refine (HST.out _ _ (by repeat (first | with_reducible exact Keeps.refl _ _ | with_reducible refine Keeps.alloc ?_ _ | with_reducible refine Keeps.drew ?_ | with_reducible refine Keeps.trans ?_ (by with_reducible assumption))) hr6.refsC (fun k hk=>(hr6.lt k hk).1)).mono ?_
  rintro e w7 ⟨rfl,hu7⟩
  refine hK.out _ _ ?_
  refine NoPanic.normal ?_
  go_wp2_with fail
  go_end0
  exact⟨rfl,hu7⟩
end
end Go.Proofs.YtnlkfbndlngjaaaGreat
namespace Go.Proofs.YtnlkfbndlngjaaaGreat
open Go.RowKit
set_option linter.unusedVariables false
set_option linter.unusedSimpArgs false
section
variable {w w':World} {x:Nat} {L:L18} {A:Ar}
theorem Up18.stay {N:Nat} (h:R18 w x L A) (hk:Keeps (fun _=>False) w w'):Up18 x N L A w w':=⟨hk.up,L,rfl,h.k0 hk,fun m k hm hk=>.inl ⟨m,hm,hk⟩⟩
theorem R18.setH {H':Hp} {r':Nat} (h:R18 w x L A) (hk:Keeps (fun y=>y=L.hb) w w') (hH:R14 w' L.hb r' H') (hn:H'.T.n=A.H.T.n) (hok:({ A with H:=H' }:Ar).Ok):R18 w' x { L with hr:=r' } { A with H:=H' }:=by
 obtain⟨c,cap,h1,h2,h3,h4,h5⟩:=h.own
 obtain⟨cr,r1,r2⟩:=h.row
 obtain⟨_,_,_,a1⟩:=h.heap.own
 refine⟨⟨c,cap,block_keep h1 hk (type_ne h1 a1 (by decide)),h2,h3,by rw [hn];exact h4,h5⟩,hH,⟨cr,block_keep r1 hk (type_ne r1 a1 (by decide)),r2⟩,fun m hm=>(h.st m hm).keeps hk (fun k hk' e=>?_),hok⟩
 rcases (h.st m hm).r with⟨e',_⟩ | ⟨g,cap,cur,e',hg,_⟩
 ·rw [e'] at hk';cases hk'
 ·rw [e'] at hk'
  obtain rfl:g=k:=Option.some.inj hk'
  exact type_ne hg a1 (by decide) e
theorem stack18 (m:Nat) (h:R18 w x L A) (hm:m<A.many):
 Calls Tryz.prog 137 #[.pointer (some ⟨x,0,none⟩),.int .i64 m] w fun e w'=>∃ v,e = .returned (.tuple #[v,.int .i64 0])∧Row w' w.heap.size v (A.rt m).l∧Keeps (fun _=>False) w w':=by
 have HMU:=hid (mutator18 m h)
 rw [show A.mutE m=0 by unfold Ar.mutE;rw [if_neg (by omega)]] at HMU
 obtain⟨cap,a1,a2,c3⟩:=h.c3
 have sc:=h.sc hm
 obtain⟨p,c,e,h32⟩:=h.sl hm
 have hst:=h.st m hm
 rw [e] at sc hst
 obtain⟨hlx,hls⟩:=h.lt
 have hll:=rt_len A m
 have hm0:(0:Int)≤(m:Int):=by omega
 have hmn:(m:Int)<A.many:=by omega
 have HR:=hid (fun o=>(hst.keeps ((Keeps.refl (fun _=>False) w).alloc o) (fun _ _ h=>h)).o)
 have HE:=hid (row_empty (base:=w.heap.size) (alloc_new (w:=w) (o:=.cells #[] 34)) (Nat.le_refl _))
 obtain⟨l,hl⟩:∃ l,(A.rt m).l=l:=⟨_,rfl⟩
 obtain⟨n,hn⟩:∃ n,(A.rt m).n=n:=⟨_,rfl⟩
 rw [hl] at HR hll ⊢
 rw [hn] at sc h32 HR hll
 have HLL:=hid hll
 unfold maxLen at a2
 clear h hst e hl hn hm hll
 go_enter Tryz.func137,Tryz.ntmps137
 go_wp2_with (first
  | (go_at_call 195;refine HMU.out.mono ?_;rintro e w' ⟨rfl,h'⟩;obtain rfl:=h'.symm)
  | (at_builtin;refine wpList_append_refsO _ rfl _ _ rfl w.heap.size (.slice (some ⟨w.heap.size,0,none⟩) 0 0) (.slice p n c) [] l rfl rfl HE.out (HR.out _) (by rw [HLL.out];simp;omega) (by simp) ?_;intro v5 w5 hr5 hk5 ho5;rw [List.nil_append] at hr5)
  | fail)
 go_ret2
 exact⟨v5,rfl,hr5,Keeps.fresh (((Keeps.refl (fun y=>w.heap.size≤y) w).alloc _).trans' hk5 (fun _ _ h=>h) (fun y _ hy=>by simp [Value.ownBlock] at hy;omega))⟩
def Ar.glU (A:Ar) (k:Nat):List Rf:=((List.range k).map A.gl).filter (·.nz)
theorem Ar.glU_succ (A:Ar) (k:Nat):A.glU (k+1)=A.glU k ++ (if (A.gl k).nz=true then [A.gl k] else []):=by
 unfold Ar.glU
 rw [List.range_succ,List.map_append,List.filter_append]
 congr 1
 by_cases h:(A.gl k).nz=true
 ·simp [h]
 ·simp [h]
theorem Ar.glU_len (A:Ar) (k:Nat):(A.glU k).length≤k:=by
 unfold Ar.glU
 exact Nat.le_trans (List.length_filter_le _ _) (by simp)
theorem globals18 (h:R18 w x L A):
 Calls Tryz.prog 141 #[.pointer (some ⟨x,0,none⟩)] w fun e w'=>∃ v,e = .returned v∧Row w' w.heap.size v A.glL∧Keeps (fun _=>False) w w':=by
 have HH:=hid (fun W (hk:Keeps (fun _=>False) w W)=>h.k0 hk)
 have HG:=hid (show A.glU 8=A.glL from rfl)
 clear h
 go_enter Tryz.func141,Tryz.ntmps141
 go_wp2_with fail
 go_loopw [3,4] (fun s3 ix wr=>∃ (k:Nat) (p:Option Addr) (c n:Nat),k≤8∧n=(A.glU k).length∧ix = .int .i64 k∧s3 = .slice p n c∧Hid (Row wr w.heap.size (.slice p n c) (A.glU k))∧Hid (Keeps (fun _=>False) w wr)) (fun _ ix _=>8 - (intOf ix).toNat)
 case atStart=>exact⟨0,none,0,0,Nat.zero_le _,rfl,rfl,rfl,hid (Row.nil _ _),hid (Keeps.refl _ _)⟩
 case round=>
  obtain⟨k,p,c,n,hk,hn,rfl,rfl,HR,HK⟩:=hrel
  have HN:=hid hn
  have hn8:=A.glU_len k
  rw [← hn] at hn8
  clear hn
  have hk0:(0:Int)≤k:=by omega
  have hq:=HH.out wr HK.out
  have HQ:=hid hq
  obtain⟨hlx,_⟩:=hq.lt
  by_cases hlt:k<8
  ·have hlt':(k:Int)<8:=by omega
   obtain⟨c0,c1⟩:=hq.gl hlt
   have HU:=hid (A.glU_succ k)
   obtain⟨r,hr⟩:∃ r,A.gl k=r:=⟨_,rfl⟩
   rw [hr] at c0 c1 HU
   have hneq:=fun W=>neq_nz r W
   rcases hz:r.nz with _ | _
   ·rw [hz] at hneq HU
    have HI:=hid (show A.glU (k+1)=A.glU k by rw [HU.out];simp)
    clear hz hr hq HU
    go_wp2_with (go_at_call 147;refine (valid18 x _ HQ.out.made).mono ?_;rintro e w' ⟨rfl,h'⟩;obtain rfl:=h'.symm)
    refine⟨⟨k+1,p,c,n,by omega,by rw [HI.out];exact HN.out,by go_num,rfl,by rw [HI.out];exact HR,HK⟩,by simp [intOf];omega⟩
   ·rw [hz] at hneq HU
    have HI:=hid (show A.glU (k+1)=A.glU k ++ [r] by rw [HU.out];simp)
    have HVD:=hid (HR.out.keeps ((Keeps.refl (fun _=>False) wr).alloc (.cells #[.int .i64 r.s,.int .u32 r.g] 34)) (fun _ _ _ _ h=>h))
    have HRO:=hid (Refs.o (refs_one (x:=r) (alloc_new (w:=wr) (o:=.cells #[.int .i64 r.s,.int .u32 r.g] 34))))
    have hsb:=HK.out.size
    clear hz hr hq HU
    go_wp2_with (first
     | (go_at_call 147;refine (valid18 x _ HQ.out.made).mono ?_;rintro e w' ⟨rfl,h'⟩;obtain rfl:=h'.symm)
     | (at_builtin;refine wpList_append_refsO _ rfl _ _ rfl w.heap.size (.slice p n c) _ (A.glU k) [r] rfl rfl HVD.out HRO.out (by rw [List.length_singleton,← HN.out];omega) (by rw [World.size_alloc];omega) ?_;intro v5 w5 hr5 hk5 ho5;obtain⟨p5,c5,hv5⟩:=hr5.refs.slice;rw [show (A.glU k ++ [r]).length=n+1 from by rw [List.length_append,← HN.out];rfl] at hv5;subst hv5)
     | fail)
    have hlt5:=HVD.out.lt
    refine⟨⟨k+1,p5,c5,n+1,by omega,by rw [HI.out,List.length_append,← HN.out];rfl,by go_num,rfl,by rw [HI.out];exact hid hr5,hid ((HK.out.alloc _).trans' hk5 (fun _ _ h=>h) (fun y hy hz=>by have:=(hlt5 y hz).1;omega))⟩,by simp [intOf];omega⟩
  ·obtain rfl:k=8:=by omega
   go_wp2_with (go_at_call 147;refine (valid18 x _ HQ.out.made).mono ?_;rintro e w' ⟨rfl,h'⟩;obtain rfl:=h'.symm)
   go_ret
   refine⟨_,rfl,?_,HK.out⟩
   rw [← HG.out]
   exact HR.out
theorem Ar.Ok.setHok {A:Ar} {H':Hp} (h:A.Ok) (h2:({ A with H:=H' }:Ar).H.T.n=A.H.T.n) (h3:∀ i,i<H'.T.n→1≤H'.T.gn i∧H'.T.gn i≤4294967295) (h4:∀ i,(H'.ob i).Good):({ A with H:=H' }:Ar).Ok:=
 ⟨by rw [h2];exact h.n1,by rw [h2];exact h.n2,h.m1,h.m4,h3,h4,h.rt,h.gl⟩
theorem free18 (q:Rf) (h:R18 w x L A):
 Calls Tryz.prog 75 #[.pointer (some ⟨x,0,none⟩),.agg #[.int .i64 q.s,.int .u32 q.g]] w fun e w'=>e = .returned (.int .i64 (A.freeR q).2)∧Up18 x w.heap.size L (A.freeR q).1 w w':=by
 obtain⟨wb,hwb⟩:∃ wb,w.alloc (.cells #[.int .i64 q.s,.int .u32 q.g] 34)=wb:=⟨_,rfl⟩
 have kb:Keeps (fun _=>False) w wb:=by rw [← hwb];exact (Keeps.refl _ _).alloc _
 have qb:wb.heap[w.heap.size]?=some (.cells #[.int .i64 q.s,.int .u32 q.g] 34):=by rw [← hwb];exact alloc_new
 have hb:=h.k0 kb
 have HVA:=hid (valid18 x wb hb.made)
 have hlhb:=hb.heap.lt.1
 have hne:w.heap.size≠L.hb:=by
  have:=h.heap.lt.1;omega
 have HPS:=hid (fun W (hk:Keeps (fun y=>y=L.hb) wb W)=>show W.cell? ⟨x,2,none⟩=some (.pointer (some ⟨L.hb,0,none⟩))∧W.cell? ⟨w.heap.size,0,none⟩=some (.int .i64 q.s)∧W.cell? ⟨w.heap.size,1,none⟩=some (.int .u32 q.g) from by
  have q':=block_keep qb hk hne
  obtain⟨c,cap,x1,_,_,_,x2,_⟩:=hb.own
  obtain⟨_,_,_,a1⟩:=hb.heap.own
  exact⟨cell_at (block_keep x1 hk (type_ne x1 a1 (by decide))) x2,cell_at q' rfl,cell_at q' rfl⟩)
 have HW:=hid hwb
 have HFR:Hid (∀ W,Keeps (fun _=>False) wb W→Calls Tryz.prog 148 #[.pointer (some ⟨L.hb,0,none⟩),.agg #[.int .i64 q.s,.int .u32 q.g]] W fun e w'=>e = .returned (.int .i64 (A.freeR q).2)∧Up18 x w.heap.size L (A.freeR q).1 w w'∧Keeps (fun y=>y=L.hb) wb w'):=by
  intro W hk
  by_cases hc:ckV A.H.T q.s q.g=0
  ·obtain⟨i,hi,hin,hst,hgn⟩:=ckV_ok hc
   have e1:A.freeR q=({ A with H:=A.H.free i },0):=by unfold Ar.freeR Hp.freeR;rw [if_neg (by rw [hc];simp),hi];simp
   rw [e1]
   have hW:=hb.k0 hk
   have:=free14_ok (w:=W) (b:=L.hb) (r:=L.hr) (H:=A.H) i q.g hW.heap (by rw [← hi];exact hc)
   rw [← hi] at this
   refine this.mono ?_
   rintro e w' ⟨h1,h2,r',h3,h4⟩
   exact⟨h1,⟨(kb.trans hk).up.trans' h2 (fun _ _ h=>h) (fun _ _ h=>.inr h),{ L with hr:=r' },rfl,hW.setH h2 h4 (Tb.give_n _ _) (h.ok.setHok (Tb.give_n _ _) h4.gn h4.good),fun m k hm hk=>.inl ⟨m,hm,hk⟩⟩,hk.up.trans h2⟩
  ·have e1:A.freeR q=(A,ckV A.H.T q.s q.g):=by unfold Ar.freeR Hp.freeR;rw [if_pos hc]
   rw [e1]
   refine (free14_bad q (hb.k0 hk).heap hc).mono ?_
   rintro e w' ⟨h1,h2⟩
   exact⟨h1,Up18.stay h ((kb.trans hk).trans h2),(hk.trans h2).up⟩
 obtain⟨R,hR⟩:∃ R,A.freeR q=R:=⟨_,rfl⟩
 rw [hR] at HFR ⊢
 clear h hb kb qb hwb hR
 obtain⟨c2,b0,b1⟩:=HPS.out wb (Keeps.refl _ _)
 go_enter Tryz.func75,Tryz.ntmps75
 go_upto_region 1 with (fail)
 rw [HW.out]
 go_wp2_with fail
 refine (HVA.out).mono ?_
 rintro e w' ⟨rfl,h'⟩
 obtain rfl:=h'.symm
 go_wp2_with fail
 go_region_held3 (fun W=>W.cell? ⟨x,2,none⟩=some (.pointer (some ⟨L.hb,0,none⟩))∧W.cell? ⟨w.heap.size,0,none⟩=some (.int .i64 q.s)∧W.cell? ⟨w.heap.size,1,none⟩=some (.int .u32 q.g))
  ((refine HPS.out _ ?_;first | with_reducible assumption | exact (Keeps.refl _ _).drew))
  (first | (go_at_call 148;refine (HFR.out _ (Keeps.refl _ _).drew).mono ?_;rintro e w2 ⟨rfl,hu2,hk2⟩))
 go_wp2_with fail
 go_ret
 exact⟨rfl,hu2⟩
end
end Go.Proofs.YtnlkfbndlngjaaaGreat
