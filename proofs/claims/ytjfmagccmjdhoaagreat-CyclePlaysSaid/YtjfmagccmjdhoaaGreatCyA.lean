import Derived.Test.YtjfmagccmjdhoaaGreatNgC
import Derived.Maps.OwnOps
import Derived.DeepKeys4
import Derived.Maps.AppendAt
import Derived.Test.YtjfmagccmjdhoaaGreatNgD
set_option linter.unusedVariables false
set_option maxHeartbeats 1000000
set_option maxRecDepth 100000
namespace Go.Proofs.YtjfmagccmjdhoaaGreat
open Go.RowKit
structure Trio (w0 w:World) (a m b:Nat) (LA:ArL) (LM:MkL) (s:Sys) (S:Sw):Prop where
 both:Both w0 w a m LA LM s
 sw:SwAt w b S
 hb:w0.heap.size≤b
theorem Trio.same {w0 w w':World} {a m b:Nat} {LA:ArL} {LM:MkL} {s:Sys} {S:Sw} (h:Trio w0 w a m b LA LM s S) (hk:Kz w w'):Trio w0 w' a m b LA LM s S:=
 ⟨Duo.same h.both hk,h.sw.keeps hk (fun h=>h),h.hb⟩
theorem Trio.far {w0 w w':World} {a m b:Nat} {LA:ArL} {LM:MkL} {s:Sys} {S:Sw} (h:Trio w0 w a m b LA LM s S) (hk:zA (fun y=>y=b) w w') {S':Sw} (hs:SwAt w' b S'):Trio w0 w' a m b LA LM s S':=
 ⟨Both.sw h.both h.sw hk h.hb,hs,h.hb⟩
theorem Trio.kp {w0 w:World} {a m b:Nat} {LA:ArL} {LM:MkL} {s:Sys} {S:Sw} (h:Trio w0 w a m b LA LM s S):Kz w0 w:=Duo.kp h.both
theorem trio_begin {w0 w:World} {a m b:Nat} {LA:ArL} {LM:MkL} {s:Sys} {S:Sw} (h:Trio w0 w a m b LA LM s S):
 Calls Tryz.prog 248 #[.pointer (some ⟨b,0,none⟩)] w fun e w'=>e = .returned (.int .i64 0)∧Trio w0 w' a m b LA LM s ⟨S.size,0,0⟩∧zA (fun y=>y=b) w w':=by
 refine (swbegin_ok b S w h.sw).mono ?_
 rintro e w' ⟨rfl,hk,hs⟩
 exact⟨rfl,h.far hk hs,hk⟩
theorem trio_step {w0 w:World} {a m b:Nat} {LA:ArL} {LM:MkL} {s:Sys} {S:Sw} (h:Trio w0 w a m b LA LM s S) (hok:s.Ok) (hc:S.chk s.A s.M=0):
 Calls Tryz.prog 249 #[.pointer (some ⟨b,0,none⟩),.pointer (some ⟨a,0,none⟩),.pointer (some ⟨m,0,none⟩)] w fun e w'=>e = .returned (.tuple #[(S.stepR s).r.val,.bool (S.stepR s).is,.int .i64 0])∧Trio w0 w' a m b LA LM (S.stepR s).s (S.stepR s).S∧zA (fun y=>y=b∨foot2 LA LM s y) w w':=by
 refine (swstep_ok a m b s S w h.both h.sw h.hb hok hc).mono ?_
 rintro e w' ⟨rfl,hd,hs,hk⟩
 exact⟨rfl,⟨hd,hs,h.hb⟩,hk⟩
theorem Sys.free_M {s:Sys} {i:Nat} (hi:i<s.M.P.n):(s.free i).M={ s.M with P:=s.M.P.put i 0 }:=by
 show (s.M.freedR i).1=_
 unfold Mk.freedR;rw [if_neg (by omega),Int.toNat_natCast]
theorem Sw.step_all {S:Sw} {s:Sys} (h:s.Ok) (hn:S.next<s.M.P.n):(S.stepR s).s.Ok∧(S.stepR s).s.M.K=s.M.K∧(S.stepR s).s.M.P.n=s.M.P.n∧(S.stepR s).S.size=S.size∧(S.stepR s).S.next=S.next+1:=by
 unfold Sw.stepR
 split
 ·exact⟨h,rfl,rfl,rfl,rfl⟩
 ·rename_i hc
  have h0:s.M.P.c S.next=0:=Decidable.not_not.1 (fun hx=>hc (.inl hx))
  have hM:=Sys.free_M (s:=s) hn
  refine⟨h.free hn h0,?_,?_,rfl,rfl⟩
  ·show (s.free S.next).M.K=_;rw [hM]
  ·show (s.free S.next).M.P.n=_;rw [hM];rfl
theorem Trio.noref {w0 w:World} {a m b:Nat} {LA:ArL} {LM:MkL} {s:Sys} {S:Sw} (h:Trio w0 w a m b LA LM s S) {x:Nat} {c:Array Value} (hx:w.heap[x]?=some (.cells c 51)):¬ (x=b∨foot2 LA LM s x):=by
 obtain⟨⟨h1,h2,_,_⟩,hs,_⟩:=h
 obtain⟨_,_,hhp,⟨cg,hcg,_⟩,hst,_⟩:=h1
 obtain⟨⟨cy,hcy,_⟩,⟨cz,hcz,_⟩,_,_⟩:=hhp
 obtain⟨_,_,ek,⟨ep,hep,_⟩,⟨es,hes,_⟩,eb,_⟩:=h2
 rintro (h | h)
 ·exact zM hx hs.own (by decide) h
 rcases h with h | h
 ·rcases h with h | h | h | ⟨k,hk,h⟩
  ·exact zM hx hcy (by decide) h
  ·exact zM hx hcz (by decide) h
  ·exact zM hx hcg (by decide) h
  ·obtain⟨c,hc,_⟩:=hst k hk;exact zM hx hc (by decide) h
 ·rcases h with h | h | h | ⟨k,hk,h⟩
  ·exact zM hx ek.own (by decide) h
  ·exact zM hx hep (by decide) h
  ·exact zM hx hes (by decide) h
  ·obtain⟨c,hc,_⟩:=eb k hk;exact zM hx hc (by decide) h
section
variable {w0 w:World} {a m b:Nat} {LA:ArL} {LM:MkL}
end
end Go.Proofs.YtjfmagccmjdhoaaGreat
namespace Go.Proofs.YtjfmagccmjdhoaaGreat
open Go.RowKit
theorem Refs.cell {w:World} {a:Option Addr} {n c:Nat} {l:List Rf} (h:Refs w (.slice a n c) l):n=l.length∧∀ (j:Nat) (r:Rf),l[j]?=some r→∃ g,a=some ⟨g,0,none⟩∧g<w.heap.size∧w.cell? ⟨g,j * 2,none⟩=some (.int .i64 r.s)∧w.cell? ⟨g,j * 2+1,none⟩=some (.int .u32 r.g):=by
 rcases h with⟨e,rfl⟩ | ⟨g,cap,cur,e,hg,hc⟩
 ·injection e with e1 e2 e3
  exact⟨e2,fun j r hj=>by cases hj⟩
 ·injection e with e1 e2 e3
  exact⟨e2,fun j r hj=>⟨g,e1,zF hg,zD hg (hc j r hj).1,zD hg (hc j r hj).2⟩⟩
theorem Refs.slice {w:World} {v:Value} {l:List Rf} (h:Refs w v l):∃ a c,v = .slice a l.length c:=by
 rcases h with⟨rfl,rfl⟩ | ⟨g,cap,cur,rfl,hg,hc⟩
 ·exact⟨_,_,rfl⟩
 ·exact⟨_,_,rfl⟩
theorem Rf.eq_iff {x y:Rf}:(x.s == y.s && x.g == y.g)=decide (x=y):=by
 obtain⟨a,b⟩:=x;obtain⟨c,d⟩:=y
 rw [Bool.eq_iff_iff]
 simp
open Go.Maps (Keyed)
theorem aobject_of (a:Nat) (LA:ArL) (A:Ar) (r:Rf) (o:Ob) (k:Int) (w:World) (h:ArIn w a LA A)
 (hob:∀ W,HpAt W LA.b LA.t A.H→Calls Tryz.prog 274 #[.pointer (some ⟨LA.b,0,none⟩),.agg #[.int .i64 r.s,.int .u32 r.g]] W fun e w'=>e = .returned (.tuple #[.agg o.arr,.int .i64 k])∧Kz W w'):
 Calls Tryz.prog 257 #[.pointer (some ⟨a,0,none⟩),.agg #[.int .i64 r.s,.int .u32 r.g]] w fun e w'=>e = .returned (.tuple #[.agg o.arr,.int .i64 k])∧Kz w w':=by
 have HF:=zC (fun W (hk:zA (fun y=>w.heap.size≤y) w W)=>And.intro ((h.keepsF hk (fun _ h=>h)).c0) (And.intro (zX (h.keepsF hk (fun _ h=>h)).obj).1 (h.keepsF hk (fun _ h=>h)).heap))
 have HOB:=zC hob
 clear h hob
 have q0:=zG (o:=.cells (Ob.new 0 false).arr 151) (zE (w:=w) (o:=.cells #[.int .i64 r.s,.int .u32 r.g] 51))
 have q1:=zN (w:=w.alloc (.cells #[.int .i64 r.s,.int .u32 r.g] 51)) (n:=w.heap.size+1) (o:=.cells (Ob.new 0 false).arr 151) (by simp)
 obtain⟨w0,hw0⟩:∃ w0,(w.alloc (.cells #[.int .i64 r.s,.int .u32 r.g] 51)).alloc (.cells (Ob.new 0 false).arr 151)=w0:=⟨_,rfl⟩
 have k0:Kz w w0:=by rw [← hw0];exact ((zA.refl _ _).alloc _).alloc _
 rw [hw0] at q0 q1
 have HQ0:=zC q0;have HQ1:=zC q1;have HK0:=zC (show zA (fun y=>w.heap.size≤y) w w0 from k0.up)
 have HFF:=zC (fun W (hk:zA (fun y=>y=w.heap.size+1) w0 W)=>show W.cell? ⟨a,0,none⟩=some (.pointer (some ⟨LA.o,0,none⟩))∧W.cell? ⟨LA.o,0,none⟩=some (.pointer (some ⟨LA.b,0,none⟩))∧W.cell? ⟨w.heap.size,0,none⟩=some (.int .i64 r.s)∧W.cell? ⟨w.heap.size,1,none⟩=some (.int .u32 r.g) from by
  obtain⟨g1,g2,_⟩:=HF.out W (HK0.out.trans (hk.mono (fun y _ h=>by omega)))
  obtain⟨g3,g4,_⟩:=zK (zB HQ0.out hk (by omega))
  exact⟨g1,g2,g3,g4⟩)
 obtain⟨c0,c1,_⟩:=HF.out w0 HK0.out
 obtain⟨e0,e1,_,_⟩:=zK q0
 clear k0 q0 q1
 simp only [Ob.arr,Ob.new,Rf.no] at hw0
 go_in
 go_wp2_with fail
 clear hw0
 refine zP ((avalid a LA.o _ c0)) ?_
 go_wp2_with fail
 go_region_held3 (fun W=>W.cell? ⟨a,0,none⟩=some (.pointer (some ⟨LA.o,0,none⟩))∧W.cell? ⟨LA.o,0,none⟩=some (.pointer (some ⟨LA.b,0,none⟩))∧W.cell? ⟨w.heap.size,0,none⟩=some (.int .i64 r.s)∧W.cell? ⟨w.heap.size,1,none⟩=some (.int .u32 r.g))
  ((refine HFF.out _ ?_;(with_reducible repeat first | exact zA.refl _ _ | refine zA.alloc ?_ _ | refine zA.drew ?_ | refine zA.setCell ?_ (.inl ?_) _ | refine zA.trans ?_ (zA.up (by with_reducible assumption))) <;> rfl))
  (first | (go_at_call 274;refine (HOB.out _ ((HF.out _ HK0.out.drew).2.2)).mono ?_;rintro e w4 ⟨rfl,hk4⟩;have hk5:=(zA.drew (zA.refl (fun _=>False) w0)).trans hk4;have q5:=zB HQ1.out hk5 (fun h=>h);obtain⟨d0,d1,d2,d3,d4,d5,d6,d7,d8,d9,df,dl⟩:=zZ q5;have f0:=df 0;have f1:=df 1;have f2:=df 2;have f3:=df 3;have f4:=df 4;have f5:=df 5;have f6:=df 6;have f7:=df 7;have f8:=df 8;have f9:=df 9;simp only [Ob.arr]))
 all_goals
  go_wp2_with fail
  refine bodyPost_ret_by (v:=.tuple #[.agg o.arr,.int .i64 k]) (by simp [results,Tryz.results257,go_sem,Ob.arr, *]) rfl ⟨rfl,?_⟩
  refine zA.fresh ?_
  with_reducible exact keeps10_0 (HK0.out.trans hk5.up) (b:=w.heap.size+1) (.inl (by omega)) _ _ _ _ _ _ _ _ _ _
theorem run_append_refs (ty:TypeId) (base:Nat) (v u:Value) (l m:List Rf) (w:World) (hv:Row w base v l) (hu:Refs w u m) (h1:l.length+m.length≤1000000) (hb:base≤w.heap.size):
 ∃ v' w',(Builtin.append_ #[35,35] ty #[v,u]).run Tryz.prog w = .ok v' w'∧Row w' base v' (l ++ m)∧zA (fun k=>v.ownBlock=some k) w w'∧(v'.ownBlock=v.ownBlock∨v'.ownBlock=some w.heap.size):=by
 obtain⟨ri,hi1,hi2,hi3,hi4⟩:=ref_info
 rcases hu with⟨rfl,rfl⟩ | ⟨g,cap,cur,rfl,hg,hc⟩
 ·refine⟨v,w,?_,by simpa using hv,zA.refl _ _,.inl rfl⟩
  rcases hv.2 with⟨rfl,_⟩ | ⟨g,c,cur,rfl,_,_,hn,_⟩
  ·simp [Builtin.append_,run_underlying Tryz.underlying35,sizeOf,typeInfo,hi1,Builtin.lenOf,Builtin.firstCells]
  ·simp [Builtin.append_,run_underlying Tryz.underlying35,sizeOf,typeInfo,hi1,Builtin.lenOf,Builtin.firstCells,hn,storeCells]
 ·obtain⟨v',w',r1,r2,r3,_,r5⟩:=run_append_own_at (P:=Tryz.prog) w base 35 ty 51 ri (.agg #[.int .i64 0,.int .u32 0]) 2 16 Tryz.underlying35 hi1 hi2 hi3 hi4 rfl (by decide) v l.length (l.flatMap encR) hv ⟨g,0,none⟩ m.length cap (m.flatMap encR) (encR_len m)
   (fun j x hj=>by
    have hjl:j<m.length * 2:=by rw [← encR_len];exact (List.getElem?_eq_some_iff.1 hj).1
    obtain⟨r,hr⟩:∃ r,m[j / 2]?=some r:=⟨_,List.getElem?_eq_getElem (by omega)⟩
    obtain⟨a,b⟩:=hc _ r hr
    obtain⟨a',b'⟩:=encR_at hr
    have e0:(⟨g,0,none⟩:Addr).add j=⟨g,j,none⟩:=by unfold Addr.add;split <;> simp_all
    rw [e0,cell_block hg]
    by_cases e:j % 2=0
    ·have e2:j=j / 2 * 2:=by omega
     rw [e2] at hj ⊢
     rw [a];rw [a'] at hj;exact hj
    ·have e2:j=j / 2 * 2+1:=by omega
     rw [e2] at hj ⊢
     rw [b];rw [b'] at hj;exact hj)
   (fun u hu=>encR_one hu) (by simp [maxLen];omega) (by omega) hb
  refine⟨v',w',r1,?_,(qC r3).mono (fun k _ h=>h),r5⟩
  unfold Row
  rw [List.length_append,List.flatMap_append]
  exact r2
theorem wpList_append_refs {ops:Array Oper} {rest:List Oper} {o:Oper} {a:Act} {Q:Exit→Act→World→Prop} (w:World) (hgd:o.guard=none) (s x:Operand)
 (ho:o.op = .call { callee:=.builtin .append,args:=#[s,x],argTypes:=#[35,35] })
 (base:Nat) (v u:Value) (l m:List Rf) (hs:a.eval s=v) (hx:a.eval x=u) (hv:Row w base v l) (hu:Refs w u m) (h1:l.length+m.length≤1000000) (hb:base≤w.heap.size)
 (h:∀ v' w',Row w' base v' (l ++ m)→zA (fun k=>v.ownBlock=some k) w w'→(v'.ownBlock=v.ownBlock∨v'.ownBlock=some w.heap.size)→wpList Tryz.prog ops Q rest (a.put o.dst v') w'):
 wpList Tryz.prog ops Q (o :: rest) a w:=by
 refine wpList_plain hgd fun K hK=>?_
 obtain⟨v',w',hr,h2,h3,h4⟩:=run_append_refs o.type base v u l m w hv hu h1 hb
 unfold Oper.wp execOp
 simp only [ho,resolve,invoke,builtin,Sem.run_bind,Sem.run_pure,Result.andThen_ok,List.map_toArray,List.map_cons,List.map_nil,hs,hx,hr]
 exact hK _ _ (h v' w' h2 h3 h4)
theorem refs_one {w:World} {b:Nat} {x:Rf} (h:w.heap[b]?=some (.cells #[.int .i64 x.s,.int .u32 x.g] 51)):Refs w (.slice (some ⟨b,0,none⟩) 1 1) [x]:=
 .inr ⟨b,1,_,rfl,h,fun j r hj=>by
  match j,hj with
  | 0,hj=>obtain rfl:x=r:=Option.some.inj hj;exact⟨rfl,rfl⟩⟩
theorem Trio.farN {w0 w W w':World} {a m b:Nat} {LA:ArL} {LM:MkL} {s t:Sys} {S T:Sw} (h:Trio w0 w a m b LA LM s S) (hW:Trio w0 W a m b LA LM t T) (h3:t.A.many=s.A.many) (h4:t.M.K.many=s.M.K.many) (hk:zA (fun y=>w.heap.size≤y) W w'):Trio w0 w' a m b LA LM t T:=
 ⟨Both.far h.both hW.both h3 h4 hk,hW.sw.keeps hk (by have:=zF h.sw.own;omega),h.hb⟩
end Go.Proofs.YtjfmagccmjdhoaaGreat
namespace Go.Proofs.YtjfmagccmjdhoaaGreat
open Go.RowKit
theorem free_st {s:Sys} (h:s.Ok) {i:Nat} (hi:i<s.A.H.T.n) (hs:s.A.H.T.st i=1) (hc:s.M.P.c i=0):(s.free i).M=s.M∧(s.free i).A.H.T.st i≠1∧∀ j,j≠i→(s.free i).A.H.T.st j=s.A.H.T.st j:=by
 refine⟨?_,?_,?_⟩
 ·have hp:s.M.P.put i 0=s.M.P:=by
   unfold Pt.put
   have:zU s.M.P.c i 0=s.M.P.c:=by
    funext j
    by_cases ej:j=i
    ·subst ej;rw [zR,hc]
    ·rw [zS _ _ ej]
   rw [this]
  rw [Sys.free_M (s:=s) (by rw [← h.n];exact hi),hp]
 ·have e:(s.free i).A.H.T=s.A.H.T.give i:=by
   show (s.A.H.freeR ⟨i,s.A.H.T.gn i⟩).1.T=_
   unfold Hp.freeR
   rw [if_neg (by rw [Decidable.not_not];exact ckV_tk hi hs)]
   show s.A.H.T.give (Int.toNat (i:Int))=_
   rw [Int.toNat_natCast]
  rw [e]
  unfold Tb.give Tb.put
  split <;> simp [upd]
 ·intro j hj
  have e:(s.free i).A.H.T=s.A.H.T.give i:=by
   show (s.A.H.freeR ⟨i,s.A.H.T.gn i⟩).1.T=_
   unfold Hp.freeR
   rw [if_neg (by rw [Decidable.not_not];exact ckV_tk hi hs)]
   show s.A.H.T.give (Int.toNat (i:Int))=_
   rw [Int.toNat_natCast]
  rw [e]
  unfold Tb.give Tb.put
  split <;> simp [upd,hj]
structure TrioIn (w0 w:World) (N Z a m b:Nat) (LA:ArL) (LM:MkL) (s:Sys) (S:Sw):Prop where
 tr:Trio w0 w a m b LA LM s S
 la:LA.Btw a s.A.many N Z
 lm:LM.Btw m s.M.K.many N Z
 b1:N≤b
 b2:b<Z
theorem Trio.within {w0 w:World} {a m b:Nat} {LA:ArL} {LM:MkL} {s:Sys} {S:Sw} (h:Trio w0 w a m b LA LM s S):TrioIn w0 w w0.heap.size w.heap.size a m b LA LM s S:=by
 have h2:=h
 obtain⟨⟨ha,hm,hkp,l1,h1,l2,h2,g1,g2,_,ba,bm⟩,hs,hb⟩:=h2
 have ha2:=ha.btw;have hm2:=hm.btw
 have hbl:=zF hs.own
 refine⟨h,⟨?_,?_,?_,?_,?_,fun k hk=>?_⟩,⟨?_,?_,?_,?_,?_,fun k hk=>?_⟩,hb,hbl⟩
 ·exact⟨Nat.le_trans g1 ba.a.1,ha2.a.2⟩
 ·exact⟨Nat.le_trans g1 ba.o.1,ha2.o.2⟩
 ·exact⟨Nat.le_trans g1 ba.b.1,ha2.b.2⟩
 ·exact⟨Nat.le_trans g1 ba.t.1,ha2.t.2⟩
 ·exact⟨Nat.le_trans g1 ba.g.1,ha2.g.2⟩
 ·exact⟨Nat.le_trans g1 (ba.ss k hk).1,(ha2.ss k hk).2⟩
 ·exact⟨Nat.le_trans g2 bm.m.1,hm2.m.2⟩
 ·exact⟨Nat.le_trans g2 bm.c.1,hm2.c.2⟩
 ·exact⟨Nat.le_trans g2 bm.p.1,hm2.p.2⟩
 ·exact⟨Nat.le_trans g2 bm.s.1,hm2.s.2⟩
 ·exact⟨Nat.le_trans g2 bm.rb.1,hm2.rb.2⟩
 ·exact⟨Nat.le_trans g2 (bm.bb k hk).1,(hm2.bb k hk).2⟩
inductive Mo where
 | make (k:Nat) (n:Int) (h:Bool)
 | load (k:Nat) (i f:Int)
 | store (k:Nat) (i f j:Int)
 | drop (k:Nat) (i:Int)
 | put (k:Nat) (i g:Int)
 | get (k:Nat) (g:Int)
def Mo.who:Mo→Nat
 | .make k _ _=>k
 | .load k _ _=>k
 | .store k _ _ _=>k
 | .drop k _=>k
 | .put k _ _=>k
 | .get k _=>k
def Mo.doR (x:Mo) (s:Sys):Sys:=
 match x with
 | .make k n h=>⟨(s.A.makeR k n h).A,if (s.A.makeR k n h).e=0 then (s.M.madeR (s.A.makeR k n h).now).1 else s.M⟩
 | .load k i f=>⟨(s.A.loadR k i f).A,s.M⟩
 | .store k i f j=>Sys.told (s.A.storeR k i f j) s k
 | .drop k i=>⟨(s.A.dropR k i).A,s.M⟩
 | .put k i g=>Sys.told (s.A.putR k i g) s k
 | .get k g=>⟨(s.A.getR k g).A,s.M⟩
theorem Mo.next (x:Mo) {s:Sys} (h:s.Ok):Sys.Next s (x.doR s):=by
 cases x with
 | make k n hd=>
  unfold Mo.doR
  dsimp only
  split
  ·obtain⟨g1,b1⟩:=gs_made h.g (s.A.makeR k n hd).now
   obtain⟨k1,k2⟩:=s.M.madeR_K (s.A.makeR k n hd).now
   have hn:=s.A.makeR_n k n hd
   exact⟨⟨h.a.makeR _ _ _,h.m.madeR _,(hn.1.trans h.n).trans k2.symm,(hn.2.trans h.k).trans (congrArg Ck.many k1).symm,g1⟩,k1,k2,b1⟩
  ·exact h.arena (h.a.makeR _ _ _) (s.A.makeR_n _ _ _)
 | load k i f=>exact h.arena (h.a.loadR _ _ _) (s.A.loadR_n _ _ _)
 | store k i f j=>exact h.told (h.a.storeR _ _ _ _) (s.A.storeR_n _ _ _ _) _
 | drop k i=>exact h.arena (h.a.dropR _ _) (s.A.dropR_n _ _)
 | put k i g=>exact h.told (h.a.putR _ _ _) (s.A.putR_n _ _ _) _
 | get k g=>exact h.arena (h.a.getR _ _) (s.A.getR_n _ _)
theorem Mo.did (x:Mo) {s:Sys} (hok:s.Ok) (h:Safe s) (hk:x.who<s.A.many):∃ N,Did s (x.doR s) N:=by
 cases x with
 | make k n hd=>obtain⟨N,h1,_⟩:=did_makeR hok h (k:=k) hk n hd;exact⟨N,h1⟩
 | load k i f=>exact⟨_,did_loadR hok h _ _ _⟩
 | store k i f j=>exact⟨_,(did_storeR hok h (k:=k) hk _ _ _).1⟩
 | drop k i=>exact⟨_,did_drop h _ _⟩
 | put k i g=>exact⟨_,(did_putR hok h (k:=k) hk _ _).1⟩
 | get k g=>exact⟨_,did_getR h _ _⟩
theorem Mo.safe (x:Mo) {s:Sys} (hok:s.Ok) (h:Safe s) (hk:x.who<s.A.many):Safe (x.doR s):=by
 obtain⟨N,hd⟩:=x.did hok h hk
 exact hd.safe h
theorem Mo.many (x:Mo) {s:Sys} (h:s.Ok):(x.doR s).A.many=s.A.many:=by
 have:=x.next h
 rw [this.ok.k,this.K,h.k]
structure Cyc where
 S:Sw
 at':Nat
 begun:Nat
 asked:Bool
structure Col where
 s:Sys
 C:Cyc
structure CyRes where
 c:Col
 r:Rf
 is:Bool
def Col.begin (c:Col):Col:=⟨c.s.begun,{ c.C with asked:=false,begun:=c.C.begun+1 }⟩
def Sys.lostAt (s:Sys) (i:Nat):Rf × Bool:=
 if s.M.P.c i≠0∨s.A.H.T.st i≠1 then (.no,false) else (⟨i,s.A.H.T.gn i⟩,(s.A.H.ob i).h)
def Col.discover (c:Col):Col:=
 if c.C.at'+1=c.s.M.P.n then ⟨⟨c.s.A,c.s.M.goR.1⟩,{ c.C with at':=c.C.at'+1,S:=⟨c.C.S.size,0,0⟩ }⟩
 else ⟨c.s,{ c.C with at':=c.C.at'+1 }⟩
def Col.sweep (c:Col):Col:=
 if (c.C.S.stepR c.s).S.next=(c.C.S.stepR c.s).S.size then ⟨⟨(c.C.S.stepR c.s).s.A,(c.C.S.stepR c.s).s.M.goR.1⟩,{ c.C with S:=(c.C.S.stepR c.s).S }⟩
 else ⟨(c.C.S.stepR c.s).s,{ c.C with S:=(c.C.S.stepR c.s).S }⟩
def Col.mark (c:Col):Col:=⟨c.s.step,if c.s.step.M.K.ph=4 then { c.C with at':=0 } else c.C⟩
def Col.stepR (c:Col) (room:Bool):CyRes:=
 if c.s.M.K.ph=0 then ⟨if c.C.asked=true then c.begin else c,.no,false⟩
 else if c.s.M.K.ph=4 then
  if (c.s.lostAt c.C.at').2=true then (if room=true then ⟨c.discover,(c.s.lostAt c.C.at').1,true⟩ else ⟨c,.no,false⟩) else ⟨c.discover,.no,false⟩
 else if c.s.M.K.ph=5 then ⟨c.sweep,.no,false⟩
 else ⟨c.mark,.no,false⟩
def Col.askR (c:Col):Col × Bool:=if c.s.M.K.ph=0 then (c.begin,true) else (⟨c.s,{ c.C with asked:=true }⟩,false)
structure Col.Ok (c:Col):Prop where
 s:c.s.Ok
 safe:Safe c.s
 sz:c.C.S.size=c.s.M.P.n
 a4:c.s.M.K.ph=4→c.C.at'<c.s.M.P.n
 a5:c.s.M.K.ph=5→c.C.S.next<c.s.M.P.n
 sn:∀ i,c.s.M.K.seen i=true→i<c.s.M.K.many
 bg:c.C.begun=c.s.M.K.cy+if c.s.M.K.ph=0 then 0 else 1
def Col.Like (c d:Col):Prop:=d.s.M.K.many=c.s.M.K.many∧d.s.M.P.n=c.s.M.P.n∧d.s.A.many=c.s.A.many
theorem stepR_K {M:Mk} (hok:M.Ok) (hg:Gs M.P M.S) (A:Ar) (hp:M.K.ph=1∨M.K.ph=2∨M.K.ph=3):(M.stepR A).K=M.K∨(M.stepR A).K=M.K.go:=by
 unfold Mk.stepR
 split
 ·split
  ·exact .inr rfl
  ·exact .inl rfl
 split
 ·split
  ·exact .inr rfl
  ·exact .inl rfl
 split
 ·obtain⟨_,_,g3⟩:=gs_trace (H:=A.H) hok hg
  rcases g3 with⟨h,_⟩ | ⟨h,_⟩
  ·exact .inr h
  ·exact .inl h
 ·exact .inl rfl
theorem goR_4 {M:Mk} (h:M.K.ph=4):M.goR.1={ M with K:=M.K.go }:=by
 unfold Mk.goR;rw [if_neg (by omega),if_pos h]
theorem goR_5 {M:Mk} (h:M.K.ph=5):M.goR.1=M.endedR:=by
 unfold Mk.goR;rw [if_neg (by omega),if_neg (by omega)]
theorem Sys.Ok.go4 {s:Sys} (h:s.Ok) (hp:s.M.K.ph=4):(Sys.mk s.A s.M.goR.1).Ok:=by
 rw [goR_4 hp]
 exact⟨h.a,h.m.go,h.n,h.k,h.g⟩
theorem Sys.Ok.go5 {s:Sys} (h:s.Ok) (hp:s.M.K.ph=5):(Sys.mk s.A s.M.goR.1).Ok:=by
 have hm:=h.m.goR
 rw [goR_5 hp] at hm ⊢
 exact⟨h.a,hm,h.n,h.k,⟨fun j hj=>by exact absurd hj (Nat.not_lt_zero _),fun j k hj=>by exact absurd hj (Nat.not_lt_zero _)⟩⟩
theorem Sys.Ok.begun {s:Sys} (h:s.Ok):s.begun.Ok:=by
 unfold Sys.begun Mk.beginR
 split
 ·exact⟨h.a,h.m.withK rfl (by show 1≤5;decide),h.n,h.k,h.g⟩
 ·exact h
theorem safe_freeS {s:Sys} (hok:s.Ok) (h:Safe s) (hp:4≤s.M.K.ph) {i:Nat} (hin:i<s.A.H.T.n) (w1:s.A.H.T.st i=1) (w2:s.M.P.c i=0):Safe (s.free i)∧∀ r,Rch (s.free i).A r→Rch s.A r:=by
 have hck:qH s.A.H.T (i:Int) (s.A.H.T.gn i)=0:=ckV_tk hin w1
 have hfr:(s.free i).A.H=s.A.H.free i:=by
  show (s.A.H.freeR ⟨i,s.A.H.T.gn i⟩).1=_
  unfold Hp.freeR
  rw [if_neg (by show ¬ qH s.A.H.T (i:Int) (s.A.H.T.gn i)≠0;rw [hck];exact fun h=>h rfl)]
  show s.A.H.free (i:Int).toNat=_
  rw [Int.toNat_natCast]
 have hst:∀ j,(s.free i).A.H.T.st j=if j=i then (if s.A.H.T.gn i<4294967295 then 0 else 2) else s.A.H.T.st j:=fun j=>by
  rw [hfr];show (s.A.H.T.give i).st j=_
  unfold Tb.give
  split <;> rfl
 have hgn:∀ j,(s.free i).A.H.T.gn j=if j=i then (if s.A.H.T.gn i<4294967295 then s.A.H.T.gn i+1 else s.A.H.T.gn i) else s.A.H.T.gn j:=fun j=>by
  rw [hfr];show (s.A.H.T.give i).gn j=_
  unfold Tb.give
  split <;> rfl
 have hMe:=(free_st hok hin w1 w2).1
 have hsf:=safe_free (A':=(s.free i).A) h hp w2 (Ar.freeR_n _ _).2 rfl rfl (fun j hj=>by rw [hfr];exact zS _ _ hj) (by rw [hfr];exact Tb.give_n _ _) (fun j hj=>by rw [hst,if_neg hj]) (fun j hj=>by rw [hgn,if_neg hj]) (by rw [hst,if_pos rfl];split <;> decide)
 have e2:s.free i=⟨(s.free i).A,s.M⟩:=by
  conv=>lhs;rw [show s.free i=⟨(s.free i).A,(s.free i).M⟩ from rfl,hMe]
 exact⟨by rw [e2];exact hsf.1,hsf.2⟩
theorem Sw.step_safe {S:Sw} {s:Sys} (hok:s.Ok) (h:Safe s) (hp:4≤s.M.K.ph) (hn:S.next<s.M.P.n):Safe (S.stepR s).s∧(S.stepR s).s.M=s.M∧(S.stepR s).s.A.many=s.A.many:=by
 unfold Sw.stepR
 split
 ·exact⟨h,rfl,rfl⟩
 ·rename_i hc
  have h0:s.M.P.c S.next=0:=Decidable.not_not.1 (fun hx=>hc (.inl hx))
  have h1:s.A.H.T.st S.next=1:=Decidable.not_not.1 (fun hx=>hc (.inr hx))
  have hin:S.next<s.A.H.T.n:=by rw [hok.n];exact hn
  exact⟨(safe_freeS hok h hp hin h1 h0).1,(free_st hok hin h1 h0).1,(Ar.freeR_n _ _).2⟩
theorem Col.begin_ok {c:Col} (h:c.Ok) (hp:c.s.M.K.ph=0):c.begin.Ok∧c.Like c.begin∧c.begin.s.M.K.ph=1:=by
 have e:c.s.M.beginR.1={ c.s.M with K:=c.s.M.K.to 1 }:=by unfold Mk.beginR;rw [if_pos hp]
 have hK:c.begin.s.M.K=c.s.M.K.to 1:=by show c.s.M.beginR.1.K=_;rw [e]
 have hph:c.begin.s.M.K.ph=1:=by rw [hK];rfl
 have hP:c.begin.s.M.P=c.s.M.P:=by show c.s.M.beginR.1.P=_;rw [e]
 refine⟨⟨h.s.begun,safe_begin h.safe,?_,fun h4=>by omega,fun h5=>by omega,fun i hi=>?_,?_⟩,⟨by rw [hK];rfl,by rw [hP],rfl⟩,hph⟩
 ·rw [hP];exact h.sz
 ·rw [hK] at hi;cases hi
 ·rw [if_neg (by omega),hK]
  have:=h.bg
  rw [if_pos hp] at this
  show c.C.begun+1=c.s.M.K.cy+1
  omega
theorem Col.mark_ok {c:Col} (h:c.Ok) (hp:c.s.M.K.ph=1∨c.s.M.K.ph=2∨c.s.M.K.ph=3):c.mark.Ok∧c.Like c.mark∧(c.mark.s.M.K.ph=c.s.M.K.ph∨c.mark.s.M.K.ph=c.s.M.K.ph+1)∧c.mark.C.S=c.C.S∧c.mark.C.begun=c.C.begun∧c.mark.C.asked=c.C.asked∧c.mark.s.M.K.cy=c.s.M.K.cy∧(c.mark.s.M.K.ph=4→c.mark.C.at'=0):=by
 obtain⟨o1,o2,o3⟩:=Sys.step_next h.s
 have hK:=stepR_K h.s.m h.s.g c.s.A hp
 have hcy:c.s.step.M.K.cy=c.s.M.K.cy:=Mk.stepR_cy c.s.M c.s.A (by omega)
 have hph:c.s.step.M.K.ph=c.s.M.K.ph∨c.s.step.M.K.ph=c.s.M.K.ph+1:=by
  show (c.s.M.stepR c.s.A).K.ph=c.s.M.K.ph∨(c.s.M.stepR c.s.A).K.ph=c.s.M.K.ph+1
  rcases hK with e | e <;> rw [e]
  ·exact .inl rfl
  ·right;show (c.s.M.K.ph+1) % 6=_;omega
 have hC:c.mark.C.S=c.C.S∧c.mark.C.begun=c.C.begun∧c.mark.C.asked=c.C.asked∧(c.s.step.M.K.ph=4→c.mark.C.at'=0):=by
  unfold Col.mark;dsimp only;split
  ·exact⟨rfl,rfl,rfl,fun _=>rfl⟩
  ·rename_i hn;exact⟨rfl,rfl,rfl,fun h=>absurd h hn⟩
 have o2':c.s.step.M.K.many=c.s.M.K.many:=o2
 have o3':c.s.step.M.P.n=c.s.M.P.n:=o3
 refine⟨⟨o1,safe_step h.s h.safe,?_,fun h4=>?_,fun h5=>?_,fun i hi=>?_,?_⟩,⟨o2,o3,rfl⟩,hph,hC.1,hC.2.1,hC.2.2.1,hcy,hC.2.2.2⟩
 ·rw [hC.1,h.sz];exact o3.symm
 ·rw [hC.2.2.2 h4]
  exact o1.m.n1
 ·have h5':c.s.step.M.K.ph=5:=h5
  omega
 ·have hi':(c.s.M.stepR c.s.A).K.seen i=true:=hi
  show i<c.s.step.M.K.many
  rw [o2']
  rcases hK with e | e
  ·rw [e] at hi';exact h.sn i hi'
  ·rw [e] at hi';cases hi'
 ·rw [hC.2.1,h.bg]
  have e1:c.mark.s.M.K.cy=c.s.M.K.cy:=hcy
  have e2:c.mark.s.M.K.ph=c.s.M.K.ph∨c.mark.s.M.K.ph=c.s.M.K.ph+1:=hph
  rw [e1,if_neg (by omega),if_neg (by omega)]
theorem Col.discover_ok {c:Col} (h:c.Ok) (hp:c.s.M.K.ph=4):c.discover.Ok∧c.Like c.discover∧c.discover.C.begun=c.C.begun∧c.discover.C.asked=c.C.asked∧c.discover.s.A=c.s.A∧c.discover.s.M.P=c.s.M.P∧c.discover.s.M.K.cy=c.s.M.K.cy
 ∧((c.C.at'+1=c.s.M.P.n∧c.discover.s.M.K.ph=5∧c.discover.C.S=⟨c.C.S.size,0,0⟩)∨(c.C.at'+1<c.s.M.P.n∧c.discover.s.M.K.ph=4∧c.discover.C.at'=c.C.at'+1)):=by
 have h4:=h.a4 hp
 unfold Col.discover
 by_cases e:c.C.at'+1=c.s.M.P.n
 ·rw [if_pos e]
  have hg:=goR_4 hp
  have hok:=h.s.go4 hp
  have hsf:=safe_go h.s h.safe
  have hph:c.s.M.goR.1.K.ph=5:=by rw [hg];show (c.s.M.K.ph+1) % 6=5;omega
  have hcy:c.s.M.goR.1.K.cy=c.s.M.K.cy:=by rw [hg];show (if c.s.M.K.ph=5 then _ else _)=_;rw [if_neg (by omega)]
  have hmy:c.s.M.goR.1.K.many=c.s.M.K.many:=by rw [hg];rfl
  have hP:c.s.M.goR.1.P=c.s.M.P:=by rw [hg]
  have hse:∀ i,c.s.M.goR.1.K.seen i=false:=fun i=>by rw [hg];rfl
  have n1:=h.s.m.n1
  refine⟨⟨hok,hsf,?_,fun hx=>?_,fun _=>?_,fun i hi=>?_,?_⟩,⟨hmy,by dsimp only;rw [hP],rfl⟩,rfl,rfl,rfl,hP,hcy,.inl ⟨e,hph,rfl⟩⟩
  ·dsimp only;rw [hP];exact h.sz
  ·dsimp only at hx;omega
  ·dsimp only;rw [hP];omega
  ·dsimp only at hi;rw [hse] at hi;cases hi
  ·dsimp only
   have:=h.bg
   rw [if_neg (by omega)] at this ⊢
   rw [hcy];exact this
 ·rw [if_neg e]
  refine⟨⟨h.s,h.safe,h.sz,fun _=>by dsimp only;omega,h.a5,h.sn,h.bg⟩,⟨rfl,rfl,rfl⟩,rfl,rfl,rfl,rfl,rfl,.inr ⟨by omega,hp,rfl⟩⟩
theorem Col.sweep_ok {c:Col} (h:c.Ok) (hp:c.s.M.K.ph=5):c.sweep.Ok∧c.Like c.sweep∧c.sweep.C.begun=c.C.begun∧c.sweep.C.asked=c.C.asked∧c.sweep.s.A=(c.C.S.stepR c.s).s.A
 ∧((c.C.S.next+1=c.s.M.P.n∧c.sweep.s.M.K.ph=0∧c.sweep.s.M.K.cy=c.s.M.K.cy+1)∨(c.C.S.next+1<c.s.M.P.n∧c.sweep.s.M.K.ph=5∧c.sweep.C.S.next=c.C.S.next+1∧c.sweep.s.M.K.cy=c.s.M.K.cy∧c.sweep.s.M.P=c.s.M.P)):=by
 have h5:=h.a5 hp
 obtain⟨s1,s2,s3,s4,s5⟩:=Sw.step_all h.s h5
 obtain⟨t1,t2,t3⟩:=Sw.step_safe h.s h.safe (by omega) h5
 unfold Col.sweep
 obtain⟨R,hR⟩:∃ R,c.C.S.stepR c.s=R:=⟨_,rfl⟩
 rw [hR] at s1 s2 s3 s4 s5 t1 t2 t3 ⊢
 have hpR:R.s.M.K.ph=5:=by rw [s2];exact hp
 by_cases e:R.S.next=R.S.size
 ·rw [if_pos e]
  have hg:=goR_5 hpR
  have hok:=s1.go5 hpR
  have hsf:=safe_go s1 t1
  have hK:R.s.M.goR.1.K=R.s.M.K.go:=by rw [hg];rfl
  have hph:R.s.M.goR.1.K.ph=0:=by rw [hK];show (R.s.M.K.ph+1) % 6=0;omega
  have hcy:R.s.M.goR.1.K.cy=c.s.M.K.cy+1:=by rw [hK];show (if R.s.M.K.ph=5 then R.s.M.K.cy+1 else _)=_;rw [if_pos hpR,s2]
  have hn:R.s.M.goR.1.P.n=c.s.M.P.n:=by rw [hg];exact s3
  have hse:∀ i,R.s.M.goR.1.K.seen i=false:=fun i=>by rw [hK];rfl
  have hmy:R.s.M.goR.1.K.many=c.s.M.K.many:=by rw [hK];show R.s.M.K.many=_;rw [s2]
  refine⟨⟨hok,hsf,?_,fun hx=>?_,fun hx=>?_,fun i hi=>?_,?_⟩,⟨hmy,hn,t3⟩,rfl,rfl,rfl,.inl ⟨?_,hph,hcy⟩⟩
  ·dsimp only;rw [hn,s4];exact h.sz
  ·dsimp only at hx;omega
  ·dsimp only at hx;omega
  ·dsimp only at hi;rw [hse] at hi;cases hi
  ·dsimp only
   have:=h.bg
   rw [if_neg (by omega)] at this
   rw [if_pos hph,hcy,this]
  ·have:=h.sz;omega
 ·rw [if_neg e]
  have hlt:c.C.S.next+1<c.s.M.P.n:=by have:=h.sz;omega
  refine⟨⟨s1,t1,?_,fun hx=>?_,fun _=>?_,fun i hi=>?_,?_⟩,⟨by dsimp only;rw [s2],s3,t3⟩,rfl,rfl,rfl,.inr ⟨hlt,hpR,s5,by dsimp only;rw [s2],by dsimp only;rw [t2]⟩⟩
  ·dsimp only;rw [s3,s4];exact h.sz
  ·dsimp only at hx;omega
  ·dsimp only;omega
  ·dsimp only at hi ⊢;rw [s2] at hi ⊢;exact h.sn i hi
  ·dsimp only;rw [s2];exact h.bg
theorem Col.Like.refl (c:Col):c.Like c:=⟨rfl,rfl,rfl⟩
theorem Col.Like.trans {c d e:Col} (h:c.Like d) (k:d.Like e):c.Like e:=⟨k.1.trans h.1,k.2.1.trans h.2.1,k.2.2.trans h.2.2⟩
theorem Col.step_ok {c:Col} (h:c.Ok) (room:Bool):(c.stepR room).c.Ok∧c.Like (c.stepR room).c:=by
 have hp:=h.s.m.ph
 unfold Col.stepR
 split
 ·rename_i h0
  dsimp only
  split
  ·exact⟨(Col.begin_ok h h0).1,(Col.begin_ok h h0).2.1⟩
  ·exact⟨h,Col.Like.refl c⟩
 split
 ·rename_i h4
  have:=Col.discover_ok h h4
  split
  ·split
   ·exact⟨this.1,this.2.1⟩
   ·exact⟨h,Col.Like.refl c⟩
  ·exact⟨this.1,this.2.1⟩
 split
 ·rename_i h5
  have:=Col.sweep_ok h h5
  exact⟨this.1,this.2.1⟩
 ·have:=Col.mark_ok h (by omega)
  exact⟨this.1,this.2.1⟩
theorem Col.ask_ok {c:Col} (h:c.Ok):c.askR.1.Ok∧c.Like c.askR.1:=by
 unfold Col.askR
 split
 ·rename_i h0;exact⟨(Col.begin_ok h h0).1,(Col.begin_ok h h0).2.1⟩
 ·exact⟨⟨h.s,h.safe,h.sz,h.a4,h.a5,h.sn,h.bg⟩,⟨rfl,rfl,rfl⟩⟩
theorem Col.mo_ok {c:Col} (h:c.Ok) (x:Mo) (hk:x.who<c.s.A.many):(Col.mk (x.doR c.s) c.C).Ok∧c.Like ⟨x.doR c.s,c.C⟩:=by
 have hn:=x.next h.s
 refine⟨⟨hn.ok,x.safe h.s h.safe hk,?_,?_,?_,?_,?_⟩,⟨?_,hn.n,x.many h.s⟩⟩
 ·dsimp only;rw [hn.n];exact h.sz
 ·dsimp only;rw [hn.n,hn.K];exact h.a4
 ·dsimp only;rw [hn.n,hn.K];exact h.a5
 ·dsimp only;rw [hn.K];exact h.sn
 ·dsimp only;rw [hn.K];exact h.bg
 ·dsimp only;rw [hn.K]
theorem ackR_sn {M:Mk} (A:Ar) (i:Int) (h:∀ j,M.K.seen j=true→j<M.K.many):∀ j,(M.ackR A i).M.K.seen j=true→j<(M.ackR A i).M.K.many:=by
 unfold Mk.ackR
 split
 ·exact h
 rename_i hi
 split
 ·exact h
 have key:∀ j,(M.K.ack i.toNat).seen j=true→j<(M.K.ack i.toNat).many:=by
  intro j hj
  show j<M.K.many
  by_cases e:j=i.toNat
  ·omega
  ·exact h j (by rwa [show (M.K.ack i.toNat).seen j=M.K.seen j from zS _ _ e] at hj)
 split
 ·exact key
 ·exact key
theorem Col.ack_ok {c:Col} (h:c.Ok) (i:Int):(Col.mk ⟨c.s.A,(c.s.M.ackR c.s.A i).M⟩ c.C).Ok∧c.Like ⟨⟨c.s.A,(c.s.M.ackR c.s.A i).M⟩,c.C⟩:=by
 obtain⟨a1,a2,a3,a4,a5,a6⟩:=Sys.ack_next h.s i
 refine⟨⟨a1,safe_ack h.safe i,?_,?_,?_,ackR_sn _ _ h.sn,?_⟩,⟨a4,a5,rfl⟩⟩
 ·dsimp only;rw [a5];exact h.sz
 ·dsimp only;rw [a2,a5];exact h.a4
 ·dsimp only;rw [a2,a5];exact h.a5
 ·dsimp only;rw [a2,a3];exact h.bg
theorem lostAt_none {s:Sys} {i:Nat} (h:s.M.P.c i≠0∨s.A.H.T.st i≠1):s.lostAt i=(.no,false):=by unfold Sys.lostAt;rw [if_pos h]
theorem lostAt_some {s:Sys} {i:Nat} (h1:s.M.P.c i=0) (h2:s.A.H.T.st i=1):s.lostAt i=(⟨i,s.A.H.T.gn i⟩,(s.A.H.ob i).h):=by unfold Sys.lostAt;rw [if_neg (by rintro (h | h);exact h h1;exact h h2)]
def cyArr (m b n many:Nat) (C:Cyc):Array Value:=#[.pointer (some ⟨m,0,none⟩),.pointer (some ⟨b,0,none⟩),.int .i64 n,.int .i64 many,.int .i64 C.at',.int .i64 C.begun,.bool C.asked]
structure Quad (w0 w:World) (a m b c:Nat) (LA:ArL) (LM:MkL) (k:Col):Prop where
 tr:Trio w0 w a m b LA LM k.s k.C.S
 own:w.heap[c]?=some (.cells (cyArr m b k.s.M.P.n k.s.M.K.many k.C) 70)
 hc:w0.heap.size≤c
def zV (LA:ArL) (LM:MkL) (b c:Nat) (s:Sys) (y:Nat):Prop:=y=c∨y=b∨foot2 LA LM s y
theorem Both.not_foot {w0 w:World} {a m:Nat} {LA:ArL} {LM:MkL} {s:Sys} (h:Both w0 w a m LA LM s) {x:Nat} {cs:Array Value} {t:TypeId} (hx:w.heap[x]?=some (.cells cs t)) (h1:182≠t) (h2:268≠t) (h3:201≠t) (h4:204≠t)
 (h5:224≠t) (h6:227≠t) (h7:232≠t) (h8:234≠t):¬ foot2 LA LM s x:=by
 obtain⟨ha,hm,_,_⟩:=h
 obtain⟨_,_,hhp,⟨cg,hcg,_⟩,hst,_⟩:=ha
 obtain⟨⟨cy,hcy,_⟩,⟨cz,hcz,_⟩,_,_⟩:=hhp
 obtain⟨_,_,ek,⟨ep,hep,_⟩,⟨es,hes,_⟩,eb,_⟩:=hm
 rintro (h | h)
 ·rcases h with h | h | h | ⟨k,hk,h⟩
  ·exact zM hcy hx h1 h.symm
  ·exact zM hcz hx h2 h.symm
  ·exact zM hcg hx h3 h.symm
  ·obtain⟨c,hc,_⟩:=hst k hk;exact zM hc hx h4 h.symm
 ·rcases h with h | h | h | ⟨k,hk,h⟩
  ·exact zM ek.own hx h5 h.symm
  ·exact zM hep hx h6 h.symm
  ·exact zM hes hx h7 h.symm
  ·obtain⟨c,hc,_⟩:=eb k hk;exact zM hc hx h8 h.symm
theorem Both.oth {w0 w w':World} {a m:Nat} {LA:ArL} {LM:MkL} {s:Sys} (h:Both w0 w a m LA LM s) {x:Nat} {cs:Array Value} {t:TypeId} (hx:w.heap[x]?=some (.cells cs t)) (hk:zA (fun y=>y=x) w w') (hb:w0.heap.size≤x)
 (h1:182≠t) (h2:268≠t) (h3:201≠t) (h4:204≠t)
 (h5:224≠t) (h6:227≠t) (h7:232≠t) (h8:234≠t) (h9:104≠t) (h10:106≠t) (h11:136≠t) (h12:140≠t):Both w0 w' a m LA LM s:=by
 obtain⟨ha,hm,hkp,hsep⟩:=h
 obtain⟨⟨cx,hcx,_⟩,hox,hhp,⟨cg,hcg,_⟩,hst,_⟩:=id ha
 obtain⟨⟨cy,hcy,_⟩,⟨cz,hcz,_⟩,_,_⟩:=hhp
 obtain⟨ex,⟨er,her,_⟩,ek,⟨ep,hep,_⟩,⟨es,hes,_⟩,eb,_⟩:=id hm
 refine⟨ha.keeps hk (zM hcx hx h9) (zM hox hx h10) (zM hcy hx h1) (zM hcz hx h2) (zM hcg hx h3) (fun k hk=>?_),hm.keeps hk (zM ex hx h11) (zM ek.own hx h5) (zM hep hx h6) (zM hes hx h7) (zM her hx h12) (fun k hk=>?_),hkp.trans' hk (fun _ _ h=>h) (fun y hy h=>by omega),hsep⟩
 ·obtain⟨c,hc,_⟩:=hst k hk;exact zM hc hx h4
 ·obtain⟨c,hc,_⟩:=eb k hk;exact zM hc hx h8
section
variable {w0 w w':World} {a m b c:Nat} {LA:ArL} {LM:MkL} {k:Col}
theorem Quad.same (h:Quad w0 w a m b c LA LM k) (hk:Kz w w'):Quad w0 w' a m b c LA LM k:=
 ⟨h.tr.same hk,zB h.own hk (fun h=>h),h.hc⟩
theorem Quad.cfoot (h:Quad w0 w a m b c LA LM k):¬ (c=b∨foot2 LA LM k.s c):=by
 rintro (e | e)
 ·exact zM h.own h.tr.sw.own (by decide) e
 ·exact h.tr.both.not_foot h.own (by decide) (by decide) (by decide) (by decide) (by decide) (by decide) (by decide) (by decide) e
theorem Quad.trio {s':Sys} {S':Sw} (h:Quad w0 w a m b c LA LM k) (hk:zA (fun y=>y=b∨foot2 LA LM k.s y) w w') (ht:Trio w0 w' a m b LA LM s' S') (hn:s'.M.P.n=k.s.M.P.n) (hm:s'.M.K.many=k.s.M.K.many):Quad w0 w' a m b c LA LM ⟨s',{ k.C with S:=S' }⟩:=
 ⟨ht,by have:=zB h.own hk h.cfoot;dsimp only;rw [hn,hm];exact this,h.hc⟩
theorem Quad.both {s':Sys} (h:Quad w0 w a m b c LA LM k) (hk:zA (foot2 LA LM k.s) w w') (hb:Both w0 w' a m LA LM s') (hn:s'.M.P.n=k.s.M.P.n) (hm:s'.M.K.many=k.s.M.K.many):Quad w0 w' a m b c LA LM ⟨s',k.C⟩:=
 h.trio (hk.mono (fun _ _ h=>.inr h)) ⟨hb,h.tr.sw.keeps hk (h.tr.sw.foot h.tr.both),h.tr.hb⟩ hn hm
theorem Quad.coll {C':Cyc} (h:Quad w0 w a m b c LA LM k) (hk:zA (fun y=>y=c) w w') (hS:C'.S=k.C.S) (ho:w'.heap[c]?=some (.cells (cyArr m b k.s.M.P.n k.s.M.K.many C') 70)):Quad w0 w' a m b c LA LM ⟨k.s,C'⟩:=by
 refine⟨⟨?_,?_,h.tr.hb⟩,ho,h.hc⟩
 ·exact h.tr.both.oth h.own hk h.hc (by decide) (by decide) (by decide) (by decide) (by decide) (by decide) (by decide) (by decide) (by decide) (by decide) (by decide) (by decide)
 ·dsimp only;rw [hS]
  exact h.tr.sw.keeps hk (fun e=>h.cfoot (.inl e.symm))
end
variable {w0 w w':World} {a m b c:Nat} {LA:ArL} {LM:MkL} {k:Col}
theorem Quad.footlt (h:Quad w0 w a m b c LA LM k):∀ y,zV LA LM b c k.s y→y<w.heap.size:=by
 rintro y (rfl | rfl | hy)
 ·exact zF h.own
 ·exact zF h.tr.sw.own
 ·exact Both.footlt h.tr.both y hy
theorem Quad.far {W W':World} {d:Col} (h:Quad w0 w a m b c LA LM k) (hW:Quad w0 W a m b c LA LM d) (hl:k.Like d) (hk:zA (fun y=>w.heap.size≤y) W W'):Quad w0 W' a m b c LA LM d:=
 ⟨h.tr.farN hW.tr hl.2.2 hl.1 hk,zB hW.own hk (by have:=zF h.own;omega),hW.hc⟩
theorem kfin {S:Nat→Prop} {w wA:World} {N:Nat} (hk:zA S w wA) (hN:w.heap.size≤N) (u v:Value):zA S w ((wA.setCell ⟨N,0,none⟩ u).setCell ⟨N,1,none⟩ v):=
 (hk.setCell (p:=⟨N,0,none⟩) (.inr hN) u).setCell (p:=⟨N,1,none⟩) (.inr hN) v
theorem kfin0 (wA:World) (N:Nat) (u v:Value):zA (fun y=>N≤y) wA ((wA.setCell ⟨N,0,none⟩ u).setCell ⟨N,1,none⟩ v):=
 ((zA.refl (fun y=>N≤y) wA).setCell (p:=⟨N,0,none⟩) (.inl (Nat.le_refl _)) u).setCell (p:=⟨N,1,none⟩) (.inl (Nat.le_refl _)) v
variable {w0 w w':World} {a m b c:Nat} {LA:ArL} {LM:MkL} {k:Col}
end Go.Proofs.YtjfmagccmjdhoaaGreat
