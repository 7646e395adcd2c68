import Derived.Test.YtjfmagccmjdhoaaGreatCyC
import Derived.Deep.RegionLaw
set_option maxHeartbeats 4000000
set_option maxRecDepth 100000
namespace Go.Proofs.YtjfmagccmjdhoaaGreat
open Go.RowKit
variable {L:Nat→Prop} {G:Nat→Int} {D:Nat→Bool}
variable {L:Nat→Prop} {G:Nat→Int} {D:Nat→Bool}
def CyRes.more (R:CyRes) (F:List Rf):List Rf:=if R.is=true then F ++ [R.r] else F
end Go.Proofs.YtjfmagccmjdhoaaGreat
namespace Go.Proofs.YtjfmagccmjdhoaaGreat
open Go.RowKit
structure Pair (w0 w:World) (p a m b c:Nat) (LA:ArL) (LM:MkL) (k:Col) (f:List Rf):Prop where
 q:Quad w0 w a m b c LA LM k
 ex:∃ v,w.heap[p]?=some (.cells #[.pointer (some ⟨a,0,none⟩),.pointer (some ⟨c,0,none⟩),v,.bool false] 37)∧Row w w0.heap.size v f
 hp:w0.heap.size≤p
variable {w0 w w':World} {p a m b c:Nat} {LA:ArL} {LM:MkL} {k:Col} {f:List Rf}
theorem Pair.kp (h:Pair w0 w p a m b c LA LM k f):Kz w0 w:=h.q.tr.kp
theorem Quad.rowfoot (h:Quad w0 w a m b c LA LM k) {x:Nat} {cs:Array Value} (hx:w.heap[x]?=some (.cells cs 51)):¬ zV LA LM b c k.s x:=by
 rintro (e | e)
 ·exact zM hx h.own (by decide) e
 ·exact h.tr.noref hx e
theorem Quad.pairfoot (h:Quad w0 w a m b c LA LM k) {x:Nat} {cs:Array Value} (hx:w.heap[x]?=some (.cells cs 37)):¬ zV LA LM b c k.s x:=by
 rintro (e | e | e)
 ·exact zM hx h.own (by decide) e
 ·exact zM hx h.tr.sw.own (by decide) e
 ·exact h.tr.both.not_foot hx (by decide) (by decide) (by decide) (by decide) (by decide) (by decide) (by decide) (by decide) e
theorem Quad.rowkeep (h:Quad w0 w a m b c LA LM k) {base:Nat} {v:Value} {l:List Rf} (hv:Row w base v l) (hk:zA (zV LA LM b c k.s) w w'):Row w' base v l:=by
 refine hv.keeps hk (fun y _ _ hy=>?_)
 rcases hv.2 with⟨rfl,_⟩ | ⟨g,cap,cur,rfl,_,hg,_⟩
 ·cases hy
 ·obtain rfl:g=y:=Option.some.inj hy
  exact h.rowfoot hg
theorem Pair.same (h:Pair w0 w p a m b c LA LM k f) (hk:Kz w w'):Pair w0 w' p a m b c LA LM k f:=by
 obtain⟨hq,⟨v,h1,h2⟩,hp⟩:=h
 exact⟨hq.same hk,⟨v,zB h1 hk (fun h=>h),h2.keeps hk (fun _ _ _ _ h=>h)⟩,hp⟩
theorem Pair.quad {d:Col} (h:Pair w0 w p a m b c LA LM k f) (hk:zA (zV LA LM b c k.s) w w') (hd:Quad w0 w' a m b c LA LM d):Pair w0 w' p a m b c LA LM d f:=by
 obtain⟨hq,⟨v,h1,h2⟩,hp⟩:=h
 exact⟨hd,⟨v,zB h1 hk (hq.pairfoot h1),hq.rowkeep h2 hk⟩,hp⟩
theorem lostAt_nz {k:Col} (hok:k.Ok) {i:Nat} (hi:i<k.s.M.P.n) (h:(k.s.lostAt i).2=true):(k.s.lostAt i).1.nz=true:=by
 unfold Sys.lostAt at h ⊢
 split
 ·rename_i hx;rw [if_pos hx] at h;cases h
 ·have:=(hok.s.a.tb i (by rw [hok.s.n];exact hi)).1
  simp only [Rf.nz,Bool.not_eq_true',Bool.and_eq_false_iff,beq_eq_false_iff_ne]
  right;omega
theorem Col.step_nz {k:Col} (hok:k.Ok) (room:Bool):((k.stepR room).is=true→(k.stepR room).r.nz=true)∧((k.stepR room).is=false→(k.stepR room).r = .no):=by
 unfold Col.stepR
 split
 ·exact⟨(fun h=>by cases h),fun _=>rfl⟩
 split
 ·rename_i h4
  split
  ·rename_i hl
   split
   ·exact⟨fun _=>lostAt_nz hok (hok.a4 h4) hl,(fun h=>by cases h)⟩
   ·exact⟨(fun h=>by cases h),fun _=>rfl⟩
  ·exact⟨(fun h=>by cases h),fun _=>rfl⟩
 split
 ·exact⟨(fun h=>by cases h),fun _=>rfl⟩
 ·exact⟨(fun h=>by cases h),fun _=>rfl⟩
def PKeep (w w':World) (p:Nat) (ft:Nat→Prop):Prop:=
 ∃ v v',w.cell? ⟨p,2,none⟩=some v∧w'.cell? ⟨p,2,none⟩=some v'∧zA (fun y=>(ft y∨y=p)∨v.ownBlock=some y) w w'∧(v'.ownBlock=v.ownBlock∨∀ y,v'.ownBlock=some y→w.heap.size≤y)
theorem PKeep.trans {w1 w2 w3:World} {ft:Nat→Prop} (h:PKeep w1 w2 p ft) (k:PKeep w2 w3 p ft):PKeep w1 w3 p ft:=by
 obtain⟨v,v',h1,h2,h3,h4⟩:=h
 obtain⟨u,u',k1,k2,k3,k4⟩:=k
 obtain rfl:v'=u:=by rw [h2] at k1;exact Option.some.inj k1
 refine⟨v,u',h1,k2,h3.trans' k3 (fun _ _ h=>h) (fun y hy h=>?_),?_⟩
 ·rcases h with h | h
  ·exact .inl h
  ·rcases h4 with h4 | h4
   ·exact .inr (h4 ▸ h)
   ·have:=h4 y h;omega
 ·rcases k4 with k4 | k4
  ·rcases h4 with h4 | h4
   ·exact .inl (k4.trans h4)
   ·exact .inr (fun y hy=>h4 y (k4 ▸ hy))
  ·exact .inr (fun y hy=>Nat.le_trans h3.size (k4 y hy))
theorem PKeep.block {ft:Nat→Prop} (h:PKeep w w' p ft) {x:Nat} {o:Obj} (hx:w.heap[x]?=some o) (h1:¬ ft x) (h2:x≠p) (h3:∀ v,w.cell? ⟨p,2,none⟩=some v→v.ownBlock≠some x):w'.heap[x]?=some o∧∀ v,w'.cell? ⟨p,2,none⟩=some v→v.ownBlock≠some x:=by
 obtain⟨v,v',e1,e2,e3,e4⟩:=h
 refine⟨zB hx e3 (by rintro ((h | h) | h);exact h1 h;exact h2 h;exact h3 v e1 h),fun u hu hux=>?_⟩
 rw [e2] at hu
 obtain rfl:=Option.some.inj hu
 rcases e4 with e4 | e4
 ·exact h3 v e1 (e4 ▸ hux)
 ·have:=e4 x hux
  have:=zF hx
  omega
theorem Pair.keep0 (h:Pair w0 w p a m b c LA LM k f) {ft:Nat→Prop} (hk:zA (fun y=>ft y) w w') (hf:¬ ft p):PKeep w w' p ft:=by
 obtain⟨_,⟨v,h1,_⟩,_⟩:=h
 exact⟨v,v,zD h1 rfl,zD (zB h1 hk hf) rfl,hk.mono (fun _ _ h=>.inl (.inl h)),.inl rfl⟩
theorem Quad.oth (h:Quad w0 w a m b c LA LM k) {x:Nat} {cs:Array Value} {t:TypeId} (hx:w.heap[x]?=some (.cells cs t)) (hk:zA (fun y=>y=x) w w') (hb:w0.heap.size≤x)
 (h1:182≠t) (h2:268≠t) (h3:201≠t) (h4:204≠t)
 (h5:224≠t) (h6:227≠t) (h7:232≠t) (h8:234≠t) (h9:104≠t) (h10:106≠t) (h11:136≠t) (h12:140≠t)
 (h13:145≠t) (h14:70≠t):Quad w0 w' a m b c LA LM k:=
 ⟨⟨h.tr.both.oth hx hk hb h1 h2 h3 h4 h5 h6 h7 h8 h9 h10 h11 h12,h.tr.sw.keeps hk (zM h.tr.sw.own hx h13),h.tr.hb⟩,zB h.own hk (zM h.own hx h14),h.hc⟩
theorem Quad.row (h:Quad w0 w a m b c LA LM k) {v:Value} {l:List Rf} (hv:Row w w0.heap.size v l) (hk:zA (fun y=>v.ownBlock=some y) w w'):Quad w0 w' a m b c LA LM k:=by
 rcases hv.2 with⟨rfl,_⟩ | ⟨g,cap,cur,rfl,hb,hg,_⟩
 ·exact h.same (hk.mono (fun y _ hy=>by cases hy))
 ·exact h.oth hg (hk.mono (fun y _ hy=>(Option.some.inj hy).symm)) hb (by decide) (by decide) (by decide) (by decide) (by decide) (by decide) (by decide) (by decide) (by decide) (by decide) (by decide) (by decide) (by decide) (by decide)
theorem step_append_refs {ops:Array Oper} {o:Oper} {a:Act} {K:Act→World→Prop} {Q:Exit→Act→World→Prop} {E:Prop} (w:World) (hgd:o.guard=none) (s x:Operand)
 (ho:o.op = .call { callee:=.builtin .append,args:=#[s,x],argTypes:=#[35,35] })
 (base:Nat) (v u:Value) (l m:List Rf) (hs:a.eval s=v) (hx:a.eval x=u) (hv:Row w base v l) (hu:Refs w u m) (h1:l.length+m.length≤1000000) (hb:base≤w.heap.size) (b2:Nat) (hb2:b2≤w.heap.size)
 (h:∀ v' w',Row w' base v' (l ++ m)→zA (fun k=>v.ownBlock=some k) w w'→(v'.ownBlock=v.ownBlock∨∀ y,v'.ownBlock=some y→b2≤y)→K (a.put o.dst v') w'):
 if Region.wanted o (yielded ops a.tmps)=true then Oper.wp Tryz.prog o a w K Q else E:=by
 have hw:Region.wanted o (yielded ops a.tmps)=true:=by simp [Region.wanted,hgd]
 rw [if_pos hw]
 obtain⟨v',w',hr,h2,h3,h4⟩:=run_append_refs o.type base v u l m w hv hu h1 hb
 unfold Oper.wp execOp
 simp only [ho,resolve,invoke,builtin,Sem.run_bind,Sem.run_pure,Result.andThen_ok,List.map_toArray,List.map_cons,List.map_nil,hs,hx,hr]
 exact h v' w' h2 h3 (h4.imp id (fun e y hy=>by rw [e] at hy;obtain rfl:=Option.some.inj hy;exact hb2))
theorem Row.not_pair {base x:Nat} {v:Value} {l:List Rf} {cs:Array Value} (h:Row w base v l) (hx:w.heap[x]?=some (.cells cs 37)):¬ v.ownBlock=some x:=by
 intro e
 rcases h.2 with⟨rfl,_⟩ | ⟨g,cap,cur,rfl,hb,hg,_⟩
 ·cases e
 ·exact zM hx hg (by decide) (Option.some.inj e).symm
theorem pstep (h:Pair w0 w p a m b c LA LM k f) (hok:k.Ok) (room:Nat) (hr:room<4611686018427387904) (hcy:k.s.M.K.cy<4611686018427387904) (hl:f.length≤100000):
 Calls Tryz.prog 17 #[.pointer (some ⟨p,0,none⟩),.int .i64 room] w fun e w'=>e = .returned (.tuple #[])∧Pair w0 w' p a m b c LA LM (k.stepR (decide (0<room))).c ((k.stepR (decide (0<room))).more f)∧PKeep w w' p (zV LA LM b c k.s):=by
 obtain⟨hq,⟨v,hown,hrow⟩,hp⟩:=id h
 have HST:=zC (fun W (hk:Kz w W)=>cystep (hq.same hk) hok hcy room hr)
 obtain⟨hz1,hz2⟩:=Col.step_nz hok (decide (0<room))
 obtain⟨_,hlike⟩:=Col.step_ok hok (decide (0<room))
 obtain⟨R,hR⟩:∃ R,k.stepR (decide (0<room))=R:=⟨_,rfl⟩
 rw [hR] at HST hz1 hz2 hlike
 rw [hR]
 have HPQ:=zC (fun W d (hk:zA (zV LA LM b c k.s) w W) (hd:Quad w0 W a m b c LA LM d)=>h.quad hk hd)
 have HPK:=zC (fun W (hk:zA (zV LA LM b c k.s) w W)=>h.keep0 hk (hq.pairfoot hown))
 have HSQ:=zC (fun W (hk:zA (zV LA LM b c k.s) w W)=>let q:=cells4 (zB hown hk (hq.pairfoot hown));And.intro q.2.1 q.1)
 have HOW:=zC (fun W (hk:zA (zV LA LM b c k.s) w W)=>zB hown hk (hq.pairfoot hown))
 have HRO:=zC (fun W (hk:zA (zV LA LM b c k.s) w W)=>hq.rowkeep hrow hk)
 have HFL:=zC hq.footlt
 have HF:=zC (fun (W W':World) (d:Col) (hW:Quad w0 W a m b c LA LM d) (hl:k.Like d) (hk:zA (fun y=>w.heap.size≤y) W W')=>hq.far hW hl hk)
 have hkp:=h.kp.size
 obtain⟨Rc,rr,is⟩:=R
 dsimp only at hz1 hz2 hlike ⊢
 have HLK:=zC hlike
 have HP:=zC hp
 have HL:=zC hl
 have hnz:rr.nz=is:=by
  cases is
  ·rw [hz2 rfl];rfl
  ·exact hz1 rfl
 have hneq:∀ W,Sem.run Tryz.prog (binOp .neq 51 (.agg #[.int .i64 rr.s,.int .u32 rr.g]) (.agg #[.int .i64 0,.int .u32 0])) W = .ok (.bool is) W:=fun W=>by rw [neq_nz,hnz]
 obtain⟨F,hF⟩:∃ F,(CyRes.mk Rc rr is).more f=F:=⟨_,rfl⟩
 have HFF:=zC hF
 rw [hF]
 have hlp:=zF hown
 have HC2:=zC (show w.cell? ⟨p,2,none⟩=some v from zD hown rfl)
 clear h hok hr hcy hq hown hrow hp hz1 hz2 hlike hnz hR hF hl
 go_in
 go_upto_region 0 with (fail)
 go_cut [4,5,6] (fun s4 s5 s6 wx=>∃ B,s4 = .pointer (some ⟨B,0,none⟩)∧s5 = .bool is∧s6 = .int .i64 0∧wx.heap[B]?=some (.cells #[.int .i64 rr.s,.int .u32 rr.g] 51)∧w.heap.size≤B∧Quad w0 wx a m b c LA LM Rc∧zA (zV LA LM b c k.s) w wx)
 case first=>
  go_region_held3 (fun W=>W.cell? ⟨p,1,none⟩=some (.pointer (some ⟨c,0,none⟩))∧W.cell? ⟨p,0,none⟩=some (.pointer (some ⟨a,0,none⟩)))
   ((refine HSQ.out _ ?_;(with_reducible repeat first | exact zA.refl _ _ | refine zA.alloc ?_ _ | refine zA.drew ?_ | refine zA.setCell ?_ (.inr ?_) _ | refine zA.trans ?_ (by with_reducible assumption)) <;> (dsimp only;omega)))
   (first | (go_at_call 66;refine (HST.out _ (by first | exact (zA.refl _ _).drew | exact ((zA.refl _ _).alloc _).drew)).mono ?_;rintro e w1 ⟨rfl,hq1,hk1⟩;dsimp only [Rf.val];have hkw:zA (zV LA LM b c k.s) w w1:=zA.trans zA.r hk1;have hks:=hkw.size;(first | (have nb:=zB (show (World.drew (w.alloc (.cells #[.int .i64 0,.int .u32 0] 51))).heap[w.heap.size]?=_ from zE) hk1 (fun hf=>Nat.lt_irrefl _ (HFL.out _ hf));have nx:=zK nb;obtain⟨n0,n1,nf,nl⟩:=nx;have nf0:=nf 0;have nf1:=nf 1) | skip)))
  all_goals
   go_wp2_with fail
   go_meet
   first
    | exact⟨w1.heap.size,rfl,rfl,rfl,zE,hks,hq1.same ((zA.refl _ _).alloc _),hkw.alloc _⟩
    | exact⟨w.heap.size,rfl,rfl,rfl,fin2 nb,Nat.le_refl _,HF.out _ _ _ hq1 HLK.out (kfin0 _ _ _ _),kfin hkw (Nat.le_refl _) _ _⟩
 case rest=>
 obtain⟨B,rfl,rfl,rfl,hB,lB,hqc,hkc⟩:=hcut
 obtain⟨y0,y1,yf,yl⟩:=zK hB
 have hown:=HOW.out _ hkc
 have hkz:=hkc.size
 have HB:=zC hB;have HQC:=zC hqc;have HKC:=zC hkc;have HOC:=zC hown
 clear hB hqc hkc yf hown
 rcases is with _ | _
 ·have HF2:=zC (show f=F from HFF.out)
  go_wp2_with fail
  go_end0
  refine⟨rfl,?_,?_⟩
  ·rw [← HF2.out];exact HPQ.out _ _ HKC.out HQC.out
  ·exact HPK.out _ HKC.out
 ·have HF2:=zC (show f ++ [rr]=F from HFF.out)
  obtain⟨e0,e1,e2,e3,el⟩:=cells4 HOC.out
  have ff2:=zL HOC.out 2
  have HRC:=zC (HRO.out _ HKC.out)
  have hrl:=HRC.out.lt
  have hl:=HL.out;have hp:=HP.out
  have HNP:=zC (HRC.out.not_pair HOC.out)
  have HZ2:=zC hkz
  have HZ:=zC (show w0.heap.size≤wc.heap.size by omega)
  go_wp2_with fail
  clear hneq
  go_region_law (first
   | (refine step_append_refs _ (by rfl) _ _ (by rfl) w0.heap.size v (.slice (some ⟨_,0,none⟩) 1 1) f [rr] (by rfl) (by rfl) (HRC.out.keeps (S:=fun _=>False) zA.r (fun _ _ _ _ h=>h)) (refs_one zE) (by simp;omega) (Nat.le_trans HZ.out (zA.size (S:=fun _=>False) zA.r)) w.heap.size (Nat.le_trans HZ2.out (zA.size (S:=fun _=>False) zA.r)) ?_;intro v' w5 hrow5 hk5 ho5;have hsh:=zW hrow5;obtain⟨p',cap',hv'⟩:=hsh;obtain rfl:=hv';have hk6:zA (fun y=>v.ownBlock=some y) wc w5:=zA.trans zA.r hk5;have q5:=zB HOC.out hk6 HNP.out;have ff5:=zL q5 2;have x5:=zD (i:=2) q5 rfl;have l5:=zF q5))
  all_goals
   go_wp2_with fail
   go_end0
   have hln:(f ++ [rr]).length=f.length+1:=by simp
   rw [hln] at hrow5 ho5
   have ks:=zJ w5 p 2 (.slice p' (f.length+1) cap')
   refine⟨rfl,⟨(HQC.out.row HRC.out hk6).oth q5 ks hp (by decide) (by decide) (by decide) (by decide) (by decide) (by decide) (by decide) (by decide) (by decide) (by decide) (by decide) (by decide) (by decide) (by decide),⟨_,(zH q5 2 _).trans rfl,?_⟩,hp⟩,⟨v,.slice p' (f.length+1) cap',HC2.out,zD (i:=2) (zH q5 2 _) rfl,?_,ho5⟩⟩
   ·rw [← HF2.out]
    exact hrow5.keeps ks (fun y _ _ hy e=>hrow5.not_pair q5 (hy.trans (congrArg some e)))
   ·exact (((HKC.out.mono (T:=fun y=>(zV LA LM b c k.s y∨y=p)∨v.ownBlock=some y) (fun _ _ h=>.inl (.inl h))).trans' hk6 (fun _ _ h=>h) (fun y _ h=>.inr h)).trans' ks (fun _ _ h=>h) (fun y _ h=>.inl (.inr h)))
def Cyc.new (n:Nat):Cyc:=⟨⟨n,n,0⟩,0,0,false⟩
def Col.new (n k s p:Nat):Col:=⟨⟨Ar.new n k 1,Mk.new n k s p⟩,Cyc.new n⟩
def cfgV (n k s p:Int) (z:Nat→Int):Value:=.agg #[.int .i64 n,.int .i64 k,.int .i64 s,.int .i64 p,.int .i64 (z 0),.int .i64 (z 1),.int .i64 (z 2),.int .i64 (z 3),.int .i64 (z 4),.int .u32 (z 5)]
theorem MkL.Btw.mono {L:MkL} {m k lo hi lo' hi':Nat} (h:L.Btw m k lo hi) (h1:lo'≤lo) (h2:hi≤hi'):L.Btw m k lo' hi':=
 ⟨⟨by have:=h.m;omega,by have:=h.m;omega⟩,⟨by have:=h.c;omega,by have:=h.c;omega⟩,⟨by have:=h.p;omega,by have:=h.p;omega⟩,⟨by have:=h.s;omega,by have:=h.s;omega⟩,⟨by have:=h.rb;omega,by have:=h.rb;omega⟩,fun j hj=>⟨by have:=h.bb j hj;omega,by have:=h.bb j hj;omega⟩⟩
theorem cynew_ok (n k s p:Nat) (z:Nat→Int) (w:World) (n1:1≤n) (n2:n≤256) (k1:1≤k) (k4:k≤4) (s1:1≤s) (s2:s≤64) (p1:1≤p) (p2:p≤64):
 Calls Tryz.prog 22 #[cfgV n k s p z] w fun e w'=>∃ c m b LM,e = .returned (.tuple #[.pointer (some ⟨c,0,none⟩),.int .i64 0])∧Kz w w'∧MkIn w' m LM (Mk.new n k s p)∧LM.Btw m k w.heap.size w'.heap.size∧SwAt w' b ⟨n,n,0⟩∧w.heap.size≤b∧w'.heap[c]?=some (.cells (cyArr m b n k (Cyc.new n)) 70)∧w.heap.size≤c:=by
 obtain⟨wA,hwA⟩:∃ wA,w.alloc (.cells #[.int .i64 n,.int .i64 k,.int .i64 s,.int .i64 p,.int .i64 (z 0),.int .i64 (z 1),.int .i64 (z 2),.int .i64 (z 3),.int .i64 (z 4),.int .u32 (z 5)] 26)=wA:=⟨_,rfl⟩
 have kA:Kz w wA:=by rw [← hwA];exact (zA.refl _ _).alloc _
 have qA:wA.heap[w.heap.size]?=some (.cells #[.int .i64 n,.int .i64 k,.int .i64 s,.int .i64 p,.int .i64 (z 0),.int .i64 (z 1),.int .i64 (z 2),.int .i64 (z 3),.int .i64 (z 4),.int .u32 (z 5)] 26):=by rw [← hwA];exact zE
 have HKA:=zC kA;have HQA:=zC qA;have HW:=zC hwA
 have HM:=zC (fun W=>mnew_ok n k s p W n1 n2 k1 k4 s1 s2 p1 p2)
 have HS:=zC (fun W=>swnew_ok n W n1 n2)
 clear kA qA hwA n1 n2 k1 k4 s1 s2 p1 p2
 unfold cfgV
 go_in
 go_upto_region 1 with (fail)
 rw [HW.out]
 obtain⟨x0,x1,x2,x3,x4,x5,x6,x7,x8,x9,_,xl⟩:=zZ HQA.out
 go_wp2_with fail
 refine (HM.out _).mono ?_
 rintro e w1 ⟨rfl,k1,LM,hm,hb⟩
 have HK1:=zC k1;have HM1:=zC hm;have HB1:=zC hb
 obtain⟨m,hmm⟩:∃ m,wA.heap.size=m:=⟨_,rfl⟩
 have HMM:=zC hmm
 rw [hmm] at HM1 HB1 ⊢
 have HQ1:=zC (zB HQA.out k1 (fun h=>h))
 clear k1 hm hb hmm x0 x1 x2 x3 x4 x5 x6 x7 x8 x9 xl
 obtain⟨x0,x1,x2,x3,x4,x5,x6,x7,x8,x9,_,xl⟩:=zZ HQ1.out
 go_wp2_with fail
 refine (HS.out _).mono ?_
 rintro e w2 ⟨rfl,k2,hs⟩
 have HK2:=zC k2;have HS2:=zC hs
 have HQ2:=zC (zB HQ1.out k2 (fun h=>h))
 clear k2 hs x0 x1 x2 x3 x4 x5 x6 x7 x8 x9 xl
 obtain⟨x0,x1,x2,x3,x4,x5,x6,x7,x8,x9,_,xl⟩:=zZ HQ2.out
 go_wp2_with fail
 have hz0:=HKA.out.size;have hz1:=HK1.out.size;have hz2:=HK2.out.size;have hmo:=HMM.out
 refine bodyPost_ret_by (v:=.tuple #[.pointer (some ⟨w2.heap.size,0,none⟩),.int .i64 0]) (by simp [results,Tryz.results22,go_sem, *]) rfl ⟨w2.heap.size,m,w1.heap.size,LM,rfl,((HKA.out.trans HK1.out).trans HK2.out).alloc _,?_,?_,HS2.out.keeps ((zA.refl (fun _=>False) _).alloc _) (fun h=>h),by omega,zE,by omega⟩
 ·exact HM1.out.keeps0 (HK2.out.alloc _)
 ·exact HB1.out.mono (by omega) (Nat.le_trans hz2 (by simp))
theorem config26 (x y z u:Nat) (w:World) (hx:x<256) (hy:y<256) (hz:z<256) (hu:u<256):
 Calls Tryz.prog 5 #[.int .u8 x,.int .u8 y,.int .u8 z,.int .u8 u] w fun e w'=>e = .returned (cfgV ((1+x % 24:Nat):Int) ((1+y % 4:Nat):Int) ((1+z % 8:Nat):Int) ((1+u % 4:Nat):Int) (fun _=>0))∧Kz w w':=by
 have h1:((1+x % 24:Nat):Int)=1+(x:Int) % 24:=by omega
 have h2:((1+y % 4:Nat):Int)=1+(y:Int) % 4:=by omega
 have h3:((1+z % 8:Nat):Int)=1+(z:Int) % 8:=by omega
 have h4:((1+u % 4:Nat):Int)=1+(u:Int) % 4:=by omega
 rw [h1,h2,h3,h4]
 clear h1 h2 h3 h4
 go_in
 go_wp2_with fail
 refine bodyPost_ret_by (v:=.agg #[.int .i64 (1+(x:Int) % 24),.int .i64 (1+(y:Int) % 4),.int .i64 (1+(z:Int) % 8),.int .i64 (1+(u:Int) % 4),.int .i64 0,.int .i64 0,.int .i64 0,.int .i64 0,.int .i64 0,.int .u32 0]) (by simp [results,Tryz.results5,go_sem, *]) rfl ⟨rfl,?_⟩
 (with_reducible repeat first | exact zA.refl _ _ | refine zA.setCell ?_ ?_ _ | refine zA.alloc ?_ _ | refine zA.drewN ?_ _ | refine zA.drew ?_ | refine zA.trans ?_ (zA.up trivial))
 all_goals first | (left;simp;done) | (left;simp;omega) | (right;simp;done) | (right;simp;omega)
def pbeg (w w':World) (p:Nat) (k0:Col) (e:Ending):Prop:=
 e = .returned (.tuple #[.pointer (some ⟨p,0,none⟩),.bool true])∧∃ w0 a m b c LA LM,Kz w w0∧Pair w0 w' p a m b c LA LM k0 []
theorem begin26 (n k s p:Nat) (z:Nat→Int) (w:World) (n1:1≤n) (n2:n≤256) (k1:1≤k) (k4:k≤4) (s1:1≤s) (s2:s≤64) (p1:1≤p) (p2:p≤64):
 Calls Tryz.prog 6 #[cfgV n k s p z] w fun e w'=>∃ q,pbeg w w' q (Col.new n k s p) e:=by
 obtain⟨wA,hwA⟩:∃ wA,w.alloc (.cells #[.int .i64 n,.int .i64 k,.int .i64 s,.int .i64 p,.int .i64 (z 0),.int .i64 (z 1),.int .i64 (z 2),.int .i64 (z 3),.int .i64 (z 4),.int .u32 (z 5)] 26)=wA:=⟨_,rfl⟩
 have kA:Kz w wA:=by rw [← hwA];exact (zA.refl _ _).alloc _
 have qA:wA.heap[w.heap.size]?=some (.cells #[.int .i64 n,.int .i64 k,.int .i64 s,.int .i64 p,.int .i64 (z 0),.int .i64 (z 1),.int .i64 (z 2),.int .i64 (z 3),.int .i64 (z 4),.int .u32 (z 5)] 26):=by rw [← hwA];exact zE
 have HKA:=zC kA;have HQA:=zC qA;have HW:=zC hwA
 have HAN:=zC (fun W=>anew_ok n k 1 W (by omega) (by omega) k1 k4 (by omega) (by omega))
 have HCN:=zC (fun W=>cynew_ok n k s p z W n1 n2 k1 k4 s1 s2 p1 p2)
 clear kA qA hwA n1 n2 k1 k4 s1 s2 p1 p2
 unfold cfgV at HCN ⊢
 go_in
 go_upto_region 1 with (fail)
 rw [HW.out]
 obtain⟨x0,x1,x2,x3,x4,x5,x6,x7,x8,x9,_,xl⟩:=zZ HQA.out
 go_wp2_with fail
 refine (HAN.out _).mono ?_
 rintro e w1 ⟨a,rfl,k1,ha⟩
 rw [Int.toNat_natCast] at ha
 have HK1:=zC k1;have HA1:=zC ha
 have HQ1:=zC (zB HQA.out k1 (fun h=>h))
 clear k1 ha x0 x1 x2 x3 x4 x5 x6 x7 x8 x9 xl
 obtain⟨x0,x1,x2,x3,x4,x5,x6,x7,x8,x9,_,xl⟩:=zZ HQ1.out
 go_wp2_with fail
 refine (HCN.out _).mono ?_
 rintro e w2 ⟨c,m,b,LM,rfl,k2,hm,hb,hs,lb,hc,lc⟩
 have HK2:=zC k2;have HM2:=zC hm;have HB2:=zC hb;have HS2:=zC hs;have HC2:=zC hc
 clear k2 hm hb hs hc x0 x1 x2 x3 x4 x5 x6 x7 x8 x9 xl
 go_wp2_with fail
 have hz0:=HKA.out.size;have hz1:=HK1.out.size;have hz2:=HK2.out.size
 obtain⟨LA,hd⟩:=Duo.new (w0:=wA) (A:=Ar.new n k 1) (M:=Mk.new n k s p) HK1.out HA1.out HK2.out HM2.out HB2.out
 refine bodyPost_ret_by (v:=.tuple #[.pointer (some ⟨w2.heap.size,0,none⟩),.bool true]) (by simp [results,Tryz.results6,go_sem, *]) rfl ⟨w2.heap.size,rfl,wA,a,m,b,c,LA,LM,HKA.out,⟨⟨⟨?_,HS2.out.keeps ((zA.refl (fun _=>False) _).alloc _) (fun h=>h),by show wA.heap.size≤b;omega⟩,zG HC2.out,by omega⟩,⟨_,zE,Row.nil _ _⟩,by omega⟩⟩
 exact Duo.same hd ((zA.refl _ _).alloc _)
theorem Col.new_ok {n k s p:Nat} (n1:1≤n) (n2:n≤256) (k1:1≤k) (k4:k≤4):(Col.new n k s p).Ok:=by
 have hs:(Col.new n k s p).s.Ok:=⟨Ar.Ok.new n1 n2 k1 k4 (by omega) (by omega),Mk.Ok.new n1 n2 k1 k4,rfl,rfl,⟨fun _ h=>absurd h (Nat.not_lt_zero _),fun _ _ h=>absurd h (Nat.not_lt_zero _)⟩⟩
 have nr:∀ r,¬ Rch (Ar.new n k 1) r:=by
  intro r hr
  induction hr with
  | @root m i h1 h2=>exact Nat.not_lt_zero _ h2
  | @var i h1 h2=>cases h2
  | field _ _ _ ih=>exact ih
 refine⟨hs,⟨fun _=>.inl rfl,fun _=>Nat.zero_le _,fun r hr=>(nr r hr).elim,fun _ j hj=>?_,fun hx=>?_,fun hx=>?_⟩,rfl,(fun h=>?_),(fun h=>?_),(fun i h=>by cases h),rfl⟩
 ·have hj':(0:Int)=2:=hj;cases hj'
 ·rcases hx with hx | hx
  ·have:(0:Nat)=2:=hx;cases this
  ·have:(0:Nat)=3:=hx;cases this
 ·have:4≤(0:Nat):=hx;omega
 ·have:(0:Nat)=4:=h;omega
 ·have:(0:Nat)=5:=h;omega
end Go.Proofs.YtjfmagccmjdhoaaGreat
