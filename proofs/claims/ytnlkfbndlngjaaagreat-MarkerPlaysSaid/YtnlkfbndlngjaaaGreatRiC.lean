import Derived.Test.YtnlkfbndlngjaaaGreatMgZ
import Derived.Test.YtnlkfbndlngjaaaGreatRiB
set_option maxHeartbeats 1000000
set_option maxRecDepth 100000
namespace Go.Proofs.YtnlkfbndlngjaaaGreat
open Go.RowKit
set_option linter.unusedVariables false
set_option linter.unusedSimpArgs false
theorem Ints.cell {w:World} {a:Option Addr} {n c:Nat} {l:List Int} (h:Ints w (.slice a n c) l):n=l.length∧∀ (j:Nat) (r:Int),l[j]?=some r→∃ g,a=some ⟨g,0,none⟩∧g<w.heap.size∧w.cell? ⟨g,j,none⟩=some (.int .i64 r):=by
 rcases h with⟨e,rfl⟩ | ⟨g,cap,cur,e,hg,hc⟩
 ·injection e with e1 e2 e3
  exact⟨e2,fun j r hj=>by cases hj⟩
 ·injection e with e1 e2 e3
  exact⟨e2,fun j r hj=>⟨g,e1,lt_block hg,cell_at hg (hc j r hj)⟩⟩
theorem run_append_ints (ty:TypeId) (base:Nat) (v u:Value) (l m:List Int) (w:World) (hv:IRow w base v l) (hu:Ints w u m) (h1:l.length+m.length≤1000000) (hb:base≤w.heap.size):
 ∃ v' w',(Builtin.append_ #[200,200] ty #[v,u]).run Tryz.prog w = .ok v' w'∧IRow w' base v' (l ++ m)∧Keeps (fun k=>v.ownBlock=some k) w w'∧(v'.ownBlock=v.ownBlock∨v'.ownBlock=some w.heap.size):=by
 obtain⟨ri,hi1,hi2,hi3,hi4⟩:=int_info
 rcases hu with⟨rfl,rfl⟩ | ⟨g,cap,cur,rfl,hg,hc⟩
 ·refine⟨v,w,?_,by simpa using hv,Keeps.refl _ _,.inl rfl⟩
  rcases hv.2 with⟨rfl,_⟩ | ⟨g,c,cur,rfl,_,_,hn,_⟩
  ·simp [Builtin.append_,run_underlying Tryz.underlying200,sizeOf,typeInfo,hi1,Builtin.lenOf,Builtin.firstCells]
  ·simp [Builtin.append_,run_underlying Tryz.underlying200,sizeOf,typeInfo,hi1,Builtin.lenOf,Builtin.firstCells,hn,storeCells]
 ·obtain⟨v',w',r1,r2,r3,_,r5⟩:=run_append_own_at (P:=Tryz.prog) w base 200 ty 3 ri (.int .i64 0) 1 8 Tryz.underlying200 hi1 hi2 hi3 hi4 rfl (by decide) v l.length (l.map (Value.int .i64)) hv ⟨g,0,none⟩ m.length cap (m.map (Value.int .i64)) (by simp)
   (fun j x hj=>by
    have hjl:j<m.length:=by have:=(List.getElem?_eq_some_iff.1 hj).1;simpa using this
    obtain⟨r,hr⟩:∃ r,m[j]?=some r:=⟨_,List.getElem?_eq_getElem hjl⟩
    rw [List.getElem?_map,hr] at hj
    rw [Addr.add_mid,Nat.zero_add,cell_block hg,hc _ r hr]
    exact hj)
   (fun u hu=>by obtain⟨x,_,rfl⟩:=List.mem_map.1 hu;rfl) (by simp [maxLen];omega) (by omega) hb
  refine⟨v',w',r1,?_,(grown_keeps r3).mono (fun k _ h=>h),r5⟩
  unfold IRow
  rw [List.length_append,List.map_append]
  exact r2
theorem wpList_append_ints {ops:Array Oper} {rest:List Oper} {o:Oper} {a:Act} {Q:Exit→Act→World→Prop} (w:World) (hgd:o.guard=none) (s x:Operand)
 (ho:o.op = .call { callee:=.builtin .append,args:=#[s,x],argTypes:=#[200,200] })
 (base:Nat) (v u:Value) (l m:List Int) (hs:a.eval s=v) (hx:a.eval x=u) (hv:IRow w base v l) (hu:Ints w u m) (h1:l.length+m.length≤1000000) (hb:base≤w.heap.size)
 (h:∀ v' w',IRow w' base v' (l ++ m)→Keeps (fun k=>v.ownBlock=some k) w w'→(v'.ownBlock=v.ownBlock∨v'.ownBlock=some w.heap.size)→wpList Tryz.prog ops Q rest (a.put o.dst v') w'):
 wpList Tryz.prog ops Q (o :: rest) a w:=by
 refine wpList_plain hgd fun K hK=>?_
 obtain⟨v',w',hr,h2,h3,h4⟩:=run_append_ints o.type base v u l m w hv hu h1 hb
 unfold Oper.wp execOp
 simp only [ho,resolve,invoke,builtin,Sem.run_bind,Sem.run_pure,Result.andThen_ok,List.map_toArray,List.map_cons,List.map_nil,hs,hx,hr]
 exact hK _ _ (h v' w' h2 h3 h4)
theorem ints_one {w:World} {B:Nat} {x:Int} (h:w.heap[B]?=some (.cells #[.int .i64 x] 3)):Ints w (.slice (some ⟨B,0,none⟩) 1 1) [x]:=
 .inr ⟨B,1,_,rfl,h,fun j r hj=>by
  rcases j with _ | j
  ·simp at hj;subst hj;rfl
  ·simp at hj⟩
theorem row_one {w:World} {base B:Nat} {x:Rf} (h:w.heap[B]?=some (.cells #[.int .i64 x.s,.int .u32 x.g] 34)) (hb:base≤B):Row w base (.slice (some ⟨B,0,none⟩) 1 1) [x]:=
 ⟨rfl,.inr ⟨B,1,_,rfl,hb,h,by simp,by simp [maxLen],by simp,by simp [encR]⟩⟩
end Go.Proofs.YtnlkfbndlngjaaaGreat
namespace Go.Proofs.YtnlkfbndlngjaaaGreat
open Go.RowKit
attribute [local go_sem] Oper.semAt_some
set_option linter.unusedVariables false
set_option linter.unusedSimpArgs false
section
variable {w w':World} {b s:Nat} {P:Pt}
theorem Pt.gr_head {P:Pt} {k:Nat} (h0:P.gr k=[]) (hc:P.c k=1):∀ n,k<n→∃ t,P.gr n=k :: t
 | 0,h=>by omega
 | n+1,h=>by
  by_cases e:n=k
  ·subst e
   exact⟨[],by rw [Pt.gr_yes hc,h0];rfl⟩
  ·obtain⟨t,ht⟩:=Pt.gr_head h0 hc n (by omega)
   refine⟨t ++ (if P.c n=1 then [n] else []),?_⟩
   show P.gr n ++ _=_
   rw [ht];rfl
theorem Pt.gr_none {P:Pt} {k:Nat} (h0:P.gr k=[]) (hc:P.c k≠1):P.gr (k+1)=[]:=by
 show P.gr k ++ _=_
 rw [h0,if_neg hc];rfl
theorem grey15 (h:R15 w b s P):Calls Tryz.prog 224 #[.pointer (some ⟨b,0,none⟩),.int .i64 0] w fun e w'=>((P.gr P.n=[]∧e = .returned (.tuple #[.int .i64 0,.bool false]))∨∃ i t,P.gr P.n=i :: t∧e = .returned (.tuple #[.int .i64 i,.bool true]))∧Keeps (fun _=>False) w w':=by
 have HC:=hid (check15_ok 0 h h.n1)
 obtain⟨⟨cap,o⟩,⟨cur,r,hz,hr⟩,n1,n2⟩:=h
 have HO:=hid o;have HR:=hid r;have HRR:=hid hr
 obtain⟨n,hn⟩:∃ n,P.n=n:=⟨_,rfl⟩
 rw [hn] at HO HRR n2 ⊢
 clear o r hr hn
 go_enter Tryz.func224,Tryz.ntmps224
 go_wp2_with fail
 refine (HC.out).mono ?_
 rintro e w' ⟨rfl,h'⟩
 obtain rfl:=h'.symm
 go_wp2_with fail
 go_loopw [6] (fun ix wr=>∃ i:Nat,i≤n∧ix = .int .i64 i∧Hid (P.gr i=[])∧Hid (Keeps (fun _=>False) w wr)) (fun ix _=>n - (intOf ix).toNat)
 case atStart=>exact⟨0,Nat.zero_le _,rfl,hid rfl,hid (Keeps.refl _ _)⟩
 case round=>
  obtain⟨i,hi,rfl,HG,HK⟩:=hrel
  have hi0:(0:Int)≤i:=by omega
  obtain⟨c0,_,cl⟩:=cells1 (block_keep HO.out HK.out (fun h=>h))
  by_cases hlt:i<n
  ·have hlt':(i:Int)<(n:Int):=by omega
   have d0:=cell_at (block_keep HR.out HK.out (fun h=>h)) (HRR.out i hlt)
   by_cases hc:P.c i=1
   ·rw [hc] at d0
    have HP:=hid (Pt.gr_head HG.out hc n hlt)
    clear hc
    go_wp2_with fail
    go_ret2
    obtain⟨t,ht⟩:=HP.out
    exact⟨.inr ⟨i,t,ht,rfl⟩,HK.out⟩
   ·have HG':=hid (Pt.gr_none HG.out hc)
    have hc1:(P.c i == 1)=false:=by simpa using hc
    clear hc
    go_wp2_with fail
    exact⟨⟨i+1,by omega,by go_num,HG',HK⟩,by simp [intOf];omega⟩
  ·obtain rfl:i=n:=by omega
   go_wp2_with fail
   go_ret2
   exact⟨.inl ⟨HG.out,rfl⟩,HK.out⟩
end
theorem step_append_ints {ops:Array Oper} {o:Oper} {a:Act} {K:Act→World→Prop} {Q:Exit→Act→World→Prop} {E:Prop} {w:World} (hgd:o.guard=none) (s x:Operand)
 (ho:o.op = .call { callee:=.builtin .append,args:=#[s,x],argTypes:=#[200,200] })
 (base:Nat) (v u:Value) (l m:List Int) (hs:a.eval s=v) (hx:a.eval x=u) (hv:IRow w base v l) (hu:Ints w u m) (h1:l.length+m.length≤1000000) (hb:base≤w.heap.size)
 (h:∀ v' w',IRow w' base v' (l ++ m)→Keeps (fun k=>v.ownBlock=some k) w w'→(v'.ownBlock=v.ownBlock∨v'.ownBlock=some w.heap.size)→K (a.put o.dst v') w'):
 if Region.wanted o (yielded ops a.tmps)=true then Oper.wp Tryz.prog o a w K Q else E:=by
 have hw:Region.wanted o (yielded ops a.tmps)=true:=by simp [Region.wanted,hgd]
 rw [if_pos hw]
 obtain⟨v',w',hr,h2,h3,h4⟩:=run_append_ints o.type base v u l m w hv hu h1 hb
 unfold Oper.wp execOp
 simp only [ho,resolve,invoke,builtin,Sem.run_bind,Sem.run_pure,Result.andThen_ok,List.map_toArray,List.map_cons,List.map_nil,hs,hx,hr]
 exact h v' w' h2 h3 h4
def Sq.list (S:Sq):List Int:=(List.range S.n).map S.f
theorem Sq.list_len (S:Sq):S.list.length=S.n:=by simp [Sq.list]
theorem Sq.list_push (S:Sq) (x:Int):(S.push x).list=S.list ++ [x]:=by
 show (List.range (S.n+1)).map (updf S.f S.n x)=_
 rw [List.range_succ,List.map_append]
 congr 1
 ·refine List.map_congr_left fun i hi=>?_
  have:=List.mem_range.1 hi
  have e:i≠S.n:=by omega
  simp [updf,e]
 ·simp [updf]
theorem Sq.list_pop (S:Sq) (h:0<S.n):S.list=S.pop.list ++ [S.f (S.n - 1)]:=by
 show (List.range S.n).map S.f=(List.range (S.n - 1)).map S.f ++ _
 obtain⟨k,hk⟩:∃ k,S.n=k+1:=⟨S.n - 1,by omega⟩
 rw [hk,List.range_succ,List.map_append];rfl
structure R20 (w:World) (b:Nat) (v:Value) (S:Sq):Prop where
 own:w.heap[b]?=some (.cells #[.int .i64 S.size,v,.bool S.over,.int .i64 S.most] 209)
 row:IRow w 0 v S.list
 s1:1≤S.size
 s2:S.size≤64
 nn:S.n≤S.size
 m0:0≤S.most
 m1:S.most≤64
section
variable {w w':World} {b:Nat} {v:Value} {S:Sq} {T:Nat→Prop}
theorem R20.keeps (h:R20 w b v S) (hk:Keeps T w w') (h1:¬ T b) (h2:∀ k,v.ownBlock=some k→¬ T k):R20 w' b v S:=
 ⟨block_keep h.own hk h1,h.row.keeps hk (fun k _ _ hk=>h2 k hk),h.s1,h.s2,h.nn,h.m0,h.m1⟩
theorem R20.ne (h:R20 w b v S):∀ k,v.ownBlock=some k→k≠b:=by
 intro k hk e
 rcases h.row.2 with⟨rfl,_⟩ | ⟨g,cap,cur,rfl,_,hg,_⟩
 ·cases hk
 ·obtain rfl:g=k:=Option.some.inj hk
  exact type_ne hg h.own (by decide) e
theorem valid20 (b:Nat) (n:Int) (w:World) (h:w.cell? ⟨b,0,none⟩=some (.int .i64 n)) (hn:0<n):Calls Tryz.prog 226 #[.pointer (some ⟨b,0,none⟩)] w fun e w'=>e = .returned (.bool true)∧w'=w:=by
 go_enter Tryz.func226,Tryz.ntmps226
 go_wp2
 go_ret
 exact⟨rfl,rfl⟩
theorem clear20 (h:R20 w b v S):Calls Tryz.prog 146 #[.pointer (some ⟨b,0,none⟩)] w fun e w'=>e = .returned (.tuple #[])∧Keeps (fun y=>y=b) w w'∧R20 w' b (.slice none 0 0) S.clear:=by
 obtain⟨c0,c1,c2,c3,cf,cl⟩:=cells4f h.own
 have s1:=h.s1
 have HV:=hid (valid20 b S.size w c0 (by omega))
 have HH:=hid h
 have cf1:=cf 1;have cf2:=cf 2;have cf3:=cf 3
 clear h cf
 go_enter Tryz.func146,Tryz.ntmps146
 go_wp2_with fail
 refine (HV.out).mono ?_
 rintro e w' ⟨rfl,h'⟩
 obtain rfl:=h'.symm
 go_wp2_with fail
 go_end0
 exact⟨rfl,((keeps_set1 _ _ _ _).trans (keeps_set1 _ _ _ _)).trans (keeps_set1 _ _ _ _),⟨set_block (set_block (set_block HH.out.own 1 _) 2 _) 3 _,IRow.nil _ _,HH.out.s1,HH.out.s2,Nat.zero_le _,Int.le_refl _,by show (0:Int)≤64;decide⟩⟩
theorem push20_full (x:Int) (h:R20 w b v S) (h0:0≤x) (h1:x<256) (hn:S.n=S.size):Calls Tryz.prog 255 #[.pointer (some ⟨b,0,none⟩),.int .i64 x] w fun e w'=>e = .returned (.tuple #[.bool false,.int .i64 0])∧Keeps (fun y=>y=b) w w'∧R20 w' b v S.full:=by
 obtain⟨c0,c1,c2,c3,cf,cl⟩:=cells4f h.own
 have s1:=h.s1
 have HV:=hid (valid20 b S.size w c0 (by omega))
 have HH:=hid h
 have cf2:=cf 2
 obtain⟨p,c,rfl⟩:=own_shape h.row
 have hl:S.list.length=S.size:=by rw [S.list_len];exact hn
 rw [hl] at c1
 have hq:((S.size:Int) == (S.size:Int))=true:=by simp
 have x0:¬ x<0:=by omega
 have x1:¬ 256≤x:=by omega
 clear h cf hl
 go_enter Tryz.func255,Tryz.ntmps255
 go_wp2_with fail
 refine (HV.out).mono ?_
 rintro e w' ⟨rfl,h'⟩
 obtain rfl:=h'.symm
 go_wp2_with fail
 go_region
 go_wp2_with fail
 go_ret2
 have kf:Keeps (fun y=>y=b) w (w.drew.setCell ⟨b,2,none⟩ (.bool true)):=((Keeps.refl _ _).drew).trans (keeps_set1 _ _ _ _)
 exact⟨rfl,kf,⟨set_block (show w.drew.heap[b]?=_ from HH.out.own) 2 _,HH.out.row.keeps kf (fun k _ _ hk e=>HH.out.ne k hk e),HH.out.s1,HH.out.s2,HH.out.nn,HH.out.m0,HH.out.m1⟩⟩
theorem irow_empty {w:World} {base B:Nat} (h:w.heap[B]?=some (.cells #[] 3)) (hb:base≤B):IRow w base (.slice (some ⟨B,0,none⟩) 0 0) []:=
 ⟨rfl,.inr ⟨B,0,_,rfl,hb,h,by simp,by simp [maxLen],by simp,by simp⟩⟩
theorem push20_ok (x:Int) (h:R20 w b v S) (h0:0≤x) (h1:x<256) (hn:S.n<S.size):Calls Tryz.prog 255 #[.pointer (some ⟨b,0,none⟩),.int .i64 x] w fun e w'=>e = .returned (.tuple #[.bool true,.int .i64 0])∧Keeps (fun y=>y=b) w w'∧∃ v',(∀ k,v'.ownBlock=some k→w.heap.size≤k)∧R20 w' b v' (S.push x):=by
 obtain⟨c0,c1,c2,c3,cf,cl⟩:=cells4f h.own
 have s1:=h.s1;have s2:=h.s2;have m0:=h.m0;have m1:=h.m1
 have HV:=hid (valid20 b S.size w c0 (by omega))
 have HH:=hid h
 obtain⟨p,c,rfl⟩:=own_shape h.row
 have hl:S.list.length=S.n:=S.list_len
 rw [hl] at c1 HH
 have HL:=hid hl
 have HPU:=hid (S.list_push x)
 obtain⟨l,hll⟩:∃ l,S.list=l:=⟨_,rfl⟩
 rw [hll] at HL HPU
 obtain⟨wd,hwd⟩:∃ wd,w.drew=wd:=⟨_,rfl⟩
 have kd:Keeps (fun _=>False) w wd:=by rw [← hwd];exact (Keeps.refl _ _).drew
 have hszd:wd.heap.size=w.heap.size:=by rw [← hwd];rfl
 have HU:=hid (show ∀ o,Ints (wd.alloc o) (.slice p S.n c) l from fun o=>by
  have:=(h.row.keeps (kd.alloc o) (fun _ _ _ _ h=>h)).ints
  rw [hl,hll] at this
  exact this)
 have HE:=hid (irow_empty (base:=w.heap.size) (alloc_new (w:=wd) (o:=.cells #[] 3)) (by omega))
 have HA1:Hid (∀ v5 w5,IRow w5 w.heap.size v5 ([] ++ l)→Keeps (fun k=>(Value.slice (some ⟨wd.heap.size,0,none⟩) 0 0).ownBlock=some k) (wd.alloc (.cells #[] 3)) w5→IRow w5 w.heap.size v5 l∧Keeps (fun _=>False) w w5):=hid (fun v5 w5 hr5 hk5=>⟨hr5,(kd.alloc _).trans' hk5 (fun _ _ h=>h) (fun y hy hz=>by
  have:wd.heap.size=y:=Option.some.inj hz
  omega)⟩)
 have hq:((S.n:Int) == (S.size:Int))=false:=by simp;omega
 have x0:¬ x<0:=by omega
 have x1:¬ 256≤x:=by omega
 have HWD:=hid hwd
 have HBL:=hid cl
 have HSZ:=hid hszd
 clear h cf hl hll hwd kd hszd
 go_enter Tryz.func255,Tryz.ntmps255
 go_wp2_with fail
 refine (HV.out).mono ?_
 rintro e w' ⟨rfl,h'⟩
 obtain rfl:=h'.symm
 go_wp2_with fail
 go_region
 rw [HWD.out]
 obtain⟨d0,d1,d2,d3,df,dl⟩:=cells4f (block_keep HH.out.own (show Keeps (fun _=>False) w wd from by rw [← HWD.out];exact (Keeps.refl _ _).drew) (fun h=>h))
 clear c0 c1 c2 c3 df
 go_wp2_with (first
  | (at_builtin;refine wpList_append_ints _ rfl _ _ rfl w.heap.size (.slice (some ⟨wd.heap.size,0,none⟩) 0 0) (.slice p S.n c) [] l rfl rfl HE.out (HU.out _) (by have:=HL.out;simp only [List.length_nil];omega) (by rw [World.size_alloc];have:=HSZ.out;omega) ?_;intro v5 w5 hr5 hk5 ho5;obtain⟨q5,k5⟩:=HA1.out _ _ hr5 hk5;have HR5:=hid q5;have HK5:=hid k5;have HR5a:=hid (q5.keeps ((Keeps.refl (fun _=>False) w5).alloc (.cells #[.int .i64 x] 3)) (fun _ _ _ _ h=>h));obtain⟨d0,d1,d2,d3,df,dl⟩:=cells4f (block_keep HH.out.own k5 (fun h=>h));have HS5:=hid k5.size;clear df hr5 hk5 ho5 q5 k5)
  | (at_builtin;refine wpList_append_ints _ rfl _ _ rfl w.heap.size v5 (.slice (some ⟨w5.heap.size,0,none⟩) 1 1) l [x] rfl rfl HR5a.out (ints_one alloc_new) (by have:=HL.out;simp only [List.length_cons,List.length_nil];omega) (by rw [World.size_alloc];have:=HS5.out;omega) ?_;intro v6 w6 hr6 hk6 ho6;have k6:Keeps (fun _=>False) w w6:=(HK5.out.alloc _).trans' hk6 (fun _ _ h=>h) (fun y hy hz=>(by have:=(HR5.out.lt y hz).1;omega));have HFR:=hid (show ∀ k,v6.ownBlock=some k→w.heap.size≤k from fun k hk=>(hr6.lt k hk).1);obtain⟨p6,q6,rfl⟩:=own_shape hr6;obtain⟨n6,hn6⟩:∃ n6,(l ++ [x]).length=n6:=⟨_,rfl⟩;rw [hn6] at hr6 HFR ⊢;have HN6:=hid hn6;have HR6:=hid hr6;have HK6:=hid k6;obtain⟨d0,d1,d2,d3,df,dl⟩:=cells4f (block_keep HH.out.own k6 (fun h=>h));have df1:=df 1;clear df hr6 hk6 ho6 hn6 k6)
  | fail)
 have hn6:n6=S.n+1:=by rw [← HN6.out,List.length_append,HL.out];rfl
 have kb1:Keeps (fun y=>y=b) w6 (w6.setCell ⟨b,1,none⟩ (.slice p6 n6 q6)):=keeps_set1 _ _ _ _
 have q8:=set_block (block_keep HH.out.own HK6.out (fun h=>h)) 1 (.slice p6 n6 q6)
 obtain⟨w8,hw8⟩:∃ w8,w6.setCell ⟨b,1,none⟩ (.slice p6 n6 q6)=w8:=⟨_,rfl⟩
 rw [hw8] at q8 kb1 ⊢
 have HQ8:=hid (show w8.heap[b]?=some (.cells #[.int .i64 S.size,.slice p6 n6 q6,.bool S.over,.int .i64 S.most] 209) from q8)
 have HB1:=hid kb1
 clear d0 d1 d2 d3 df1 dl q8 kb1 hw8
 obtain⟨d0,d1,d2,d3,df,dl⟩:=cells4f HQ8.out
 have df3:=df 3
 clear df
 subst hn6
 have hcs:(S.most<(S.n:Int)+1∧max S.most ((S.n:Int)+1)=(S.n:Int)+1)∨(¬ S.most<(S.n:Int)+1∧max S.most ((S.n:Int)+1)=S.most):=by omega
 rcases hcs with⟨hle,hmx⟩ | ⟨hle,hmx⟩
 all_goals
  have HMX:=hid hmx
  go_region
  go_wp2_with fail
  go_ret2
  have hmx2:max S.most ((S.n:Int)+1)≤64:=by omega
  have hm0:0≤max S.most ((S.n:Int)+1):=by omega
  have kf:∀ u,Keeps (fun y=>y=b) w6 (w8.drew.setCell ⟨b,3,none⟩ u):=fun u=>(HB1.out.drew).trans (keeps_set1 _ _ _ _)
  refine⟨rfl,(HK6.out.up.trans (kf _)),.slice p6 (S.n+1) q6,HFR.out,⟨?_,?_,s1,s2,hn,hm0,hmx2⟩⟩
  ·show _=some (Obj.cells #[_,_,_,.int .i64 (max S.most ((S.n:Int)+1))] _)
   rw [HMX.out]
   exact set_block (show w8.drew.heap[b]?=_ from HQ8.out) 3 _
  ·rw [HPU.out]
   refine (IRow.keeps ?_ (kf _) (fun k _ _ hk e=>by have:=HFR.out k hk;omega)).mono (Nat.zero_le w.heap.size)
   exact HR6.out
theorem pop20_none (h:R20 w b v S) (hn:S.n=0):Calls Tryz.prog 222 #[.pointer (some ⟨b,0,none⟩)] w fun e w'=>e = .returned (.tuple #[.int .i64 0,.bool false])∧w'=w:=by
 obtain⟨c0,c1,c2,c3,cf,cl⟩:=cells4f h.own
 have s1:=h.s1
 have HV:=hid (valid20 b S.size w c0 (by omega))
 obtain⟨p,c,rfl⟩:=own_shape h.row
 have hl:S.list.length=0:=by rw [S.list_len];exact hn
 rw [hl] at c1
 clear h cf hl hn
 go_enter Tryz.func222,Tryz.ntmps222
 go_wp2_with fail
 refine (HV.out).mono ?_
 rintro e w' ⟨rfl,h'⟩
 obtain rfl:=h'.symm
 go_wp2_with fail
 go_ret2
 exact⟨rfl,rfl⟩
theorem pop20_ok (h:R20 w b v S) (hn:0<S.n):Calls Tryz.prog 222 #[.pointer (some ⟨b,0,none⟩)] w fun e w'=>e = .returned (.tuple #[.int .i64 (S.f (S.n - 1)),.bool true])∧Keeps (fun y=>y=b) w w'∧∃ v',(∀ k,v'.ownBlock=some k→w.heap.size≤k)∧R20 w' b v' S.pop:=by
 obtain⟨c0,c1,c2,c3,cf,cl⟩:=cells4f h.own
 have s1:=h.s1;have s2:=h.s2;have nn:=h.nn
 have HV:=hid (valid20 b S.size w c0 (by omega))
 have HH:=hid h
 obtain⟨p,c,rfl⟩:=own_shape h.row
 obtain⟨_,hcl⟩:=h.row.ints.cell
 have hpop:=S.list_pop hn
 have hpl:S.pop.list.length=S.n - 1:=S.pop.list_len
 obtain⟨g,e,hg,d0⟩:=hcl (S.n - 1) (S.f (S.n - 1)) (by rw [hpop,List.getElem?_append_right (by omega),hpl];simp)
 subst e
 have hl:S.list.length=S.n:=S.list_len
 rw [hl] at c1 HH
 obtain⟨n,hnn⟩:∃ n,S.n=n+1:=⟨S.n - 1,by omega⟩
 rw [hnn] at c1 HH hpl d0 nn
 have hn64:(n:Int)<64:=by omega
 have hn0:(0:Int)≤n:=by omega
 have hw2:IntKind.i64.wrap (n:Int)=(n:Int):=IntWalk.i64_in _ (by omega)
 rw [show n+1 - 1=n by omega] at hpl d0
 rw [hnn,show n+1 - 1=n by omega]
 have hz:(((n+1:Nat):Int) == 0)=false:=by simp;omega
 have hw:IntKind.i64.wrap (((n+1:Nat):Int) - 1)=(n:Int):=by rw [show ((n+1:Nat):Int) - 1=(n:Int) by omega];exact IntWalk.i64_in _ (by omega)
 have HPS:=hid (fun W (hk:Keeps (fun _=>False) w W)=>(show W.cell? ⟨b,1,none⟩=some (.slice (some ⟨g,0,none⟩) (n+1) c)∧W.heap[b]?=some (.cells #[.int .i64 S.size,.slice (some ⟨g,0,none⟩) (n+1) c,.bool S.over,.int .i64 S.most] 209) from by
  have q:=block_keep HH.out.own hk (fun h=>h)
  exact⟨(cells4f q).2.1,q⟩))
 have hrow:=h.row
 rw [hl,hnn] at hrow
 have hcap:n+1≤c:=by
  rcases hrow.2 with⟨e,_⟩ | ⟨g',cap,cur,e,_,_,r1,_⟩
  ·injection e with e1 e2 e3;cases e1
  ·injection e with e1 e2 e3;rw [hl,hnn] at r1;omega
 have hcap1:n≤c:=by omega
 have hcap2:(n:Int)≤(c:Int):=by omega
 have HU:=hid (show Ints w (.slice (some ⟨g,0,none⟩) n c) S.pop.list from by
  rcases hrow.ints with⟨e,_⟩ | ⟨g',cap,cur,e,hg',hc'⟩
  ·injection e with e1 e2 e3;cases e1
  ·injection e with e1 e2 e3
   injection e1 with e1;injection e1 with e1
   subst e1;subst e3
   refine .inr ⟨g,c,cur,by rw [hpl],hg',fun j x hj=>hc' j x ?_⟩
   rw [hpop,List.getElem?_append_left ((List.getElem?_eq_some_iff.1 hj).1)]
   exact hj)
 have HPL:=hid (And.intro hpop hpl)
 clear h cf hcl hl hpop hpl hrow hcap
 go_enter Tryz.func222,Tryz.ntmps222
 go_wp2_with fail
 refine (HV.out).mono ?_
 rintro e w' ⟨rfl,h'⟩
 obtain rfl:=h'.symm
 go_wp2_with fail
 go_region
 go_upto_region 4 with (fail)
 have kd:Keeps (fun _=>False) w w.drew.drew:=(Keeps.refl _ _).drew.drew
 refine wp_region_last 16 (fun W=>W.cell? ⟨b,1,none⟩=some (.slice (some ⟨g,0,none⟩) (n+1) c)) (by kernel_rfl) (HPS.out _ kd).1 (fun hS=>?_)
 refine wpAnyT_take (i:=0) (v:=?_) rfl (by kernel_rfl) (by kernel_rfl) (by kernel_rfl) (by kernel_rfl) (fun _ _ _ h=>h) (Or.inl ⟨by rfl,?_⟩) (by assumption) ?_
 rotate_left
 ·(intro w hSw;(try dsimp only at hSw);simp only [List.getElem_toArray,List.getElem_cons_zero,List.getElem_cons_succ];go_simp;(first | done | with_reducible rfl))
 simp only [List.getElem_toArray,List.getElem_cons_zero,List.getElem_cons_succ,Act.put,List.setIfInBounds_toArray,List.set_cons_zero,List.set_cons_succ]
 refine wpAnyT_take (i:=2) (v:=?_) rfl (by kernel_rfl) (by kernel_rfl) (by kernel_rfl) (by kernel_rfl) (fun _ _ _ h=>h) (Or.inl ⟨by rfl,?_⟩) (by assumption) ?_
 rotate_left
 ·(intro w hSw;(try dsimp only at hSw);simp only [List.getElem_toArray,List.getElem_cons_zero,List.getElem_cons_succ];go_simp;(first | done | with_reducible rfl))
 simp only [List.getElem_toArray,List.getElem_cons_zero,List.getElem_cons_succ,Act.put,List.setIfInBounds_toArray,List.set_cons_zero,List.set_cons_succ]
 refine wpAnyT_take (i:=3) (v:=?_) rfl (by kernel_rfl) (by kernel_rfl) (by kernel_rfl) (by kernel_rfl) (fun _ _ _ h=>h) (Or.inl ⟨by rfl,?_⟩) (by assumption) ?_
 rotate_left
 ·(intro w hSw;(try dsimp only at hSw);simp only [List.getElem_toArray,List.getElem_cons_zero,List.getElem_cons_succ];go_simp;(first | done | with_reducible rfl))
 simp only [List.getElem_toArray,List.getElem_cons_zero,List.getElem_cons_succ,Act.put,List.setIfInBounds_toArray,List.set_cons_zero,List.set_cons_succ]
 refine wpAnyT_take (i:=4) (v:=?_) rfl (by kernel_rfl) (by kernel_rfl) (by kernel_rfl) (by kernel_rfl) (fun _ _ _ h=>h) (Or.inl ⟨by rfl,?_⟩) (by assumption) ?_
 rotate_left
 ·(intro w hSw;(try dsimp only at hSw);simp only [List.getElem_toArray,List.getElem_cons_zero,List.getElem_cons_succ];go_simp;(first | done | with_reducible rfl))
 simp only [List.getElem_toArray,List.getElem_cons_zero,List.getElem_cons_succ,Act.put,List.setIfInBounds_toArray,List.set_cons_zero,List.set_cons_succ]
 refine wpAnyT_take (i:=5) (v:=?_) rfl (by kernel_rfl) (by kernel_rfl) (by kernel_rfl) (by kernel_rfl) (fun _ _ _ h=>h) (Or.inl ⟨by rfl,?_⟩) (by assumption) ?_
 rotate_left
 ·(intro w hSw;(try dsimp only at hSw);simp only [List.getElem_toArray,List.getElem_cons_zero,List.getElem_cons_succ];go_simp;(first | done | with_reducible rfl))
 simp only [List.getElem_toArray,List.getElem_cons_zero,List.getElem_cons_succ,Act.put,List.setIfInBounds_toArray,List.set_cons_zero,List.set_cons_succ]
 refine wpAnyT_take (i:=6) (v:=?_) rfl (by kernel_rfl) (by kernel_rfl) (by kernel_rfl) (by kernel_rfl) (fun _ _ _ h=>h) (Or.inl ⟨by rfl,?_⟩) (by assumption) ?_
 rotate_left
 ·(intro w hSw;(try dsimp only at hSw);simp only [List.getElem_toArray,List.getElem_cons_zero,List.getElem_cons_succ];go_simp;(first | done | with_reducible rfl))
 simp only [List.getElem_toArray,List.getElem_cons_zero,List.getElem_cons_succ,Act.put,List.setIfInBounds_toArray,List.set_cons_zero,List.set_cons_succ]
 refine wpAnyT_take (i:=7) (v:=?_) rfl (by kernel_rfl) (by kernel_rfl) (by kernel_rfl) (by kernel_rfl) (fun _ _ _ h=>h) (Or.inl ⟨by rfl,?_⟩) (by assumption) ?_
 rotate_left
 ·(intro w hSw;(try dsimp only at hSw);simp only [List.getElem_toArray,List.getElem_cons_zero,List.getElem_cons_succ];go_simp;(first | done | with_reducible rfl))
 simp only [List.getElem_toArray,List.getElem_cons_zero,List.getElem_cons_succ,Act.put,List.setIfInBounds_toArray,List.set_cons_zero,List.set_cons_succ]
 refine wpAnyT_take (i:=8) (v:=?_) rfl (by kernel_rfl) (by kernel_rfl) (by kernel_rfl) (by kernel_rfl) (fun _ _ _ h=>h) (Or.inl ⟨by rfl,?_⟩) (by assumption) ?_
 rotate_left
 ·(intro w hSw;(try dsimp only at hSw);simp only [List.getElem_toArray,List.getElem_cons_zero,List.getElem_cons_succ];go_simp;(first | done | with_reducible rfl))
 simp only [List.getElem_toArray,List.getElem_cons_zero,List.getElem_cons_succ,Act.put,List.setIfInBounds_toArray,List.set_cons_zero,List.set_cons_succ]
 refine wpAnyT_take (i:=9) (v:=?_) rfl (by kernel_rfl) (by kernel_rfl) (by kernel_rfl) (by kernel_rfl) (fun _ _ _ h=>h) (Or.inl ⟨by rfl,?_⟩) (by assumption) ?_
 rotate_left
 ·(intro w hSw;(try dsimp only at hSw);simp only [List.getElem_toArray,List.getElem_cons_zero,List.getElem_cons_succ];go_simp;(first | done | with_reducible rfl))
 simp only [List.getElem_toArray,List.getElem_cons_zero,List.getElem_cons_succ,Act.put,List.setIfInBounds_toArray,List.set_cons_zero,List.set_cons_succ]
 refine wpAnyT_ready (rs:=[1,10]) (by kernel_rfl) (by simp) ?_
 refine AllReadyT.cons rfl rfl (fun K hK=>?_) (AllReadyT.cons rfl rfl (fun K hK=>?_) AllReadyT.nil)
 ·go_simp
  refine hK.out _ _ ?_ (fun hHeld=>?_)
  ·exact (HPS.out _ (kd.alloc _)).1
  clear hK K
  try dsimp only [Act.put,List.setIfInBounds_toArray,List.set_cons_zero,List.set_cons_succ]
  refine wpAnyT_ready (rs:=[10]) (by kernel_rfl) (by simp) ?_
  refine AllReadyT.cons rfl rfl (fun K hK=>?_) AllReadyT.nil
  go_simp
  refine hK.out _ _ ?_ (fun hHeld=>?_)
  ·exact (HPS.out _ (kd.alloc _)).1
  clear hK K
  try dsimp only [Act.put,List.setIfInBounds_toArray,List.set_cons_zero,List.set_cons_succ]
  refine wpAnyT_take (i:=11) (v:=?_) rfl (by kernel_rfl) (by kernel_rfl) (by kernel_rfl) (by kernel_rfl) (fun _ _ _ h=>h) (Or.inl ⟨by rfl,?_⟩) (by assumption) ?_
  rotate_left
  ·(intro w hSw;(try dsimp only at hSw);simp only [List.getElem_toArray,List.getElem_cons_zero,List.getElem_cons_succ];go_simp;(first | done | with_reducible rfl))
  simp only [List.getElem_toArray,List.getElem_cons_zero,List.getElem_cons_succ,Act.put,List.setIfInBounds_toArray,List.set_cons_zero,List.set_cons_succ]
  refine wpAnyT_take (i:=12) (v:=?_) rfl (by kernel_rfl) (by kernel_rfl) (by kernel_rfl) (by kernel_rfl) (fun _ _ _ h=>h) (Or.inl ⟨by rfl,?_⟩) (by assumption) ?_
  rotate_left
  ·(intro w hSw;(try dsimp only at hSw);simp only [List.getElem_toArray,List.getElem_cons_zero,List.getElem_cons_succ];go_simp;(first | done | with_reducible rfl))
  simp only [List.getElem_toArray,List.getElem_cons_zero,List.getElem_cons_succ,Act.put,List.setIfInBounds_toArray,List.set_cons_zero,List.set_cons_succ]
  refine wpAnyT_ready (rs:=[13]) (by kernel_rfl) (by simp) ?_
  refine AllReadyT.cons rfl rfl (fun K hK=>?_) AllReadyT.nil
  refine step_append_ints rfl _ _ rfl w.heap.size (.slice (some ⟨w.heap.size,0,none⟩) 0 0) (.slice (some ⟨g,0,none⟩) n c) [] S.pop.list rfl rfl (irow_empty (alloc_new (w:=w.drew.drew) (o:=.cells #[] 3)) (Nat.le_refl _)) (HU.out.keeps (kd.alloc _) (fun _ _ h=>h)) (by rw [HPL.out.2];simp only [List.length_nil];omega) (by show w.heap.size≤(w.alloc _).heap.size;rw [World.size_alloc];exact Nat.le_succ _) ?_
  intro v5 w5 hr5 hk5 ho5
  have k5:Keeps (fun _=>False) w w5:=(kd.alloc _).trans' hk5 (fun _ _ h=>h) (fun y hy hz=>by
   have:w.heap.size=y:=Option.some.inj hz
   omega)
  have HFR:=hid (show ∀ k,v5.ownBlock=some k→w.heap.size≤k from fun k hk=>(hr5.lt k hk).1)
  obtain⟨p5,q5,rfl⟩:=own_shape hr5
  have hl5:([] ++ S.pop.list).length=n:=by rw [List.nil_append];exact HPL.out.2
  rw [hl5] at hr5 HFR ⊢
  refine hK.out _ _ ?_ (fun hHeld=>?_)
  ·exact (HPS.out _ k5).1
  clear hK K
  try dsimp only [Act.put,List.setIfInBounds_toArray,List.set_cons_zero,List.set_cons_succ]
  obtain⟨d0,d1,d2,d3,df,dl⟩:=cells4f (HPS.out _ k5).2
  have df1:=df 1
  have HK5:=hid k5;have HR5:=hid hr5
  clear df hk5 ho5 hr5 hl5 k5 c0 c2 c3
  refine wpAnyT_take (i:=14) (v:=?_) rfl (by kernel_rfl) (by kernel_rfl) (by kernel_rfl) (by kernel_rfl) (fun _ _ _ h=>h) (Or.inl ⟨by rfl,?_⟩) (by assumption) ?_
  rotate_left
  ·(intro w hSw;(try dsimp only at hSw);simp only [List.getElem_toArray,List.getElem_cons_zero,List.getElem_cons_succ];go_simp;(first | done | with_reducible rfl))
  simp only [List.getElem_toArray,List.getElem_cons_zero,List.getElem_cons_succ,Act.put,List.setIfInBounds_toArray,List.set_cons_zero,List.set_cons_succ]
  refine wpAnyT_take (i:=15) (v:=?_) rfl (by kernel_rfl) (by kernel_rfl) (by kernel_rfl) (by kernel_rfl) (fun _ _ _ h=>h) (Or.inl ⟨by rfl,?_⟩) (by assumption) ?_
  rotate_left
  ·(intro w hSw;(try dsimp only at hSw);simp only [List.getElem_toArray,List.getElem_cons_zero,List.getElem_cons_succ];go_simp;(first | done | with_reducible rfl))
  simp only [List.getElem_toArray,List.getElem_cons_zero,List.getElem_cons_succ,Act.put,List.setIfInBounds_toArray,List.set_cons_zero,List.set_cons_succ]
  refine wpAnyT_ready (rs:=[16]) (by kernel_rfl) (by simp) ?_
  refine AllReadyT.last rfl (by kernel_rfl) (fun K hK=>?_)
  go_simp
  refine hK.out _ _ ?_
  refine NoPanic.normal ?_
  go_wp2_with fail
  go_ret2
  have kf:Keeps (fun y=>y=b) w5 (w5.setCell ⟨b,1,none⟩ (.slice p5 n q5)):=keeps_set1 _ _ _ _
  have hnm:S.pop.n=n:=by show S.n - 1=n;omega
  refine⟨rfl,HK5.out.up.trans kf,.slice p5 n q5,HFR.out,⟨set_block (HPS.out _ HK5.out).2 1 _,?_,s1,s2,by have:=HH.out.nn;show S.n - 1≤S.size;omega,HH.out.m0,HH.out.m1⟩⟩
  refine (IRow.keeps ?_ kf (fun k _ _ hk e=>by have:=HFR.out k hk;omega)).mono (Nat.zero_le w.heap.size)
  exact HR5.out
 ·go_simp
  refine hK.out _ _ ?_ (fun hHeld=>?_)
  ·exact (HPS.out _ kd).1
  clear hK K
  try dsimp only [Act.put,List.setIfInBounds_toArray,List.set_cons_zero,List.set_cons_succ]
  refine wpAnyT_take (i:=11) (v:=?_) rfl (by kernel_rfl) (by kernel_rfl) (by kernel_rfl) (by kernel_rfl) (fun _ _ _ h=>h) (Or.inl ⟨by rfl,?_⟩) (by assumption) ?_
  rotate_left
  ·(intro w hSw;(try dsimp only at hSw);simp only [List.getElem_toArray,List.getElem_cons_zero,List.getElem_cons_succ];go_simp;(first | done | with_reducible rfl))
  simp only [List.getElem_toArray,List.getElem_cons_zero,List.getElem_cons_succ,Act.put,List.setIfInBounds_toArray,List.set_cons_zero,List.set_cons_succ]
  refine wpAnyT_take (i:=12) (v:=?_) rfl (by kernel_rfl) (by kernel_rfl) (by kernel_rfl) (by kernel_rfl) (fun _ _ _ h=>h) (Or.inl ⟨by rfl,?_⟩) (by assumption) ?_
  rotate_left
  ·(intro w hSw;(try dsimp only at hSw);simp only [List.getElem_toArray,List.getElem_cons_zero,List.getElem_cons_succ];go_simp;(first | done | with_reducible rfl))
  simp only [List.getElem_toArray,List.getElem_cons_zero,List.getElem_cons_succ,Act.put,List.setIfInBounds_toArray,List.set_cons_zero,List.set_cons_succ]
  refine wpAnyT_ready (rs:=[1]) (by kernel_rfl) (by simp) ?_
  refine AllReadyT.cons rfl rfl (fun K hK=>?_) AllReadyT.nil
  go_simp
  refine hK.out _ _ ?_ (fun hHeld=>?_)
  ·exact (HPS.out _ (kd.alloc _)).1
  clear hK K
  try dsimp only [Act.put,List.setIfInBounds_toArray,List.set_cons_zero,List.set_cons_succ]
  refine wpAnyT_ready (rs:=[13]) (by kernel_rfl) (by simp) ?_
  refine AllReadyT.cons rfl rfl (fun K hK=>?_) AllReadyT.nil
  refine step_append_ints rfl _ _ rfl w.heap.size (.slice (some ⟨w.heap.size,0,none⟩) 0 0) (.slice (some ⟨g,0,none⟩) n c) [] S.pop.list rfl rfl (irow_empty (alloc_new (w:=w.drew.drew) (o:=.cells #[] 3)) (Nat.le_refl _)) (HU.out.keeps (kd.alloc _) (fun _ _ h=>h)) (by rw [HPL.out.2];simp only [List.length_nil];omega) (by show w.heap.size≤(w.alloc _).heap.size;rw [World.size_alloc];exact Nat.le_succ _) ?_
  intro v5 w5 hr5 hk5 ho5
  have k5:Keeps (fun _=>False) w w5:=(kd.alloc _).trans' hk5 (fun _ _ h=>h) (fun y hy hz=>by
   have:w.heap.size=y:=Option.some.inj hz
   omega)
  have HFR:=hid (show ∀ k,v5.ownBlock=some k→w.heap.size≤k from fun k hk=>(hr5.lt k hk).1)
  obtain⟨p5,q5,rfl⟩:=own_shape hr5
  have hl5:([] ++ S.pop.list).length=n:=by rw [List.nil_append];exact HPL.out.2
  rw [hl5] at hr5 HFR ⊢
  refine hK.out _ _ ?_ (fun hHeld=>?_)
  ·exact (HPS.out _ k5).1
  clear hK K
  try dsimp only [Act.put,List.setIfInBounds_toArray,List.set_cons_zero,List.set_cons_succ]
  obtain⟨d0,d1,d2,d3,df,dl⟩:=cells4f (HPS.out _ k5).2
  have df1:=df 1
  have HK5:=hid k5;have HR5:=hid hr5
  clear df hk5 ho5 hr5 hl5 k5 c0 c2 c3
  refine wpAnyT_take (i:=14) (v:=?_) rfl (by kernel_rfl) (by kernel_rfl) (by kernel_rfl) (by kernel_rfl) (fun _ _ _ h=>h) (Or.inl ⟨by rfl,?_⟩) (by assumption) ?_
  rotate_left
  ·(intro w hSw;(try dsimp only at hSw);simp only [List.getElem_toArray,List.getElem_cons_zero,List.getElem_cons_succ];go_simp;(first | done | with_reducible rfl))
  simp only [List.getElem_toArray,List.getElem_cons_zero,List.getElem_cons_succ,Act.put,List.setIfInBounds_toArray,List.set_cons_zero,List.set_cons_succ]
  refine wpAnyT_take (i:=15) (v:=?_) rfl (by kernel_rfl) (by kernel_rfl) (by kernel_rfl) (by kernel_rfl) (fun _ _ _ h=>h) (Or.inl ⟨by rfl,?_⟩) (by assumption) ?_
  rotate_left
  ·(intro w hSw;(try dsimp only at hSw);simp only [List.getElem_toArray,List.getElem_cons_zero,List.getElem_cons_succ];go_simp;(first | done | with_reducible rfl))
  simp only [List.getElem_toArray,List.getElem_cons_zero,List.getElem_cons_succ,Act.put,List.setIfInBounds_toArray,List.set_cons_zero,List.set_cons_succ]
  refine wpAnyT_ready (rs:=[16]) (by kernel_rfl) (by simp) ?_
  refine AllReadyT.last rfl (by kernel_rfl) (fun K hK=>?_)
  go_simp
  refine hK.out _ _ ?_
  refine NoPanic.normal ?_
  go_wp2_with fail
  go_ret2
  have kf:Keeps (fun y=>y=b) w5 (w5.setCell ⟨b,1,none⟩ (.slice p5 n q5)):=keeps_set1 _ _ _ _
  have hnm:S.pop.n=n:=by show S.n - 1=n;omega
  refine⟨rfl,HK5.out.up.trans kf,.slice p5 n q5,HFR.out,⟨set_block (HPS.out _ HK5.out).2 1 _,?_,s1,s2,by have:=HH.out.nn;show S.n - 1≤S.size;omega,HH.out.m0,HH.out.m1⟩⟩
  refine (IRow.keeps ?_ kf (fun k _ _ hk e=>by have:=HFR.out k hk;omega)).mono (Nat.zero_le w.heap.size)
  exact HR5.out
end
end Go.Proofs.YtnlkfbndlngjaaaGreat
