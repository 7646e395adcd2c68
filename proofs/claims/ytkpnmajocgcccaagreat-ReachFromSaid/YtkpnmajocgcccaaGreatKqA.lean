import Derived.Test.YtkpnmajocgcccaaGreatNgE
import Derived.Maps.OwnOps
import Derived.DeepKeys4
import Derived.Maps.AppendAt
set_option maxRecDepth 100000
namespace Go.Proofs.YtkpnmajocgcccaaGreat
open Go.RowKit
set_option linter.unusedVariables false
set_option linter.unusedSimpArgs false
theorem Refs.cell {w:World} {a:Option Addr} {n c:Nat} {l:List Rf} (h:Refs w (.slice a n c) l):n=l.length∧∀ (j:Nat) (r:Rf),l[j]?=some r→∃ g,a=some ⟨g,0,none⟩∧g<w.heap.size∧w.cell? ⟨g,j * 2,none⟩=some (.int .i64 r.s)∧w.cell? ⟨g,j * 2+1,none⟩=some (.int .u32 r.g):=by
 rcases h with⟨e,rfl⟩ | ⟨g,cap,cur,e,hg,hc⟩
 ·injection e with e1 e2 e3
  exact⟨e2,fun j r hj=>by cases hj⟩
 ·injection e with e1 e2 e3
  exact⟨e2,fun j r hj=>⟨g,e1,lt_block hg,cell_at hg (hc j r hj).1,cell_at hg (hc j r hj).2⟩⟩
theorem Refs.slice {w:World} {v:Value} {l:List Rf} (h:Refs w v l):∃ a c,v = .slice a l.length c:=by
 rcases h with⟨rfl,rfl⟩ | ⟨g,cap,cur,rfl,hg,hc⟩
 ·exact⟨_,_,rfl⟩
 ·exact⟨_,_,rfl⟩
theorem Rf.eq_iff {x y:Rf}:(x.s == y.s && x.g == y.g)=decide (x=y):=by
 obtain⟨a,b⟩:=x;obtain⟨c,d⟩:=y
 rw [Bool.eq_iff_iff]
 simp
theorem requal (v1 v2:Value) (l1 l2:List Rf) (w:World) (h1:Refs w v1 l1) (h2:Refs w v2 l2) (hb:l1.length≤65536):
 Calls Tryz.prog 16 #[v1,v2] w fun e w'=>e = .returned (.bool (decide (l1=l2)))∧Keeps (fun _=>False) w w':=by
 obtain⟨a1,c1,rfl⟩:=h1.slice
 obtain⟨a2,c2,rfl⟩:=h2.slice
 have H1:=hid (fun W (hk:Keeps (fun _=>False) w W)=>(h1.keeps hk (fun _ _ h=>h)).cell.2)
 have H2:=hid (fun W (hk:Keeps (fun _=>False) w W)=>(h2.keeps hk (fun _ _ h=>h)).cell.2)
 clear h1 h2
 by_cases hl:l1.length=l2.length
 ·obtain⟨n,hn⟩:∃ n,l1.length=n:=⟨_,rfl⟩
  have hn2:l2.length=n:=hl.symm.trans hn
  rw [hn,hn2]
  rw [hn] at hb
  clear hl
  go_enter Tryz.func16,Tryz.ntmps16
  go_wp2_with fail
  go_loopw [13] (fun ix wr=>∃ k:Nat,k≤n∧ix = .int .i64 k∧l1.take k=l2.take k∧Keeps (fun _=>False) w wr) (fun ix _=>n - (intOf ix).toNat)
  case atStart=>exact⟨0,Nat.zero_le _,rfl,rfl,Keeps.refl _ _⟩
  case round=>
   obtain⟨k,hk,rfl,he,hkr⟩:=hrel
   have HKR:=hid hkr;have HE:=hid he
   by_cases hlt:k<n
   ·obtain⟨x,hx⟩:∃ x,l1[k]?=some x:=⟨_,List.getElem?_eq_getElem (by omega)⟩
    obtain⟨y,hy⟩:∃ y,l2[k]?=some y:=⟨_,List.getElem?_eq_getElem (by omega)⟩
    obtain⟨g1,rfl,b1,p0,p1⟩:=H1.out wr hkr k x hx
    obtain⟨g2,rfl,b2,q0,q1⟩:=H2.out wr hkr k y hy
    have hlt':(k:Int)<(n:Int):=by omega
    have hk0:(0:Int)≤k:=by omega
    have HX:=hid hx;have HY:=hid hy
    have hneq:=fun w=>neq_ref w x.s x.g y.s y.g
    simp only [Rf.eq_iff] at hneq
    clear hkr he hx hy
    by_cases hxy:x=y
    ·rw [decide_eq_true hxy] at hneq
     have HXY:=hid hxy
     clear hxy
     go_wp2_with fail
     go_quiet (fail)
     go_wp2_with fail
     refine⟨⟨k+1,by omega,by go_num,?_,(HKR.out.drewN _)⟩,by simp [intOf];omega⟩
     rw [List.take_add_one,List.take_add_one,HE.out,HX.out,HY.out,HXY.out]
    ·rw [decide_eq_false hxy] at hneq
     have hd:decide (l1=l2)=false:=decide_eq_false (fun h=>hxy (by have h1:=HX.out;rw [h,HY.out] at h1;exact (Option.some.inj h1).symm))
     have HD:=hid hd
     clear hxy hd
     go_wp2_with fail
     go_quiet (fail)
     go_wp2_with fail
     go_ret
     exact⟨ret_bool HD.out.symm,HKR.out.drewN _⟩
   ·have hlt':¬ (k:Int)<(n:Int):=by omega
    have hall:l1=l2:=by
     rw [← List.take_of_length_le (l:=l1) (i:=k) (by omega),← List.take_of_length_le (l:=l2) (i:=k) (by omega)];exact he
    have HALL:=hid hall
    clear hkr he hall
    go_wp2_with fail
    go_ret
    exact⟨ret_bool (by simp [HALL.out]),HKR.out⟩
 ·have hd:decide (l1=l2)=false:=decide_eq_false (fun h=>hl (by rw [h]))
  have hl':((l1.length:Int) == l2.length)=false:=by simpa using (by omega:¬ (l1.length:Int)=l2.length)
  rw [hd]
  clear hl
  go_enter Tryz.func16,Tryz.ntmps16
  go_wp2_with fail
  go_ret
  exact⟨rfl,Keeps.refl _ _⟩
end Go.Proofs.YtkpnmajocgcccaaGreat
namespace Go.Proofs.YtkpnmajocgcccaaGreat
open Go.RowKit
open Go.Maps (Keyed)
theorem ref_row:(41:TypeId)<Tryz.prog.types.size:=of_decide_eq_true (by kernel_rfl)
theorem ref_wide:(match Tryz.prog.underlying 41 with | some (.array _ _) | some (.struct _)=>true | _=>false)=true:=by rw [Tryz.underlying41]
theorem ref_law:Keyed Tryz.prog 41:=Keyed.of_law (deep_law_laid Tryz.laidOut (m:=2) (by omega) ref_row (by kernel_rfl) ref_wide)
theorem ref_cells:Tryz.prog.cellsOf 41=2:=by kernel_rfl
theorem ref_formed {c0 c1:Value}:(Value.agg #[c0,c1]).formed Tryz.prog 41=true:=by simp [Value.formed,Tryz.underlying41,ref_cells]
theorem ref_keytype:Tryz.prog.keyType 41=true:=by kernel_rfl
theorem size_pos {P:Program} {k:TypeId} (h:k<P.types.size):∃ d,P.types.size=d+1:=⟨_,(Nat.sub_add_cancel (Nat.lt_of_le_of_lt (Nat.zero_le _) h)).symm⟩
theorem keyLits_int {P:Program} {t:TypeId} {q:IntKind} (h:P.underlying t=some (.int q)) (d:Nat) {n:Int} (hw:(Lit.int q n).wf=true):P.keyLits (d+1) t [.int q n]=some [.int q n]:=by
 simp [Program.keyLits,h,hw]
theorem ref_key {s g:Int} (hs:(Lit.int .i64 s).wf=true) (hg:(Lit.int .u32 g).wf=true):∃ kl,keyOf Tryz.prog 41 (.agg #[.int .i64 s,.int .u32 g])=some kl:=by
 have h1:Tryz.prog.cellsOf 3=1:=by kernel_rfl
 have h2:Tryz.prog.cellsOf 29=1:=by kernel_rfl
 obtain⟨d,hd⟩:∃ d,Tryz.prog.types.size=d+1:=size_pos ref_row
 have k1:=fun d=>keyLits_int (P:=Tryz.prog) Tryz.underlying3 d hs
 have k2:=fun d=>keyLits_int (P:=Tryz.prog) Tryz.underlying29 d hg
 apply Option.isSome_iff_exists.1
 unfold keyOf
 rw [Tryz.underlying41]
 simp only [ref_keytype,ref_formed,Bool.and_self,if_true]
 rw [hd]
 unfold Program.keyLits
 rw [Tryz.underlying41]
 simp [Value.cells,ref_cells,h1,h2,k1,k2]
end Go.Proofs.YtkpnmajocgcccaaGreat
namespace Go.Proofs.YtkpnmajocgcccaaGreat
open Go.RowKit
set_option linter.unusedVariables false
set_option linter.unusedSimpArgs false
end Go.Proofs.YtkpnmajocgcccaaGreat
namespace Go.Proofs.YtkpnmajocgcccaaGreat
open Go.RowKit
theorem run_append_refs (ty:TypeId) (base:Nat) (v u:Value) (l m:List Rf) (w:World) (hv:Row w base v l) (hu:Refs w u m) (h1:l.length+m.length≤1000000) (hb:base≤w.heap.size):
 ∃ v' w',(Builtin.append_ #[23,23] ty #[v,u]).run Tryz.prog w = .ok v' w'∧Row w' base v' (l ++ m)∧Keeps (fun k=>v.ownBlock=some k) w w'∧(v'.ownBlock=v.ownBlock∨v'.ownBlock=some w.heap.size):=by
 obtain⟨ri,hi1,hi2,hi3,hi4⟩:=ref_info
 rcases hu with⟨rfl,rfl⟩ | ⟨g,cap,cur,rfl,hg,hc⟩
 ·refine⟨v,w,?_,by simpa using hv,Keeps.refl _ _,.inl rfl⟩
  rcases hv.2 with⟨rfl,_⟩ | ⟨g,c,cur,rfl,_,_,hn,_⟩
  ·simp [Builtin.append_,run_underlying Tryz.underlying23,sizeOf,typeInfo,hi1,Builtin.lenOf,Builtin.firstCells]
  ·simp [Builtin.append_,run_underlying Tryz.underlying23,sizeOf,typeInfo,hi1,Builtin.lenOf,Builtin.firstCells,hn,storeCells]
 ·obtain⟨v',w',r1,r2,r3,_,r5⟩:=run_append_own_at (P:=Tryz.prog) w base 23 ty 41 ri (.agg #[.int .i64 0,.int .u32 0]) 2 16 Tryz.underlying23 hi1 hi2 hi3 hi4 rfl (by decide) v l.length (l.flatMap encR) hv ⟨g,0,none⟩ m.length cap (m.flatMap encR) (encR_len m)
   (fun j x hj=>by
    have hjl:j<m.length * 2:=by rw [← encR_len];exact (List.getElem?_eq_some_iff.1 hj).1
    obtain⟨r,hr⟩:∃ r,m[j / 2]?=some r:=⟨_,List.getElem?_eq_getElem (by omega)⟩
    obtain⟨a,b⟩:=hc _ r hr
    obtain⟨a',b'⟩:=encR_at hr
    have e0:(⟨g,0,none⟩:Addr).add j=⟨g,j,none⟩:=by unfold Addr.add;split <;> simp_all
    rw [e0,cell_block hg]
    by_cases e:j % 2=0
    ·have e2:j=j / 2 * 2:=by omega
     rw [e2] at hj ⊢
     rw [a];rw [a'] at hj;exact hj
    ·have e2:j=j / 2 * 2+1:=by omega
     rw [e2] at hj ⊢
     rw [b];rw [b'] at hj;exact hj)
   (fun u hu=>encR_one hu) (by simp [maxLen];omega) (by omega) hb
  refine⟨v',w',r1,?_,(grown_keeps r3).mono (fun k _ h=>h),r5⟩
  unfold Row
  rw [List.length_append,List.flatMap_append]
  exact r2
theorem wpList_append_refs {ops:Array Oper} {rest:List Oper} {o:Oper} {a:Act} {Q:Exit→Act→World→Prop} (w:World) (hgd:o.guard=none) (s x:Operand)
 (ho:o.op = .call { callee:=.builtin .append,args:=#[s,x],argTypes:=#[23,23] })
 (base:Nat) (v u:Value) (l m:List Rf) (hs:a.eval s=v) (hx:a.eval x=u) (hv:Row w base v l) (hu:Refs w u m) (h1:l.length+m.length≤1000000) (hb:base≤w.heap.size)
 (h:∀ v' w',Row w' base v' (l ++ m)→Keeps (fun k=>v.ownBlock=some k) w w'→(v'.ownBlock=v.ownBlock∨v'.ownBlock=some w.heap.size)→wpList Tryz.prog ops Q rest (a.put o.dst v') w'):
 wpList Tryz.prog ops Q (o :: rest) a w:=by
 refine wpList_plain hgd fun K hK=>?_
 obtain⟨v',w',hr,h2,h3,h4⟩:=run_append_refs o.type base v u l m w hv hu h1 hb
 unfold Oper.wp execOp
 simp only [ho,resolve,invoke,builtin,Sem.run_bind,Sem.run_pure,Result.andThen_ok,List.map_toArray,List.map_cons,List.map_nil,hs,hx,hr]
 exact hK _ _ (h v' w' h2 h3 h4)
end Go.Proofs.YtkpnmajocgcccaaGreat
namespace Go.Proofs.YtkpnmajocgcccaaGreat
set_option linter.unusedVariables false
theorem Ar.storeR_T (A:Ar) (m i f j:Int):(A.storeR m i f j).A.H.T=A.H.T:=by
 unfold Ar.storeR
 split
 ·rfl
 split
 ·rfl
 split
 ·rfl
 ·exact Hp.storeR_T _ _ _ _
theorem Ar.dropR_T (A:Ar) (m i:Int):(A.dropR m i).A.H.T=A.H.T:=by
 unfold Ar.dropR
 split
 ·rfl
 split <;> rfl
theorem Ar.putR_T (A:Ar) (m i k:Int):(A.putR m i k).A.H.T=A.H.T:=by
 unfold Ar.putR
 split
 ·rfl
 split <;> rfl
theorem Ar.pushR_T (A:Ar) (m:Nat) (v:Rf):(A.pushR m v).A.H.T=A.H.T:=by
 unfold Ar.pushR
 split <;> rfl
theorem Ar.getR_T (A:Ar) (m k:Int):(A.getR m k).A.H.T=A.H.T:=by
 unfold Ar.getR
 split
 ·rfl
 split
 ·rfl
 split
 ·rfl
 ·exact Ar.pushR_T _ _ _
theorem Ar.loadR_T (A:Ar) (m i f:Int):(A.loadR m i f).A.H.T=A.H.T:=by
 unfold Ar.loadR
 split
 ·rfl
 split
 ·rfl
 split
 ·rfl
 split
 ·rfl
 ·exact Ar.pushR_T _ _ _
theorem Mk.wroteR_off {M:Mk} (h:M.K.ph=5) (i:Int) (r q:Rf):(M.wroteR i r q).1=M:=by
 unfold Mk.wroteR
 split
 ·rfl
 split
 ·rfl
 split
 ·rename_i hb
  unfold Ck.bar at hb
  rw [if_neg (by omega)] at hb
  simp at hb
  omega
 ·rfl
structure Tame (s t:Sys):Prop where
 tb:∀ j,t.A.H.T.gn j=s.A.H.T.gn j∧(t.A.H.T.st j=s.A.H.T.st j∨(s.A.H.T.st j=0∧t.A.H.T.st j=1∧t.M.P.c j≠0))
 c:∀ j,t.M.P.c j=s.M.P.c j∨(s.A.H.T.st j=0∧t.M.P.c j=2)
theorem Tame.of {s t:Sys} (h1:t.A.H.T=s.A.H.T) (h2:t.M=s.M):Tame s t:=
 ⟨fun j=>by rw [h1];exact⟨rfl,.inl rfl⟩,fun j=>by rw [h2];exact .inl rfl⟩
theorem Tame.told {s:Sys} {R:Res} (h1:R.A.H.T=s.A.H.T) (hp:s.M.K.ph=5) (k:Int):Tame s (Sys.told R s k):=by
 refine Tame.of h1 ?_
 unfold Sys.told
 dsimp only
 split
 ·exact Mk.wroteR_off hp _ _ _
 ·rfl
theorem tame_make {s:Sys} (hok:s.Ok) (hp:s.M.K.ph=5) (m n:Int) (hd:Bool):Tame s ⟨(s.A.makeR m n hd).A,if (s.A.makeR m n hd).e=0 then (s.M.madeR (s.A.makeR m n hd).now).1 else s.M⟩:=by
 have same:∀ e:Int,e≠0→Tame s ⟨s.A,if e=0 then (s.M.madeR Rf.no).1 else s.M⟩:=fun e he=>by
  rw [if_neg he];exact Tame.of rfl rfl
 unfold Ar.makeR
 split
 ·exact same 3 (by decide)
 split
 ·exact same 2 (by decide)
 split
 ·exact same 4 (by decide)
 split
 ·exact same 4 (by decide)
 ·rename_i i g r hx
  obtain⟨h1,h2,h3⟩:=Tb.inn_mem (T:=s.A.H.T) (s:=0) (k:=s.A.H.T.n) (i:=i) (g:=g) (by rw [hx];simp)
  have hg:=(hok.a.tb i h3).1
  have hM:(s.M.madeR ⟨i,g⟩).1={ s.M with P:=s.M.P.born i }:=by
   unfold Mk.madeR
   rw [if_neg (by have:=hok.n;dsimp only;omega),if_pos (by omega)]
   show ({ s.M with P:=s.M.P.born (i:Int).toNat }:Mk)=_
   rw [Int.toNat_natCast]
  rw [if_pos rfl]
  show Tame s ⟨s.A.made m.toNat i g (Ob.new n hd),(s.M.madeR ⟨i,g⟩).1⟩
  rw [hM]
  have hb:∀ j,(s.M.P.born i).c j=s.M.P.c j∨(j=i∧(s.M.P.born i).c j=2):=fun j=>by
   unfold Pt.born
   split
   ·by_cases e:j=i
    ·subst e;exact .inr ⟨rfl,updf_same _ _ _⟩
    ·exact .inl (updf_ne _ _ e)
   ·exact .inl rfl
  have hbi:(s.M.P.born i).c i≠0:=by
   unfold Pt.born
   split
   ·show updf s.M.P.c i 2 i≠0;rw [updf_same];decide
   ·rename_i h0;exact h0
  refine⟨fun j=>⟨?_,?_⟩,fun j=>?_⟩
  ·show upd s.A.H.T.gn i g j=_
   unfold upd
   split
   ·rename_i e;rw [e,h2]
   ·rfl
  ·show upd s.A.H.T.st i 1 j=_∨_∧upd s.A.H.T.st i 1 j=1∧(s.M.P.born i).c j≠0
   unfold upd
   split
   ·rename_i e;right;rw [e];exact⟨h1,rfl,hbi⟩
   ·exact .inl rfl
  ·rcases hb j with h | ⟨e,h⟩
   ·exact .inl h
   ·right;rw [e];exact⟨h1,by rw [e] at h;exact h⟩
theorem Mv.tame (x:Mv) {s:Sys} (hok:s.Ok) (hp:s.M.K.ph=5) (ms:Nat):Tame s (x.doR s ms):=by
 unfold Mv.doR
 split
 ·exact tame_make hok hp _ _ _
 ·exact tame_make hok hp _ _ _
 ·exact Tame.told (Ar.storeR_T _ _ _ _ _) hp _
 ·exact Tame.told (Ar.storeR_T _ _ _ _ _) hp _
 ·exact Tame.of (Ar.dropR_T _ _ _) rfl
 ·exact Tame.told (Ar.putR_T _ _ _ _) hp _
 ·exact Tame.of (Ar.getR_T _ _ _) rfl
 ·exact Tame.of (Ar.loadR_T _ _ _ _) rfl
def Sys.un (s:Sys) (k:Nat):List Rf:=((s.A.H.T.inn 1 k).map rfOf).filter (fun r=>s.M.P.c r.s.toNat == 0)
def Sys.wh (s:Sys) (j:Nat):Prop:=s.A.H.T.st j=1∧s.M.P.c j=0
theorem Sys.un_yes {s:Sys} {k:Nat} (h:s.wh k):s.un (k+1)=s.un k ++ [⟨k,s.A.H.T.gn k⟩]:=by
 unfold Sys.un
 rw [Tb.inn_yes h.1,List.map_append,List.filter_append]
 congr 1
 have:(rfOf (k,s.A.H.T.gn k)).s.toNat=k:=Int.toNat_natCast k
 simp only [List.map_cons,List.map_nil,List.filter_cons,List.filter_nil,this,h.2]
 rfl
theorem Sys.un_no {s:Sys} {k:Nat} (h:¬ s.wh k):s.un (k+1)=s.un k:=by
 unfold Sys.un
 by_cases h1:s.A.H.T.st k=1
 ·have h2:s.M.P.c k≠0:=fun h2=>h ⟨h1,h2⟩
  rw [Tb.inn_yes h1,List.map_append,List.filter_append]
  have:(rfOf (k,s.A.H.T.gn k)).s.toNat=k:=Int.toNat_natCast k
  simp only [List.map_cons,List.map_nil,List.filter_cons,List.filter_nil,this]
  rw [show (s.M.P.c k == 0)=false by simpa using h2]
  simp
 ·rw [Tb.inn_no h1]
theorem Sys.un_mem {s:Sys} {k:Nat} {r:Rf} (h:r∈s.un k):∃ j:Nat,j<k∧s.wh j∧r=⟨j,s.A.H.T.gn j⟩:=by
 unfold Sys.un at h
 obtain⟨h1,h2⟩:=List.mem_filter.1 h
 obtain⟨⟨j,g⟩,h3,rfl⟩:=List.mem_map.1 h1
 obtain⟨h4,h5,h6⟩:=Tb.inn_mem h3
 have:(rfOf (j,g)).s.toNat=j:=Int.toNat_natCast j
 rw [this] at h2
 exact⟨j,h6,⟨h4,by simpa using h2⟩,by show (⟨j,g⟩:Rf)=_;rw [h5]⟩
structure Kp (s0:Sys) (n i:Nat) (s:Sys) (S:Sw) (freed:List Rf):Prop where
 ok:s.Ok
 safe:Safe s
 ph:s.M.K.ph=5
 nn:s.M.P.n=n
 S:S=⟨n,i,freed.length⟩
 fr:freed=s0.un i
 yet:∀ j,i≤j→s0.wh j→s.wh j∧s.A.H.T.gn j=s0.A.H.T.gn j
 all:∀ j,i≤j→s.wh j→s0.wh j
 gone:∀ j,j<i→s0.wh j→s.A.H.T.gn j≠s0.A.H.T.gn j∨s.A.H.T.st j=2
theorem Kp.zero {s:Sys} {n:Nat} (h1:s.Ok) (h2:Safe s) (h3:s.M.K.ph=5) (h4:s.M.P.n=n):Kp s n 0 s ⟨n,0,0⟩ []:=
 ⟨h1,h2,h3,h4,rfl,rfl,fun _ _ h=>⟨h,rfl⟩,fun _ _ h=>h,fun _ h=>absurd h (Nat.not_lt_zero _)⟩
theorem Kp.move {s0 s:Sys} {n i:Nat} {S:Sw} {fr:List Rf} (h:Kp s0 n i s S fr) (x:Mv) {ms:Nat} (h0:0<ms) (hms:ms≤s.A.many):Kp s0 n i (x.doR s ms) S fr:=by
 have t:=x.tame h.ok h.ph ms
 have nx:=Mv.next x h.ok ms
 refine⟨nx.ok,x.safe h.ok h.safe h0 hms,by rw [nx.K];exact h.ph,nx.n.trans h.nn,h.S,h.fr,fun j hj hw=>?_,fun j hj hw=>?_,fun j hj hw=>?_⟩
 ·obtain⟨⟨h1,h2⟩,h3⟩:=h.yet j hj hw
  obtain⟨t1,t2⟩:=t.tb j
  refine⟨⟨?_,?_⟩,t1.trans h3⟩
  ·rcases t2 with t2 | t2
   ·rw [t2];exact h1
   ·exact t2.2.1
  ·rcases t.c j with t3 | t3
   ·rw [t3];exact h2
   ·have:=t3.1.symm.trans h1;cases this
 ·obtain⟨h1,h2⟩:=hw
  obtain⟨t1,t2⟩:=t.tb j
  refine h.all j hj ⟨?_,?_⟩
  ·rcases t2 with t2 | t2
   ·rw [← t2];exact h1
   ·exact absurd h2 t2.2.2
  ·rcases t.c j with t3 | t3
   ·rw [← t3];exact h2
   ·have:=t3.2.symm.trans h2;cases this
 ·obtain⟨t1,t2⟩:=t.tb j
  rcases h.gone j hj hw with h1 | h1
  ·left;rw [t1];exact h1
  ·right
   rcases t2 with t2 | t2
   ·rw [t2];exact h1
   ·have:=t2.1.symm.trans h1;cases this
theorem tk_give {T:Tb} {i:Nat} (hi:T.st i=1):(T.give i).tk=T.tk.filter (fun r=>!decide (r=⟨i,T.gn i⟩)):=by
 have hn:(T.give i).n=T.n:=Tb.give_n T i
 have hst:∀ j,(T.give i).st j=if j=i then (if T.gn i<4294967295 then 0 else 2) else T.st j:=fun j=>by
  unfold Tb.give
  split
  ·rfl
  ·rfl
 have hgn:∀ j,j≠i→(T.give i).gn j=T.gn j:=fun j hj=>by
  unfold Tb.give
  split
  ·exact if_neg hj
  ·exact if_neg hj
 unfold Tb.tk
 rw [hn]
 induction T.n with
 | zero=>rfl
 | succ k ih=>
  by_cases e:k=i
  ·subst e
   rw [Tb.inn_no (T:=T.give k) (by rw [hst,if_pos rfl];split <;> decide),Tb.inn_yes hi,ih,List.map_append,List.filter_append]
   simp [rfOf]
  ·by_cases h1:T.st k=1
   ·rw [Tb.inn_yes (T:=T.give i) (by rw [hst,if_neg e];exact h1),Tb.inn_yes h1,List.map_append,List.map_append,List.filter_append,ih,hgn k e]
    congr 1
    have:¬ ((k:Int)=i):=by omega
    simp [rfOf,this]
   ·rw [Tb.inn_no (T:=T.give i) (by rw [hst,if_neg e];exact h1),Tb.inn_no h1,ih]
theorem Kp.step {s0 s:Sys} {n i:Nat} {S:Sw} {fr:List Rf} (h:Kp s0 n i s S fr) (hi:i<n):
 Kp s0 n (i+1) (S.stepR s).s (S.stepR s).S (if (S.stepR s).is=true then fr ++ [(S.stepR s).r] else fr)∧((S.stepR s).is=true→(S.stepR s).r.nz=true)∧((S.stepR s).is=false→(S.stepR s).r = .no)
  ∧(S.stepR s).s.A.H.T.tk=(if (S.stepR s).is=true then s.A.H.T.tk.filter (fun r=>!decide (r=(S.stepR s).r)) else s.A.H.T.tk)∧(S.stepR s).S.n=fr.length+(if (S.stepR s).is=true then 1 else 0)∧(S.stepR s).s.A.many=s.A.many∧(S.stepR s).s.M.K=s.M.K∧((S.stepR s).is=true→(S.stepR s).r∈s.A.H.T.tk):=by
 have hnn:=h.nn
 have hin:i<s.A.H.T.n:=by rw [h.ok.n];omega
 have hS:=h.S
 by_cases hw:s.wh i
 ·obtain⟨w1,w2⟩:=id hw
  have e:S.stepR s=⟨⟨n,i+1,fr.length+1⟩,s.free i,⟨i,s.A.H.T.gn i⟩,true⟩:=by
   rw [hS];unfold Sw.stepR;rw [if_neg (by rintro (h | h);exact h w2;exact h w1)]
  rw [e]
  have hck:ckV s.A.H.T (i:Int) (s.A.H.T.gn i)=0:=ckV_tk hin w1
  have hfr:(s.free i).A.H=s.A.H.free i:=by
   show (s.A.H.freeR ⟨i,s.A.H.T.gn i⟩).1=_
   unfold Hp.freeR
   rw [if_neg (by show ¬ ckV s.A.H.T (i:Int) (s.A.H.T.gn i)≠0;rw [hck];exact fun h=>h rfl)]
   show s.A.H.free (i:Int).toNat=_
   rw [Int.toNat_natCast]
  have hst:∀ j,(s.free i).A.H.T.st j=if j=i then (if s.A.H.T.gn i<4294967295 then 0 else 2) else s.A.H.T.st j:=fun j=>by
   rw [hfr];show (s.A.H.T.give i).st j=_
   unfold Tb.give
   split <;> rfl
  have hgn:∀ j,(s.free i).A.H.T.gn j=if j=i then (if s.A.H.T.gn i<4294967295 then s.A.H.T.gn i+1 else s.A.H.T.gn i) else s.A.H.T.gn j:=fun j=>by
   rw [hfr];show (s.A.H.T.give i).gn j=_
   unfold Tb.give
   split <;> rfl
  have hM:=Sys.free_M (s:=s) (i:=i) (by omega)
  have hMe:(s.free i).M=s.M:=by
   rw [hM]
   have:s.M.P.put i 0=s.M.P:=by
    unfold Pt.put
    have:updf s.M.P.c i 0=s.M.P.c:=by
     funext j
     by_cases ej:j=i
     ·subst ej;rw [updf_same,w2]
     ·rw [updf_ne _ _ ej]
    rw [this]
   rw [this]
  have w0:=h.all i (Nat.le_refl _) hw
  obtain⟨_,w0g⟩:=h.yet i (Nat.le_refl _) w0
  have hsf:Safe (s.free i):=by
   have:=(safe_free (A':=(s.free i).A) h.safe (by have:=h.ph;omega) w2 (Ar.freeR_n _ _).2 rfl rfl (fun j hj=>by rw [hfr];exact updf_ne _ _ hj) (by rw [hfr];exact Tb.give_n _ _) (fun j hj=>by rw [hst,if_neg hj]) (fun j hj=>by rw [hgn,if_neg hj]) (by rw [hst,if_pos rfl];split <;> decide)).1
   have e2:s.free i=⟨(s.free i).A,s.M⟩:=by
    conv=>lhs;rw [show s.free i=⟨(s.free i).A,(s.free i).M⟩ from rfl,hMe]
   rw [e2];exact this
  refine⟨⟨h.ok.free (by omega) w2,hsf,by rw [hMe];exact h.ph,by rw [hMe];exact hnn,by simp,?_,fun j hj hw0=>?_,fun j hj hwj=>?_,fun j hj hw0=>?_⟩,fun _=>?_,fun hx=>by simp at hx,?_,by simp,(Ar.freeR_n _ _).2,by rw [hMe],fun _=>tk_mem hin w1⟩
  ·rw [if_pos rfl,Sys.un_yes w0,← h.fr,w0g]
  ·obtain⟨⟨y1,y2⟩,y3⟩:=h.yet j (by omega) hw0
   refine⟨⟨?_,by rw [hMe];exact y2⟩,?_⟩
   ·rw [hst,if_neg (by omega)];exact y1
   ·rw [hgn,if_neg (by omega)];exact y3
  ·obtain⟨y1,y2⟩:=hwj
   rw [hst,if_neg (by omega)] at y1
   rw [hMe] at y2
   exact h.all j (by omega) ⟨y1,y2⟩
  ·by_cases ej:j=i
   ·subst ej
    rw [hgn,hst,if_pos rfl,if_pos rfl]
    split
    ·left;omega
    ·exact .inr rfl
   ·rw [hgn,hst,if_neg ej,if_neg ej]
    exact h.gone j (by omega) hw0
  ·simp only [Rf.nz,Bool.not_eq_true',Bool.and_eq_false_iff,beq_eq_false_iff_ne]
   right
   have:=(h.ok.a.tb i hin).1
   omega
  ·rw [if_pos rfl,hfr]
   exact tk_give w1
 ·have e:S.stepR s=⟨⟨n,i+1,fr.length⟩,s,.no,false⟩:=by
   rw [hS];unfold Sw.stepR
   rw [if_pos (by
    by_cases h1:s.A.H.T.st i=1
    ·exact .inl (fun h2=>hw ⟨h1,h2⟩)
    ·exact .inr h1)]
  rw [e]
  have w0:¬ s0.wh i:=fun h0=>hw (h.yet i (Nat.le_refl _) h0).1
  refine⟨⟨h.ok,h.safe,h.ph,hnn,rfl,?_,fun j hj=>h.yet j (by omega),fun j hj=>h.all j (by omega),fun j hj hw0=>?_⟩,fun hx=>by simp at hx,fun _=>rfl,rfl,rfl,rfl,rfl,fun hx=>by simp at hx⟩
  ·rw [if_neg (fun h=>by cases h),Sys.un_no w0];exact h.fr
  ·have:j≠i:=fun e=>w0 (e ▸ hw0)
   exact h.gone j (by omega) hw0
theorem Kp.done {s0 s:Sys} {n:Nat} {S:Sw} {fr:List Rf} (h:Kp s0 n n s S fr) {r:Rf} (hr:r∈s.A.H.T.tk):r ∉ s0.un n:=by
 intro hu
 obtain⟨j,h1,h2,rfl⟩:=Sys.un_mem hu
 obtain⟨i,e1,e2,e3,e4⟩:=tk_of hr
 dsimp only at e1 e4
 have:j=i:=by omega
 subst this
 rcases h.gone j h1 h2 with h3 | h3
 ·exact h3 e4
 ·rw [e3] at h3;cases h3
end Go.Proofs.YtkpnmajocgcccaaGreat
namespace Go.Proofs.YtkpnmajocgcccaaGreat
open Go.RowKit
set_option linter.unusedVariables false
set_option linter.unusedSimpArgs false
def NMap (w:World) (b n:Nat):Prop:=∃ D,w.ownsMap (H:=Unit) Tryz.prog 41 (plainElem Tryz.prog 3) b n D
theorem NMap.keeps {w w':World} {b n:Nat} {S:Nat→Prop} (h:NMap w b n) (hk:Keeps S w w') (hS:¬ S b):NMap w' b n:=by
 obtain⟨D,es,clock,h1,h2⟩:=h
 exact⟨D,es,clock,block_keep h1 hk hS,h2⟩
theorem NMap.made (w:World):NMap (w.alloc (.map #[] 0)) w.heap.size 0:=⟨_,World.ownsMap_made _ _ _ _⟩
def Gath (A:Ar) (l:List Rf):Prop:=∀ r∈l,Rch A r
theorem Gath.append {A:Ar} {l m:List Rf} (h:Gath A l) (k:Gath A m):Gath A (l ++ m):=by
 intro r hr
 rcases List.mem_append.1 hr with hr | hr
 ·exact h r hr
 ·exact k r hr
end Go.Proofs.YtkpnmajocgcccaaGreat
namespace Go.Proofs.YtkpnmajocgcccaaGreat
open Go.RowKit
set_option linter.unusedVariables false
set_option linter.unusedSimpArgs false
theorem Rf.Ok.key {r:Rf} (h:r.Ok):∃ kl,keyOf Tryz.prog 41 (.agg #[.int .i64 r.s,.int .u32 r.g])=some kl:=by
 obtain⟨h0,h1,h2,h3⟩:=h
 have e1:IntKind.i64.min=-9223372036854775808:=by decide
 have e2:IntKind.i64.max=9223372036854775807:=by decide
 have e3:IntKind.u32.min=0:=by decide
 have e4:IntKind.u32.max=4294967295:=by decide
 exact ref_key (by simp [Lit.wf,e1,e2];omega) (by simp [Lit.wf,e3,e4];omega)
theorem refs_one {w:World} {b:Nat} {x:Rf} (h:w.heap[b]?=some (.cells #[.int .i64 x.s,.int .u32 x.g] 41)):Refs w (.slice (some ⟨b,0,none⟩) 1 1) [x]:=
 .inr ⟨b,1,_,rfl,h,fun j r hj=>by
  match j,hj with
  | 0,hj=>obtain rfl:x=r:=Option.some.inj hj;exact⟨rfl,rfl⟩⟩
end Go.Proofs.YtkpnmajocgcccaaGreat
namespace Go.Proofs.YtkpnmajocgcccaaGreat
open Go.RowKit
set_option linter.unusedVariables false
theorem rindexv (v:Value) (l:List Rf) (x:Rf) (w:World) (hv:Refs w v l) (hb:l.length≤65536):
 Calls Tryz.prog 88 #[v,.agg #[.int .i64 x.s,.int .u32 x.g]] w fun e w'=>∃ k:Int,e = .returned (.int .i64 k)∧decide (0≤k)=decide (x∈l)∧Keeps (fun _=>False) w w':=by
 obtain⟨p,c,rfl⟩:=hv.slice
 have HV:=hid (fun W (hk:Keeps (fun _=>False) w W)=>(hv.keeps hk (fun _ _ h=>h)).cell.2)
 obtain⟨n,hn⟩:∃ n,l.length=n:=⟨_,rfl⟩
 rw [hn] at hb ⊢
 have HQ:=hid (fun W (hk:Keeps (fun _=>False) (w.alloc (.cells #[.int .i64 x.s,.int .u32 x.g] 41)) W)=>cells2 (block_keep (alloc_new (w:=w)) hk (fun h=>h)))
 clear hv
 go_enter Tryz.func88,Tryz.ntmps88
 go_wp2_with fail
 obtain⟨w1,hw1⟩:∃ w1,w.alloc (.cells #[.int .i64 x.s,.int .u32 x.g] 41)=w1:=⟨_,rfl⟩
 have hk1:Keeps (fun _=>False) w w1:=by rw [← hw1];exact (Keeps.refl _ _).alloc _
 rw [hw1] at HQ ⊢
 have HK1:=hid hk1
 clear hw1 hk1
 go_loopw [8] (fun ix wr=>∃ k:Nat,k≤n∧ix = .int .i64 k∧x ∉ l.take k∧Keeps (fun _=>False) w1 wr) (fun ix _=>n - (intOf ix).toNat)
 case atStart=>exact⟨0,Nat.zero_le _,rfl,by simp,Keeps.refl _ _⟩
 case round=>
  obtain⟨k,hk,rfl,hno,hkr⟩:=hrel
  have HKR:=hid hkr;have HNO:=hid hno
  by_cases hlt:k<n
  ·obtain⟨y,hy⟩:∃ y,l[k]?=some y:=⟨_,List.getElem?_eq_getElem (by omega)⟩
   obtain⟨g,rfl,hg,c0,c1⟩:=HV.out wr (HK1.out.trans hkr) k y hy
   obtain⟨b0,b1,_,bl⟩:=HQ.out wr hkr
   have hlt':(k:Int)<(n:Int):=by omega
   have hk0:(0:Int)≤k:=by omega
   have HY:=hid hy
   have heql:=fun W=>eql_ref W x.s x.g y.s y.g
   simp only [Rf.eq_iff] at heql
   clear hkr hy hno
   by_cases hxy:x=y
   ·rw [decide_eq_true hxy] at heql
    have HD:=hid (show decide (x∈l)=true from decide_eq_true (by rw [hxy];exact List.mem_of_getElem? HY.out))
    clear hxy
    go_wp2_with fail
    go_quiet (fail)
    go_wp2_with fail
    go_ret
    exact⟨k,rfl,by rw [HD.out];simp,HK1.out.trans (HKR.out.drewN _)⟩
   ·rw [decide_eq_false hxy] at heql
    have HXY:=hid hxy
    clear hxy
    go_wp2_with fail
    go_quiet (fail)
    go_wp2_with fail
    refine⟨⟨k+1,by omega,by go_num,?_,HKR.out.drewN _⟩,by simp [intOf];omega⟩
    intro hm
    rw [List.take_add_one,HY.out] at hm
    rcases List.mem_append.1 hm with hm | hm
    ·exact HNO.out hm
    ·simp at hm;exact HXY.out hm
  ·have hlt':¬ (k:Int)<(n:Int):=by omega
   have HD:=hid (show decide (x∈l)=false from decide_eq_false (fun h=>hno (by rw [List.take_of_length_le (by omega)];exact h)))
   clear hkr hno
   go_wp2_with fail
   go_ret
   exact⟨-1,rfl,⟨fun h=>absurd h (by decide),fun h=>absurd h (of_decide_eq_false HD.out)⟩,HK1.out.trans HKR.out⟩
theorem rcontains (v:Value) (l:List Rf) (x:Rf) (w:World) (hv:Refs w v l) (hb:l.length≤65536):
 Calls Tryz.prog 42 #[v,.agg #[.int .i64 x.s,.int .u32 x.g]] w fun e w'=>e = .returned (.bool (decide (x∈l)))∧Keeps (fun _=>False) w w':=by
 have HI:=hid (rindexv v l x _ (hv.keeps ((Keeps.refl (fun _=>False) w).alloc (.cells #[.int .i64 x.s,.int .u32 x.g] 41)) (fun _ _ h=>h)) hb)
 clear hv
 go_enter Tryz.func42,Tryz.ntmps42
 go_wp2_with fail
 refine HI.out.mono ?_
 rintro e w1 ⟨k,rfl,hd,hk⟩
 have HD:=hid hd;have HK:=hid (((Keeps.refl (fun _=>False) w).alloc _).trans hk)
 clear hd hk
 go_wp2_with fail
 go_ret
 exact⟨ret_bool HD.out,HK.out⟩
end Go.Proofs.YtkpnmajocgcccaaGreat
namespace Go.Proofs.YtkpnmajocgcccaaGreat
open Go.RowKit
set_option linter.unusedVariables false
end Go.Proofs.YtkpnmajocgcccaaGreat
