import Derived.Test.YtnlkfbndlngjaaaGreatNgE
import Derived.Maps.OwnOps
import Derived.DeepKeys4
import Derived.Maps.AppendAt
set_option maxRecDepth 100000
namespace Go.Proofs.YtnlkfbndlngjaaaGreat
open Go.RowKit
set_option linter.unusedVariables false
set_option linter.unusedSimpArgs false
theorem Refs.cell {w:World} {a:Option Addr} {n c:Nat} {l:List Rf} (h:Refs w (.slice a n c) l):n=l.length∧∀ (j:Nat) (r:Rf),l[j]?=some r→∃ g,a=some ⟨g,0,none⟩∧g<w.heap.size∧w.cell? ⟨g,j * 2,none⟩=some (.int .i64 r.s)∧w.cell? ⟨g,j * 2+1,none⟩=some (.int .u32 r.g):=by
 rcases h with⟨e,rfl⟩ | ⟨g,cap,cur,e,hg,hc⟩
 ·injection e with e1 e2 e3
  exact⟨e2,fun j r hj=>by cases hj⟩
 ·injection e with e1 e2 e3
  exact⟨e2,fun j r hj=>⟨g,e1,lt_block hg,cell_at hg (hc j r hj).1,cell_at hg (hc j r hj).2⟩⟩
theorem Refs.slice {w:World} {v:Value} {l:List Rf} (h:Refs w v l):∃ a c,v = .slice a l.length c:=by
 rcases h with⟨rfl,rfl⟩ | ⟨g,cap,cur,rfl,hg,hc⟩
 ·exact⟨_,_,rfl⟩
 ·exact⟨_,_,rfl⟩
theorem Rf.eq_iff {x y:Rf}:(x.s == y.s && x.g == y.g)=decide (x=y):=by
 obtain⟨a,b⟩:=x;obtain⟨c,d⟩:=y
 rw [Bool.eq_iff_iff]
 simp
theorem requal (v1 v2:Value) (l1 l2:List Rf) (w:World) (h1:Refs w v1 l1) (h2:Refs w v2 l2) (hb:l1.length≤65536):
 Calls Tryz.prog 17 #[v1,v2] w fun e w'=>e = .returned (.bool (decide (l1=l2)))∧Keeps (fun _=>False) w w':=by
 obtain⟨a1,c1,rfl⟩:=h1.slice
 obtain⟨a2,c2,rfl⟩:=h2.slice
 have H1:=hid (fun W (hk:Keeps (fun _=>False) w W)=>(h1.keeps hk (fun _ _ h=>h)).cell.2)
 have H2:=hid (fun W (hk:Keeps (fun _=>False) w W)=>(h2.keeps hk (fun _ _ h=>h)).cell.2)
 clear h1 h2
 by_cases hl:l1.length=l2.length
 ·obtain⟨n,hn⟩:∃ n,l1.length=n:=⟨_,rfl⟩
  have hn2:l2.length=n:=hl.symm.trans hn
  rw [hn,hn2]
  rw [hn] at hb
  clear hl
  go_enter Tryz.func17,Tryz.ntmps17
  go_wp2_with fail
  go_loopw [13] (fun ix wr=>∃ k:Nat,k≤n∧ix = .int .i64 k∧l1.take k=l2.take k∧Keeps (fun _=>False) w wr) (fun ix _=>n - (intOf ix).toNat)
  case atStart=>exact⟨0,Nat.zero_le _,rfl,rfl,Keeps.refl _ _⟩
  case round=>
   obtain⟨k,hk,rfl,he,hkr⟩:=hrel
   have HKR:=hid hkr;have HE:=hid he
   by_cases hlt:k<n
   ·obtain⟨x,hx⟩:∃ x,l1[k]?=some x:=⟨_,List.getElem?_eq_getElem (by omega)⟩
    obtain⟨y,hy⟩:∃ y,l2[k]?=some y:=⟨_,List.getElem?_eq_getElem (by omega)⟩
    obtain⟨g1,rfl,b1,p0,p1⟩:=H1.out wr hkr k x hx
    obtain⟨g2,rfl,b2,q0,q1⟩:=H2.out wr hkr k y hy
    have hlt':(k:Int)<(n:Int):=by omega
    have hk0:(0:Int)≤k:=by omega
    have HX:=hid hx;have HY:=hid hy
    have hneq:=fun w=>neq_ref w x.s x.g y.s y.g
    simp only [Rf.eq_iff] at hneq
    clear hkr he hx hy
    by_cases hxy:x=y
    ·rw [decide_eq_true hxy] at hneq
     have HXY:=hid hxy
     clear hxy
     go_wp2_with fail
     go_quiet (fail)
     go_wp2_with fail
     refine⟨⟨k+1,by omega,by go_num,?_,(HKR.out.drewN _)⟩,by simp [intOf];omega⟩
     rw [List.take_add_one,List.take_add_one,HE.out,HX.out,HY.out,HXY.out]
    ·rw [decide_eq_false hxy] at hneq
     have hd:decide (l1=l2)=false:=decide_eq_false (fun h=>hxy (by have h1:=HX.out;rw [h,HY.out] at h1;exact (Option.some.inj h1).symm))
     have HD:=hid hd
     clear hxy hd
     go_wp2_with fail
     go_quiet (fail)
     go_wp2_with fail
     go_ret
     exact⟨ret_bool HD.out.symm,HKR.out.drewN _⟩
   ·have hlt':¬ (k:Int)<(n:Int):=by omega
    have hall:l1=l2:=by
     rw [← List.take_of_length_le (l:=l1) (i:=k) (by omega),← List.take_of_length_le (l:=l2) (i:=k) (by omega)];exact he
    have HALL:=hid hall
    clear hkr he hall
    go_wp2_with fail
    go_ret
    exact⟨ret_bool (by simp [HALL.out]),HKR.out⟩
 ·have hd:decide (l1=l2)=false:=decide_eq_false (fun h=>hl (by rw [h]))
  have hl':((l1.length:Int) == l2.length)=false:=by simpa using (by omega:¬ (l1.length:Int)=l2.length)
  rw [hd]
  clear hl
  go_enter Tryz.func17,Tryz.ntmps17
  go_wp2_with fail
  go_ret
  exact⟨rfl,Keeps.refl _ _⟩
end Go.Proofs.YtnlkfbndlngjaaaGreat
namespace Go.Proofs.YtnlkfbndlngjaaaGreat
open Go.RowKit
open Go.Maps (Keyed)
theorem ref_row:(34:TypeId)<Tryz.prog.types.size:=of_decide_eq_true (by kernel_rfl)
theorem ref_cells:Tryz.prog.cellsOf 34=2:=by kernel_rfl
theorem ref_formed {c0 c1:Value}:(Value.agg #[c0,c1]).formed Tryz.prog 34=true:=by simp [Value.formed,Tryz.underlying34,ref_cells]
theorem ref_keytype:Tryz.prog.keyType 34=true:=by kernel_rfl
theorem size_pos {P:Program} {k:TypeId} (h:k<P.types.size):∃ d,P.types.size=d+1:=⟨_,(Nat.sub_add_cancel (Nat.lt_of_le_of_lt (Nat.zero_le _) h)).symm⟩
theorem keyLits_int {P:Program} {t:TypeId} {q:IntKind} (h:P.underlying t=some (.int q)) (d:Nat) {n:Int} (hw:(Lit.int q n).wf=true):P.keyLits (d+1) t [.int q n]=some [.int q n]:=by
 simp [Program.keyLits,h,hw]
theorem ref_key {s g:Int} (hs:(Lit.int .i64 s).wf=true) (hg:(Lit.int .u32 g).wf=true):∃ kl,keyOf Tryz.prog 34 (.agg #[.int .i64 s,.int .u32 g])=some kl:=by
 have h1:Tryz.prog.cellsOf 3=1:=by kernel_rfl
 have h2:Tryz.prog.cellsOf 32=1:=by kernel_rfl
 obtain⟨d,hd⟩:∃ d,Tryz.prog.types.size=d+1:=size_pos ref_row
 have k1:=fun d=>keyLits_int (P:=Tryz.prog) Tryz.underlying3 d hs
 have k2:=fun d=>keyLits_int (P:=Tryz.prog) Tryz.underlying32 d hg
 apply Option.isSome_iff_exists.1
 unfold keyOf
 rw [Tryz.underlying34]
 simp only [ref_keytype,ref_formed,Bool.and_self,if_true]
 rw [hd]
 unfold Program.keyLits
 rw [Tryz.underlying34]
 simp [Value.cells,ref_cells,h1,h2,k1,k2]
end Go.Proofs.YtnlkfbndlngjaaaGreat
namespace Go.Proofs.YtnlkfbndlngjaaaGreat
open Go.RowKit
set_option linter.unusedVariables false
set_option linter.unusedSimpArgs false
end Go.Proofs.YtnlkfbndlngjaaaGreat
namespace Go.Proofs.YtnlkfbndlngjaaaGreat
open Go.RowKit
end Go.Proofs.YtnlkfbndlngjaaaGreat
namespace Go.Proofs.YtnlkfbndlngjaaaGreat
set_option linter.unusedVariables false
theorem Ar.storeR_T (A:Ar) (m i f j:Int):(A.storeR m i f j).A.H.T=A.H.T:=by
 unfold Ar.storeR
 split
 ·rfl
 split
 ·rfl
 split
 ·rfl
 ·exact Hp.storeR_T _ _ _ _
theorem Ar.dropR_T (A:Ar) (m i:Int):(A.dropR m i).A.H.T=A.H.T:=by
 unfold Ar.dropR
 split
 ·rfl
 split <;> rfl
theorem Ar.putR_T (A:Ar) (m i k:Int):(A.putR m i k).A.H.T=A.H.T:=by
 unfold Ar.putR
 split
 ·rfl
 split <;> rfl
theorem Ar.pushR_T (A:Ar) (m:Nat) (v:Rf):(A.pushR m v).A.H.T=A.H.T:=by
 unfold Ar.pushR
 split <;> rfl
theorem Ar.getR_T (A:Ar) (m k:Int):(A.getR m k).A.H.T=A.H.T:=by
 unfold Ar.getR
 split
 ·rfl
 split
 ·rfl
 split
 ·rfl
 ·exact Ar.pushR_T _ _ _
theorem Ar.loadR_T (A:Ar) (m i f:Int):(A.loadR m i f).A.H.T=A.H.T:=by
 unfold Ar.loadR
 split
 ·rfl
 split
 ·rfl
 split
 ·rfl
 split
 ·rfl
 ·exact Ar.pushR_T _ _ _
theorem Mk.wroteR_off {M:Mk} (h:M.K.ph=5) (i:Int) (r q:Rf):(M.wroteR i r q).1=M:=by
 unfold Mk.wroteR
 split
 ·rfl
 split
 ·rfl
 split
 ·rename_i hb
  unfold Ck.bar at hb
  rw [if_neg (by omega)] at hb
  simp at hb
  omega
 ·rfl
structure Tame (s t:Sys):Prop where
 tb:∀ j,t.A.H.T.gn j=s.A.H.T.gn j∧(t.A.H.T.st j=s.A.H.T.st j∨(s.A.H.T.st j=0∧t.A.H.T.st j=1∧t.M.P.c j≠0))
 c:∀ j,t.M.P.c j=s.M.P.c j∨(s.A.H.T.st j=0∧t.M.P.c j=2)
theorem Tame.of {s t:Sys} (h1:t.A.H.T=s.A.H.T) (h2:t.M=s.M):Tame s t:=
 ⟨fun j=>by rw [h1];exact⟨rfl,.inl rfl⟩,fun j=>by rw [h2];exact .inl rfl⟩
theorem Tame.told {s:Sys} {R:Res} (h1:R.A.H.T=s.A.H.T) (hp:s.M.K.ph=5) (k:Int):Tame s (Sys.told R s k):=by
 refine Tame.of h1 ?_
 unfold Sys.told
 dsimp only
 split
 ·exact Mk.wroteR_off hp _ _ _
 ·rfl
theorem tame_make {s:Sys} (hok:s.Ok) (hp:s.M.K.ph=5) (m n:Int) (hd:Bool):Tame s ⟨(s.A.makeR m n hd).A,if (s.A.makeR m n hd).e=0 then (s.M.madeR (s.A.makeR m n hd).now).1 else s.M⟩:=by
 have same:∀ e:Int,e≠0→Tame s ⟨s.A,if e=0 then (s.M.madeR Rf.no).1 else s.M⟩:=fun e he=>by
  rw [if_neg he];exact Tame.of rfl rfl
 unfold Ar.makeR
 split
 ·exact same 3 (by decide)
 split
 ·exact same 2 (by decide)
 split
 ·exact same 4 (by decide)
 split
 ·exact same 4 (by decide)
 ·rename_i i g r hx
  obtain⟨h1,h2,h3⟩:=Tb.inn_mem (T:=s.A.H.T) (s:=0) (k:=s.A.H.T.n) (i:=i) (g:=g) (by rw [hx];simp)
  have hg:=(hok.a.tb i h3).1
  have hM:(s.M.madeR ⟨i,g⟩).1={ s.M with P:=s.M.P.born i }:=by
   unfold Mk.madeR
   rw [if_neg (by have:=hok.n;dsimp only;omega),if_pos (by omega)]
   show ({ s.M with P:=s.M.P.born (i:Int).toNat }:Mk)=_
   rw [Int.toNat_natCast]
  rw [if_pos rfl]
  show Tame s ⟨s.A.made m.toNat i g (Ob.new n hd),(s.M.madeR ⟨i,g⟩).1⟩
  rw [hM]
  have hb:∀ j,(s.M.P.born i).c j=s.M.P.c j∨(j=i∧(s.M.P.born i).c j=2):=fun j=>by
   unfold Pt.born
   split
   ·by_cases e:j=i
    ·subst e;exact .inr ⟨rfl,updf_same _ _ _⟩
    ·exact .inl (updf_ne _ _ e)
   ·exact .inl rfl
  have hbi:(s.M.P.born i).c i≠0:=by
   unfold Pt.born
   split
   ·show updf s.M.P.c i 2 i≠0;rw [updf_same];decide
   ·rename_i h0;exact h0
  refine⟨fun j=>⟨?_,?_⟩,fun j=>?_⟩
  ·show upd s.A.H.T.gn i g j=_
   unfold upd
   split
   ·rename_i e;rw [e,h2]
   ·rfl
  ·show upd s.A.H.T.st i 1 j=_∨_∧upd s.A.H.T.st i 1 j=1∧(s.M.P.born i).c j≠0
   unfold upd
   split
   ·rename_i e;right;rw [e];exact⟨h1,rfl,hbi⟩
   ·exact .inl rfl
  ·rcases hb j with h | ⟨e,h⟩
   ·exact .inl h
   ·right;rw [e];exact⟨h1,by rw [e] at h;exact h⟩
theorem Mv.tame (x:Mv) {s:Sys} (hok:s.Ok) (hp:s.M.K.ph=5) (ms:Nat):Tame s (x.doR s ms):=by
 unfold Mv.doR
 split
 ·exact tame_make hok hp _ _ _
 ·exact tame_make hok hp _ _ _
 ·exact Tame.told (Ar.storeR_T _ _ _ _ _) hp _
 ·exact Tame.told (Ar.storeR_T _ _ _ _ _) hp _
 ·exact Tame.of (Ar.dropR_T _ _ _) rfl
 ·exact Tame.told (Ar.putR_T _ _ _ _) hp _
 ·exact Tame.of (Ar.getR_T _ _ _) rfl
 ·exact Tame.of (Ar.loadR_T _ _ _ _) rfl
def Sys.un (s:Sys) (k:Nat):List Rf:=((s.A.H.T.inn 1 k).map rfOf).filter (fun r=>s.M.P.c r.s.toNat == 0)
def Sys.wh (s:Sys) (j:Nat):Prop:=s.A.H.T.st j=1∧s.M.P.c j=0
theorem Sys.un_yes {s:Sys} {k:Nat} (h:s.wh k):s.un (k+1)=s.un k ++ [⟨k,s.A.H.T.gn k⟩]:=by
 unfold Sys.un
 rw [Tb.inn_yes h.1,List.map_append,List.filter_append]
 congr 1
 have:(rfOf (k,s.A.H.T.gn k)).s.toNat=k:=Int.toNat_natCast k
 simp only [List.map_cons,List.map_nil,List.filter_cons,List.filter_nil,this,h.2]
 rfl
theorem Sys.un_no {s:Sys} {k:Nat} (h:¬ s.wh k):s.un (k+1)=s.un k:=by
 unfold Sys.un
 by_cases h1:s.A.H.T.st k=1
 ·have h2:s.M.P.c k≠0:=fun h2=>h ⟨h1,h2⟩
  rw [Tb.inn_yes h1,List.map_append,List.filter_append]
  have:(rfOf (k,s.A.H.T.gn k)).s.toNat=k:=Int.toNat_natCast k
  simp only [List.map_cons,List.map_nil,List.filter_cons,List.filter_nil,this]
  rw [show (s.M.P.c k == 0)=false by simpa using h2]
  simp
 ·rw [Tb.inn_no h1]
theorem Sys.un_mem {s:Sys} {k:Nat} {r:Rf} (h:r∈s.un k):∃ j:Nat,j<k∧s.wh j∧r=⟨j,s.A.H.T.gn j⟩:=by
 unfold Sys.un at h
 obtain⟨h1,h2⟩:=List.mem_filter.1 h
 obtain⟨⟨j,g⟩,h3,rfl⟩:=List.mem_map.1 h1
 obtain⟨h4,h5,h6⟩:=Tb.inn_mem h3
 have:(rfOf (j,g)).s.toNat=j:=Int.toNat_natCast j
 rw [this] at h2
 exact⟨j,h6,⟨h4,by simpa using h2⟩,by show (⟨j,g⟩:Rf)=_;rw [h5]⟩
structure Kp (s0:Sys) (n i:Nat) (s:Sys) (S:Sw) (freed:List Rf):Prop where
 ok:s.Ok
 safe:Safe s
 ph:s.M.K.ph=5
 nn:s.M.P.n=n
 S:S=⟨n,i,freed.length⟩
 fr:freed=s0.un i
 yet:∀ j,i≤j→s0.wh j→s.wh j∧s.A.H.T.gn j=s0.A.H.T.gn j
 all:∀ j,i≤j→s.wh j→s0.wh j
 gone:∀ j,j<i→s0.wh j→s.A.H.T.gn j≠s0.A.H.T.gn j∨s.A.H.T.st j=2
theorem Kp.zero {s:Sys} {n:Nat} (h1:s.Ok) (h2:Safe s) (h3:s.M.K.ph=5) (h4:s.M.P.n=n):Kp s n 0 s ⟨n,0,0⟩ []:=
 ⟨h1,h2,h3,h4,rfl,rfl,fun _ _ h=>⟨h,rfl⟩,fun _ _ h=>h,fun _ h=>absurd h (Nat.not_lt_zero _)⟩
theorem Kp.chk {s0 s:Sys} {n i:Nat} {S:Sw} {fr:List Rf} (h:Kp s0 n i s S fr) (hi:i<n):S.chk s.A s.M=0:=by
 have:=h.ok.n;have:=h.nn
 rw [h.S]
 unfold Sw.chk
 rw [if_neg (by dsimp only;omega),if_neg (by have:=h.ph;dsimp only;omega)]
theorem Kp.move {s0 s:Sys} {n i:Nat} {S:Sw} {fr:List Rf} (h:Kp s0 n i s S fr) (x:Mv) {ms:Nat} (h0:0<ms) (hms:ms≤s.A.many):Kp s0 n i (x.doR s ms) S fr:=by
 have t:=x.tame h.ok h.ph ms
 have nx:=Mv.next x h.ok ms
 refine⟨nx.ok,x.safe h.ok h.safe h0 hms,by rw [nx.K];exact h.ph,nx.n.trans h.nn,h.S,h.fr,fun j hj hw=>?_,fun j hj hw=>?_,fun j hj hw=>?_⟩
 ·obtain⟨⟨h1,h2⟩,h3⟩:=h.yet j hj hw
  obtain⟨t1,t2⟩:=t.tb j
  refine⟨⟨?_,?_⟩,t1.trans h3⟩
  ·rcases t2 with t2 | t2
   ·rw [t2];exact h1
   ·exact t2.2.1
  ·rcases t.c j with t3 | t3
   ·rw [t3];exact h2
   ·have:=t3.1.symm.trans h1;cases this
 ·obtain⟨h1,h2⟩:=hw
  obtain⟨t1,t2⟩:=t.tb j
  refine h.all j hj ⟨?_,?_⟩
  ·rcases t2 with t2 | t2
   ·rw [← t2];exact h1
   ·exact absurd h2 t2.2.2
  ·rcases t.c j with t3 | t3
   ·rw [← t3];exact h2
   ·have:=t3.2.symm.trans h2;cases this
 ·obtain⟨t1,t2⟩:=t.tb j
  rcases h.gone j hj hw with h1 | h1
  ·left;rw [t1];exact h1
  ·right
   rcases t2 with t2 | t2
   ·rw [t2];exact h1
   ·have:=t2.1.symm.trans h1;cases this
theorem tk_give {T:Tb} {i:Nat} (hi:T.st i=1):(T.give i).tk=T.tk.filter (fun r=>!decide (r=⟨i,T.gn i⟩)):=by
 have hn:(T.give i).n=T.n:=Tb.give_n T i
 have hst:∀ j,(T.give i).st j=if j=i then (if T.gn i<4294967295 then 0 else 2) else T.st j:=fun j=>by
  unfold Tb.give
  split
  ·rfl
  ·rfl
 have hgn:∀ j,j≠i→(T.give i).gn j=T.gn j:=fun j hj=>by
  unfold Tb.give
  split
  ·exact if_neg hj
  ·exact if_neg hj
 unfold Tb.tk
 rw [hn]
 induction T.n with
 | zero=>rfl
 | succ k ih=>
  by_cases e:k=i
  ·subst e
   rw [Tb.inn_no (T:=T.give k) (by rw [hst,if_pos rfl];split <;> decide),Tb.inn_yes hi,ih,List.map_append,List.filter_append]
   simp [rfOf]
  ·by_cases h1:T.st k=1
   ·rw [Tb.inn_yes (T:=T.give i) (by rw [hst,if_neg e];exact h1),Tb.inn_yes h1,List.map_append,List.map_append,List.filter_append,ih,hgn k e]
    congr 1
    have:¬ ((k:Int)=i):=by omega
    simp [rfOf,this]
   ·rw [Tb.inn_no (T:=T.give i) (by rw [hst,if_neg e];exact h1),Tb.inn_no h1,ih]
theorem Kp.step {s0 s:Sys} {n i:Nat} {S:Sw} {fr:List Rf} (h:Kp s0 n i s S fr) (hi:i<n):
 Kp s0 n (i+1) (S.stepR s).s (S.stepR s).S (if (S.stepR s).is=true then fr ++ [(S.stepR s).r] else fr)∧((S.stepR s).is=true→(S.stepR s).r.nz=true)∧((S.stepR s).is=false→(S.stepR s).r = .no)
  ∧(S.stepR s).s.A.H.T.tk=(if (S.stepR s).is=true then s.A.H.T.tk.filter (fun r=>!decide (r=(S.stepR s).r)) else s.A.H.T.tk)∧(S.stepR s).S.n=fr.length+(if (S.stepR s).is=true then 1 else 0)∧(S.stepR s).s.A.many=s.A.many∧(S.stepR s).s.M.K=s.M.K∧((S.stepR s).is=true→(S.stepR s).r∈s.A.H.T.tk):=by
 have hnn:=h.nn
 have hin:i<s.A.H.T.n:=by rw [h.ok.n];omega
 have hS:=h.S
 by_cases hw:s.wh i
 ·obtain⟨w1,w2⟩:=id hw
  have e:S.stepR s=⟨⟨n,i+1,fr.length+1⟩,s.free i,⟨i,s.A.H.T.gn i⟩,true⟩:=by
   rw [hS];unfold Sw.stepR;rw [if_neg (by rintro (h | h);exact h w2;exact h w1)]
  rw [e]
  have hck:ckV s.A.H.T (i:Int) (s.A.H.T.gn i)=0:=ckV_tk hin w1
  have hfr:(s.free i).A.H=s.A.H.free i:=by
   show (s.A.H.freeR ⟨i,s.A.H.T.gn i⟩).1=_
   unfold Hp.freeR
   rw [if_neg (by show ¬ ckV s.A.H.T (i:Int) (s.A.H.T.gn i)≠0;rw [hck];exact fun h=>h rfl)]
   show s.A.H.free (i:Int).toNat=_
   rw [Int.toNat_natCast]
  have hst:∀ j,(s.free i).A.H.T.st j=if j=i then (if s.A.H.T.gn i<4294967295 then 0 else 2) else s.A.H.T.st j:=fun j=>by
   rw [hfr];show (s.A.H.T.give i).st j=_
   unfold Tb.give
   split <;> rfl
  have hgn:∀ j,(s.free i).A.H.T.gn j=if j=i then (if s.A.H.T.gn i<4294967295 then s.A.H.T.gn i+1 else s.A.H.T.gn i) else s.A.H.T.gn j:=fun j=>by
   rw [hfr];show (s.A.H.T.give i).gn j=_
   unfold Tb.give
   split <;> rfl
  have hM:=Sys.free_M (s:=s) (i:=i) (by omega)
  have hMe:(s.free i).M=s.M:=by
   rw [hM]
   have:s.M.P.put i 0=s.M.P:=by
    unfold Pt.put
    have:updf s.M.P.c i 0=s.M.P.c:=by
     funext j
     by_cases ej:j=i
     ·subst ej;rw [updf_same,w2]
     ·rw [updf_ne _ _ ej]
    rw [this]
   rw [this]
  have w0:=h.all i (Nat.le_refl _) hw
  obtain⟨_,w0g⟩:=h.yet i (Nat.le_refl _) w0
  have hsf:Safe (s.free i):=by
   have:=(safe_free (A':=(s.free i).A) h.safe (by have:=h.ph;omega) w2 (Ar.freeR_n _ _).2 rfl rfl (fun j hj=>by rw [hfr];exact updf_ne _ _ hj) (by rw [hfr];exact Tb.give_n _ _) (fun j hj=>by rw [hst,if_neg hj]) (fun j hj=>by rw [hgn,if_neg hj]) (by rw [hst,if_pos rfl];split <;> decide)).1
   have e2:s.free i=⟨(s.free i).A,s.M⟩:=by
    conv=>lhs;rw [show s.free i=⟨(s.free i).A,(s.free i).M⟩ from rfl,hMe]
   rw [e2];exact this
  refine⟨⟨h.ok.free (by omega) w2,hsf,by rw [hMe];exact h.ph,by rw [hMe];exact hnn,by simp,?_,fun j hj hw0=>?_,fun j hj hwj=>?_,fun j hj hw0=>?_⟩,fun _=>?_,fun hx=>by simp at hx,?_,by simp,(Ar.freeR_n _ _).2,by rw [hMe],fun _=>tk_mem hin w1⟩
  ·rw [if_pos rfl,Sys.un_yes w0,← h.fr,w0g]
  ·obtain⟨⟨y1,y2⟩,y3⟩:=h.yet j (by omega) hw0
   refine⟨⟨?_,by rw [hMe];exact y2⟩,?_⟩
   ·rw [hst,if_neg (by omega)];exact y1
   ·rw [hgn,if_neg (by omega)];exact y3
  ·obtain⟨y1,y2⟩:=hwj
   rw [hst,if_neg (by omega)] at y1
   rw [hMe] at y2
   exact h.all j (by omega) ⟨y1,y2⟩
  ·by_cases ej:j=i
   ·subst ej
    rw [hgn,hst,if_pos rfl,if_pos rfl]
    split
    ·left;omega
    ·exact .inr rfl
   ·rw [hgn,hst,if_neg ej,if_neg ej]
    exact h.gone j (by omega) hw0
  ·simp only [Rf.nz,Bool.not_eq_true',Bool.and_eq_false_iff,beq_eq_false_iff_ne]
   right
   have:=(h.ok.a.tb i hin).1
   omega
  ·rw [if_pos rfl,hfr]
   exact tk_give w1
 ·have e:S.stepR s=⟨⟨n,i+1,fr.length⟩,s,.no,false⟩:=by
   rw [hS];unfold Sw.stepR
   rw [if_pos (by
    by_cases h1:s.A.H.T.st i=1
    ·exact .inl (fun h2=>hw ⟨h1,h2⟩)
    ·exact .inr h1)]
  rw [e]
  have w0:¬ s0.wh i:=fun h0=>hw (h.yet i (Nat.le_refl _) h0).1
  refine⟨⟨h.ok,h.safe,h.ph,hnn,rfl,?_,fun j hj=>h.yet j (by omega),fun j hj=>h.all j (by omega),fun j hj hw0=>?_⟩,fun hx=>by simp at hx,fun _=>rfl,rfl,rfl,rfl,rfl,fun hx=>by simp at hx⟩
  ·rw [if_neg (fun h=>by cases h),Sys.un_no w0];exact h.fr
  ·have:j≠i:=fun e=>w0 (e ▸ hw0)
   exact h.gone j (by omega) hw0
theorem Kp.done {s0 s:Sys} {n:Nat} {S:Sw} {fr:List Rf} (h:Kp s0 n n s S fr) {r:Rf} (hr:r∈s.A.H.T.tk):r ∉ s0.un n:=by
 intro hu
 obtain⟨j,h1,h2,rfl⟩:=Sys.un_mem hu
 obtain⟨i,e1,e2,e3,e4⟩:=tk_of hr
 dsimp only at e1 e4
 have:j=i:=by omega
 subst this
 rcases h.gone j h1 h2 with h3 | h3
 ·exact h3 e4
 ·rw [e3] at h3;cases h3
end Go.Proofs.YtnlkfbndlngjaaaGreat
namespace Go.Proofs.YtnlkfbndlngjaaaGreat
open Go.RowKit
set_option linter.unusedVariables false
set_option linter.unusedSimpArgs false
def NMap (w:World) (b n:Nat):Prop:=∃ D,w.ownsMap (H:=Unit) Tryz.prog 34 (plainElem Tryz.prog 3) b n D
theorem NMap.keeps {w w':World} {b n:Nat} {S:Nat→Prop} (h:NMap w b n) (hk:Keeps S w w') (hS:¬ S b):NMap w' b n:=by
 obtain⟨D,es,clock,h1,h2⟩:=h
 exact⟨D,es,clock,block_keep h1 hk hS,h2⟩
theorem NMap.made (w:World):NMap (w.alloc (.map #[] 0)) w.heap.size 0:=⟨_,World.ownsMap_made _ _ _ _⟩
end Go.Proofs.YtnlkfbndlngjaaaGreat
namespace Go.Proofs.YtnlkfbndlngjaaaGreat
open Go.RowKit
set_option linter.unusedVariables false
set_option linter.unusedSimpArgs false
theorem Rf.Ok.key {r:Rf} (h:r.Ok):∃ kl,keyOf Tryz.prog 34 (.agg #[.int .i64 r.s,.int .u32 r.g])=some kl:=by
 obtain⟨h0,h1,h2,h3⟩:=h
 have e1:IntKind.i64.min=-9223372036854775808:=by decide
 have e2:IntKind.i64.max=9223372036854775807:=by decide
 have e3:IntKind.u32.min=0:=by decide
 have e4:IntKind.u32.max=4294967295:=by decide
 exact ref_key (by simp [Lit.wf,e1,e2];omega) (by simp [Lit.wf,e3,e4];omega)
end Go.Proofs.YtnlkfbndlngjaaaGreat
namespace Go.Proofs.YtnlkfbndlngjaaaGreat
open Go.RowKit
set_option linter.unusedVariables false
end Go.Proofs.YtnlkfbndlngjaaaGreat
namespace Go.Proofs.YtnlkfbndlngjaaaGreat
open Go.RowKit
set_option linter.unusedVariables false
theorem Trio.refs {w0 w w':World} {a m b:Nat} {LA:ArL} {LM:MkL} {s:Sys} {S:Sw} (h:Trio w0 w a m b LA LM s S) {v:Value} {l:List Rf} (hv:Refs w v l) (hk:Keeps (fun y=>y=b∨foot2 LA LM s y) w w'):Refs w' v l:=by
 rcases hv with hv | ⟨g,cap,cur,rfl,hg,hc⟩
 ·exact .inl hv
 ·exact .inr ⟨g,cap,cur,rfl,block_keep hg hk (h.noref hg),hc⟩
theorem Trio.row {w0 w w':World} {a m b base:Nat} {LA:ArL} {LM:MkL} {s:Sys} {S:Sw} (h:Trio w0 w a m b LA LM s S) {v:Value} {l:List Rf} (hv:Row w base v l) (hk:Keeps (fun y=>y=b∨foot2 LA LM s y) w w'):Row w' base v l:=by
 refine hv.keeps hk (fun k _ _ hk'=>?_)
 rcases hv.2 with⟨rfl,_⟩ | ⟨g,cap,cur,rfl,_,hg,_⟩
 ·cases hk'
 ·obtain rfl:g=k:=Option.some.inj hk'
  exact h.noref hg
end Go.Proofs.YtnlkfbndlngjaaaGreat
