import Derived.Test.YtnlkfbndlngjaaaGreatMgM
import Derived.ProofKit
import Derived.Deep.Slices
import Derived.Deep.Fields
import Derived.ChangeSame
import Derived.Maps.OwnOps
import Derived.DeepKeys4
import Derived.Maps.AppendAt
import Derived.OrdersIn
namespace Go.Proofs.YtnlkfbndlngjaaaGreat
open Go.RowKit
set_option linter.unusedVariables false
set_option linter.unusedSimpArgs false
theorem Refs.cell {w:World} {a:Option Addr} {n c:Nat} {l:List Rf} (h:Refs w (.slice a n c) l):n=l.length∧∀ (j:Nat) (r:Rf),l[j]?=some r→∃ g,a=some ⟨g,0,none⟩∧g<w.heap.size∧w.cell? ⟨g,j * 2,none⟩=some (.int .i64 r.s)∧w.cell? ⟨g,j * 2+1,none⟩=some (.int .u32 r.g):=by
 rcases h with⟨e,rfl⟩ | ⟨g,cap,cur,e,hg,hc⟩
 ·injection e with e1 e2 e3
  exact⟨e2,fun j r hj=>by cases hj⟩
 ·injection e with e1 e2 e3
  exact⟨e2,fun j r hj=>⟨g,e1,lt_block hg,cell_at hg (hc j r hj).1,cell_at hg (hc j r hj).2⟩⟩
theorem Refs.slice {w:World} {v:Value} {l:List Rf} (h:Refs w v l):∃ a c,v = .slice a l.length c:=by
 rcases h with⟨rfl,rfl⟩ | ⟨g,cap,cur,rfl,hg,hc⟩
 ·exact⟨_,_,rfl⟩
 ·exact⟨_,_,rfl⟩
end Go.Proofs.YtnlkfbndlngjaaaGreat
namespace Go.Proofs.YtnlkfbndlngjaaaGreat
open Go.RowKit
open Go.Maps (Keyed)
end Go.Proofs.YtnlkfbndlngjaaaGreat
namespace Go.Proofs.YtnlkfbndlngjaaaGreat
open Go.RowKit
set_option linter.unusedVariables false
set_option linter.unusedSimpArgs false
end Go.Proofs.YtnlkfbndlngjaaaGreat
namespace Go.Proofs.YtnlkfbndlngjaaaGreat
open Go.RowKit
theorem run_append_refs (ty:TypeId) (base:Nat) (v u:Value) (l m:List Rf) (w:World) (hv:Row w base v l) (hu:Refs w u m) (h1:l.length+m.length≤1000000) (hb:base≤w.heap.size):
 ∃ v' w',(Builtin.append_ #[46,46] ty #[v,u]).run Tryz.prog w = .ok v' w'∧Row w' base v' (l ++ m)∧Keeps (fun k=>v.ownBlock=some k) w w'∧(v'.ownBlock=v.ownBlock∨v'.ownBlock=some w.heap.size):=by
 obtain⟨ri,hi1,hi2,hi3,hi4⟩:=ref_info
 rcases hu with⟨rfl,rfl⟩ | ⟨g,cap,cur,rfl,hg,hc⟩
 ·refine⟨v,w,?_,by simpa using hv,Keeps.refl _ _,.inl rfl⟩
  rcases hv.2 with⟨rfl,_⟩ | ⟨g,c,cur,rfl,_,_,hn,_⟩
  ·simp [Builtin.append_,run_underlying Tryz.underlying46,sizeOf,typeInfo,hi1,Builtin.lenOf,Builtin.firstCells]
  ·simp [Builtin.append_,run_underlying Tryz.underlying46,sizeOf,typeInfo,hi1,Builtin.lenOf,Builtin.firstCells,hn,storeCells]
 ·obtain⟨v',w',r1,r2,r3,_,r5⟩:=run_append_own_at (P:=Tryz.prog) w base 46 ty 34 ri (.agg #[.int .i64 0,.int .u32 0]) 2 16 Tryz.underlying46 hi1 hi2 hi3 hi4 rfl (by decide) v l.length (l.flatMap encR) hv ⟨g,0,none⟩ m.length cap (m.flatMap encR) (encR_len m)
   (fun j x hj=>by
    have hjl:j<m.length * 2:=by rw [← encR_len];exact (List.getElem?_eq_some_iff.1 hj).1
    obtain⟨r,hr⟩:∃ r,m[j / 2]?=some r:=⟨_,List.getElem?_eq_getElem (by omega)⟩
    obtain⟨a,b⟩:=hc _ r hr
    obtain⟨a',b'⟩:=encR_at hr
    have e0:(⟨g,0,none⟩:Addr).add j=⟨g,j,none⟩:=by unfold Addr.add;split <;> simp_all
    rw [e0,cell_block hg]
    by_cases e:j % 2=0
    ·have e2:j=j / 2 * 2:=by omega
     rw [e2] at hj ⊢
     rw [a];rw [a'] at hj;exact hj
    ·have e2:j=j / 2 * 2+1:=by omega
     rw [e2] at hj ⊢
     rw [b];rw [b'] at hj;exact hj)
   (fun u hu=>encR_one hu) (by simp [maxLen];omega) (by omega) hb
  refine⟨v',w',r1,?_,(grown_keeps r3).mono (fun k _ h=>h),r5⟩
  unfold Row
  rw [List.length_append,List.flatMap_append]
  exact r2
theorem wpList_append_refs {ops:Array Oper} {rest:List Oper} {o:Oper} {a:Act} {Q:Exit→Act→World→Prop} (w:World) (hgd:o.guard=none) (s x:Operand)
 (ho:o.op = .call { callee:=.builtin .append,args:=#[s,x],argTypes:=#[46,46] })
 (base:Nat) (v u:Value) (l m:List Rf) (hs:a.eval s=v) (hx:a.eval x=u) (hv:Row w base v l) (hu:Refs w u m) (h1:l.length+m.length≤1000000) (hb:base≤w.heap.size)
 (h:∀ v' w',Row w' base v' (l ++ m)→Keeps (fun k=>v.ownBlock=some k) w w'→(v'.ownBlock=v.ownBlock∨v'.ownBlock=some w.heap.size)→wpList Tryz.prog ops Q rest (a.put o.dst v') w'):
 wpList Tryz.prog ops Q (o :: rest) a w:=by
 refine wpList_plain hgd fun K hK=>?_
 obtain⟨v',w',hr,h2,h3,h4⟩:=run_append_refs o.type base v u l m w hv hu h1 hb
 unfold Oper.wp execOp
 simp only [ho,resolve,invoke,builtin,Sem.run_bind,Sem.run_pure,Result.andThen_ok,List.map_toArray,List.map_cons,List.map_nil,hs,hx,hr]
 exact hK _ _ (h v' w' h2 h3 h4)
end Go.Proofs.YtnlkfbndlngjaaaGreat
namespace Go.Proofs.YtnlkfbndlngjaaaGreat
set_option linter.unusedVariables false
end Go.Proofs.YtnlkfbndlngjaaaGreat
namespace Go.Proofs.YtnlkfbndlngjaaaGreat
open Go.RowKit
set_option linter.unusedVariables false
set_option linter.unusedSimpArgs false
end Go.Proofs.YtnlkfbndlngjaaaGreat
namespace Go.Proofs.YtnlkfbndlngjaaaGreat
open Go.RowKit
set_option linter.unusedVariables false
set_option linter.unusedSimpArgs false
theorem refs_one {w:World} {b:Nat} {x:Rf} (h:w.heap[b]?=some (.cells #[.int .i64 x.s,.int .u32 x.g] 34)):Refs w (.slice (some ⟨b,0,none⟩) 1 1) [x]:=
 .inr ⟨b,1,_,rfl,h,fun j r hj=>by
  match j,hj with
  | 0,hj=>obtain rfl:x=r:=Option.some.inj hj;exact⟨rfl,rfl⟩⟩
end Go.Proofs.YtnlkfbndlngjaaaGreat
namespace Go.Proofs.YtnlkfbndlngjaaaGreat
open Go.RowKit
set_option linter.unusedVariables false
end Go.Proofs.YtnlkfbndlngjaaaGreat
namespace Go.Proofs.YtnlkfbndlngjaaaGreat
open Go.RowKit
set_option linter.unusedVariables false
end Go.Proofs.YtnlkfbndlngjaaaGreat
