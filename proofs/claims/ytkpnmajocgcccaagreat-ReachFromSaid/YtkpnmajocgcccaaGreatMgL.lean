import Derived.Test.YtkpnmajocgcccaaGreatMgK
namespace Go.Proofs.YtkpnmajocgcccaaGreat
open Go.RowKit
attribute [local go_sem] Oper.semAt_some
theorem Row.cells {w:World} {base:Nat} {v:Value} {l:List Rf} (h:Row w base v l):
 (v = .slice none 0 0∧l=[])∨∃ g cap cur,v = .slice (some ⟨g,0,none⟩) l.length cap∧base≤g∧w.heap[g]?=some (.cells cur 41)∧∀ j r,l[j]?=some r→cur[j * 2]?=some (.int .i64 r.s)∧cur[j * 2+1]?=some (.int .u32 r.g):=by
 obtain⟨h1,h2⟩:=h
 rcases h2 with⟨rfl,h2⟩ | ⟨g,cap,cur,rfl,hb,hg,r1,r2,r3,r4⟩
 ·exact .inl ⟨rfl,List.eq_nil_of_length_eq_zero h2⟩
 ·refine .inr ⟨g,cap,cur,rfl,hb,hg,fun j r hj=>?_⟩
  have hlt:j<l.length:=(List.getElem?_eq_some_iff.1 hj).1
  obtain⟨a,b⟩:=encR_at hj
  rw [← r4] at a b
  rw [List.getElem?_take_of_lt (by omega),Array.getElem?_toList] at a b
  exact⟨a,b⟩
def hres (H:Hp) (l:List Rf):List Rf:=l.filter (fun r=>ckV H.T r.s r.g == 0)
def chs (H:Hp) (o:Ob):List Int:=(hres H ((o.upto 4).map (·.2))).map (·.s)
theorem hres_no {H:Hp} {l:List Rf} {k:Nat} {r:Rf} (hk:l[k]?=some r) (h:(ckV H.T r.s r.g == 0)=false):hres H (l.take (k+1))=hres H (l.take k):=by
 have e1:l.take (k+1)=l.take k ++ [r]:=by rw [List.take_add_one,hk];rfl
 rw [e1];simp [hres,h]
end Go.Proofs.YtkpnmajocgcccaaGreat
namespace Go.Proofs.YtkpnmajocgcccaaGreat
open Go.RowKit
attribute [local go_sem] Oper.semAt_some
def IRow (w:World) (base:Nat) (v:Value) (l:List Int):Prop:=w.ownsRow base 3 1 v l.length (l.map (Value.int .i64))
theorem IRow.nil (w:World) (base:Nat):IRow w base (.slice none 0 0) []:=World.ownsRow_nil _ _ _ _
theorem IRow.lt {w:World} {base:Nat} {v:Value} {l:List Int} (h:IRow w base v l):∀ k,v.ownBlock=some k→base≤k∧k<w.heap.size:=World.ownsRow.lt h
theorem IRow.keeps {w w':World} {base:Nat} {v:Value} {l:List Int} {S:Nat→Prop} (h:IRow w base v l) (hk:Keeps S w w') (hS:∀ k,base≤k→k<w.heap.size→v.ownBlock=some k→¬ S k):IRow w' base v l:=by
 obtain⟨h1,h2⟩:=h
 refine⟨h1,?_⟩
 rcases h2 with h2 | ⟨g,cap,cur,rfl,hb,hg,r1,r2,r3,r4⟩
 ·exact .inl h2
 ·exact .inr ⟨g,cap,cur,rfl,hb,block_keep hg hk (hS g hb (lt_block hg) rfl),r1,r2,r3,r4⟩
theorem IRow.mono {w:World} {base b':Nat} {v:Value} {l:List Int} (h:IRow w base v l) (hb:b'≤base):IRow w b' v l:=by
 obtain⟨h1,h2⟩:=h
 refine⟨h1,?_⟩
 rcases h2 with h2 | ⟨g,cap,cur,rfl,hb',r⟩
 ·exact .inl h2
 ·exact .inr ⟨g,cap,cur,rfl,by omega,r⟩
theorem IRow.cells {w:World} {base:Nat} {v:Value} {l:List Int} (h:IRow w base v l):
 (v = .slice none 0 0∧l=[])∨∃ g cap cur,v = .slice (some ⟨g,0,none⟩) l.length cap∧base≤g∧w.heap[g]?=some (.cells cur 3)∧∀ (j:Nat) (x:Int),l[j]?=some x→cur[j]?=some (Value.int .i64 x):=by
 obtain⟨h1,h2⟩:=h
 rcases h2 with⟨rfl,h2⟩ | ⟨g,cap,cur,rfl,hb,hg,r1,r2,r3,r4⟩
 ·exact .inl ⟨rfl,List.eq_nil_of_length_eq_zero h2⟩
 ·refine .inr ⟨g,cap,cur,rfl,hb,hg,fun j x hj=>?_⟩
  have hlt:j<l.length:=(List.getElem?_eq_some_iff.1 hj).1
  have a:(l.map (Value.int .i64))[j]?=some (.int .i64 x):=by rw [List.getElem?_map,hj];rfl
  rw [← r4] at a
  rw [List.getElem?_take_of_lt (by omega),Array.getElem?_toList] at a
  exact a
end Go.Proofs.YtkpnmajocgcccaaGreat
namespace Go.Proofs.YtkpnmajocgcccaaGreat
open Go.RowKit
theorem chs_mem {H:Hp} {o:Ob} {x:Int} (h:x∈chs H o):0≤x∧x<H.T.n:=by
 rw [chs,List.mem_map] at h
 obtain⟨r,hr,rfl⟩:=h
 rw [hres,List.mem_filter] at hr
 obtain⟨i,h1,h2,_⟩:=ckV_ok (by simpa using hr.2)
 omega
end Go.Proofs.YtkpnmajocgcccaaGreat
namespace Go.Proofs.YtkpnmajocgcccaaGreat
open Go.RowKit
def Ints (w:World) (v:Value) (l:List Int):Prop:=
 (v = .slice none 0 0∧l=[])∨∃ g cap cur,v = .slice (some ⟨g,0,none⟩) l.length cap∧w.heap[g]?=some (.cells cur 3)∧∀ (j:Nat) (x:Int),l[j]?=some x→cur[j]?=some (Value.int .i64 x)
theorem Ints.keeps {w w':World} {v:Value} {l:List Int} {S:Nat→Prop} (h:Ints w v l) (hk:Keeps S w w') (hS:∀ k,v.ownBlock=some k→¬ S k):Ints w' v l:=by
 rcases h with h | ⟨g,cap,cur,rfl,h2,h3⟩
 ·exact .inl h
 ·exact .inr ⟨g,cap,cur,rfl,block_keep h2 hk (hS g rfl),h3⟩
def shds:Pt × Sq→List Int→Pt × Sq
 | PS,[]=>PS
 | PS,x :: l=>shds (shd PS.1 PS.2 x.toNat) l
theorem shd_n (P:Pt) (S:Sq) (i:Nat):(shd P S i).1.n=P.n:=by unfold shd;split <;> rfl
theorem shds_n (PS:Pt × Sq) (l:List Int):(shds PS l).1.n=PS.1.n:=by
 induction l generalizing PS with
 | nil=>rfl
 | cons y l ih=>exact (ih _).trans (shd_n _ _ _)
theorem shd_one (P:Pt) (S:Sq) (i j:Nat) (h:P.c j=1):(shd P S i).1.c j=1:=by
 unfold shd
 split
 ·simp only [Pt.put,updf];split;rfl;exact h
 ·exact h
theorem shds_one (PS:Pt × Sq) (l:List Int) (j:Nat) (h:PS.1.c j=1):(shds PS l).1.c j=1:=by
 induction l generalizing PS with
 | nil=>exact h
 | cons y l ih=>exact ih _ (shd_one _ _ _ _ h)
end Go.Proofs.YtkpnmajocgcccaaGreat
