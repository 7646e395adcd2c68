import Derived.Test.YtkpnmajocgcccaaGreatMgM
namespace Go.Proofs.YtkpnmajocgcccaaGreat
open Go.RowKit
theorem tk_mem {T:Tb} {i:Nat} (hi:i<T.n) (hs:T.st i=1):(⟨i,T.gn i⟩:Rf)∈T.tk:=by
 obtain⟨suf,h⟩:=Tb.inn_split hi hs
 rw [Tb.tk,h]
 simp [rfOf]
theorem tk_of {T:Tb} {r:Rf} (h:r∈T.tk):∃ i:Nat,r.s=i∧i<T.n∧T.st i=1∧T.gn i=r.g:=by
 rw [Tb.tk,List.mem_map] at h
 obtain⟨⟨i,g⟩,h,rfl⟩:=h
 obtain⟨a,b,c⟩:=Tb.inn_mem h
 exact⟨i,rfl,c,a,b⟩
theorem ckV_tk {T:Tb} {i:Nat} (hi:i<T.n) (hs:T.st i=1):ckV T i (T.gn i)=0:=by
 rw [ckV,if_neg (by omega),if_pos ⟨by simpa using hs,by simp⟩]
theorem tk_len (T:Tb):T.tk.length≤T.n:=by rw [Tb.tk,List.length_map];exact Tb.inn_len _ _ _
def Mk.scan (M:Mk) (H:Hp) (i:Nat):Mk:={ M with P:=(shds (M.P,M.S) (chs H (H.ob i))).1.put i 2,S:=(shds (M.P,M.S) (chs H (H.ob i))).2 }
end Go.Proofs.YtkpnmajocgcccaaGreat
namespace Go.Proofs.YtkpnmajocgcccaaGreat
open Go.RowKit
def MkL.foot (L:MkL) (many y:Nat):Prop:=y=L.c∨y=L.p∨y=L.s∨∃ j,j<many∧y=L.bb j
end Go.Proofs.YtkpnmajocgcccaaGreat
namespace Go.Proofs.YtkpnmajocgcccaaGreat
open Go.RowKit
theorem setCells_keeps (b:Nat) (vs:List Value) (o:Nat) (w:World):Keeps (fun y=>y=b) w (w.setCells b o vs):=by
 induction vs generalizing o w with
 | nil=>exact Keeps.refl _ _
 | cons v vs ih=>exact (keeps_set1 w b o v).trans (ih (o+1) _)
theorem setCells_block (b:Nat) (vs:List Value) (o:Nat) (w:World) (c:Array Value) (t:TypeId) (h:w.heap[b]?=some (.cells c t)) (hs:o+vs.length≤c.size):
 ∃ c',(w.setCells b o vs).heap[b]?=some (.cells c' t)∧c'.size=c.size∧∀ j,c'[j]?=if o≤j∧j<o+vs.length then vs[j - o]? else c[j]?:=by
 induction vs generalizing o w c with
 | nil=>exact⟨c,h,rfl,fun j=>by rw [if_neg (by simp)]⟩
 | cons v vs ih=>
  simp only [List.length_cons] at hs
  obtain⟨c',h1,h2,h3⟩:=ih (o+1) _ _ (set_block h o v) (by simp;omega)
  refine⟨c',h1,by simpa using h2,fun j=>?_⟩
  rw [h3 j]
  by_cases e:j=o
  ·subst e
   rw [if_neg (by omega),if_pos ⟨Nat.le_refl _,by simp⟩,Array.getElem?_setIfInBounds_self_of_lt (by omega)]
   simp
  ·by_cases hr:o+1≤j∧j<o+1+vs.length
   ·rw [if_pos hr,if_pos (by simp;omega),show j - o=(j - (o+1))+1 by omega,List.getElem?_cons_succ]
   ·rw [if_neg hr,if_neg (by simp;omega),Array.getElem?_setIfInBounds_ne (by omega)]
def Pt.clear (P:Pt):Pt:={ P with c:=fun _=>0 }
end Go.Proofs.YtkpnmajocgcccaaGreat
namespace Go.Proofs.YtkpnmajocgcccaaGreat
open Go.RowKit
end Go.Proofs.YtkpnmajocgcccaaGreat
