import Derived.Test.YtkpnmajocgcccaaGreatMgH
namespace Go.Proofs.YtkpnmajocgcccaaGreat
open Go.RowKit
end Go.Proofs.YtkpnmajocgcccaaGreat
namespace Go.Proofs.YtkpnmajocgcccaaGreat
open Go.RowKit
structure Pt where
 n:Nat
 c:Nat→Int
structure PtC (c:Array Value) (P:Pt):Prop where
 size:c.size=257
 len:c[0]?=some (.int .i64 P.n)
 col:∀ i,i<256→c[1+i]?=some (.int .u8 (P.c i))
 n1:1≤P.n
 n2:P.n≤256
 lo:∀ i,0≤P.c i
 hi:∀ i,P.c i≤2
def Pt.put (P:Pt) (i:Nat) (x:Int):Pt:={ P with c:=updf P.c i x }
theorem PtC.put {c:Array Value} {P:Pt} (h:PtC c P) (i:Nat) (hi:i<256) (x:Int) (h0:0≤x) (h2:x≤2):PtC (c.setIfInBounds (1+i) (.int .u8 x)) (P.put i x):=by
 have hs:=h.size
 refine⟨by simpa using hs,?_,?_,h.n1,h.n2,?_,?_⟩
 ·rw [Array.getElem?_setIfInBounds_ne (by omega)];exact h.len
 ·intro j hj
  by_cases e:j=i
  ·subst e;rw [Array.getElem?_setIfInBounds_self_of_lt (by omega)];simp [Pt.put,updf]
  ·rw [Array.getElem?_setIfInBounds_ne (by omega),h.col j hj];simp [Pt.put,updf,e]
 ·intro j;simp only [Pt.put,updf];split;exact h0;exact h.lo j
 ·intro j;simp only [Pt.put,updf];split;exact h2;exact h.hi j
theorem PtC.one {c:Array Value} {P:Pt} (h:PtC c P):c.all (·.oneCell')=true:=by
 rw [Array.all_eq_true]
 intro i hi
 rw [h.size] at hi
 have key:∃ k x,c[i]?=some (.int k x):=by
  by_cases h0:i=0
  ·subst h0;exact⟨_,_,h.len⟩
  ·obtain⟨j,rfl⟩:∃ j,i=1+j:=⟨i - 1,by omega⟩
   exact⟨_,_,h.col j (by omega)⟩
 obtain⟨k,x,hx⟩:=key
 obtain⟨_,hx'⟩:=Array.getElem?_eq_some_iff.1 hx
 rw [hx'];rfl
end Go.Proofs.YtkpnmajocgcccaaGreat
namespace Go.Proofs.YtkpnmajocgcccaaGreat
open Go.RowKit
def Pt.shade (P:Pt) (i:Nat):Pt:=if P.c i=0 then P.put i 1 else P
end Go.Proofs.YtkpnmajocgcccaaGreat
namespace Go.Proofs.YtkpnmajocgcccaaGreat
open Go.RowKit
attribute [local go_sem] Oper.semAt_some
def Pt.gr (P:Pt):Nat→List Nat
 | 0=>[]
 | k+1=>P.gr k ++ (if P.c k=1 then [k] else [])
end Go.Proofs.YtkpnmajocgcccaaGreat
