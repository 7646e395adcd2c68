import Derived.Test.YtkpnmajocgcccaaGreatMgI
namespace Go.Proofs.YtkpnmajocgcccaaGreat
open Go.RowKit
structure Sq where
 over:Bool
 most:Int
 size:Nat
 n:Nat
 f:Nat→Int
structure SqC (c:Array Value) (S:Sq):Prop where
 sz:c.size=68
 over:c[0]?=some (.bool S.over)
 most:c[1]?=some (.int .i64 S.most)
 size:c[2]?=some (.int .i64 S.size)
 n:c[3]?=some (.int .i64 S.n)
 row:∀ i,i<64→c[4+i]?=some (.int .i64 (S.f i))
 s1:1≤S.size
 s2:S.size≤64
 nn:S.n≤S.size
 m0:0≤S.most
 m1:S.most≤64
theorem SqC.one {c:Array Value} {S:Sq} (h:SqC c S):c.all (·.oneCell')=true:=by
 rw [Array.all_eq_true]
 intro i hi
 rw [h.sz] at hi
 have key:∃ v,c[i]?=some v∧v.oneCell'=true:=by
  match i,hi with
  | 0,_=>exact⟨_,h.over,rfl⟩
  | 1,_=>exact⟨_,h.most,rfl⟩
  | 2,_=>exact⟨_,h.size,rfl⟩
  | 3,_=>exact⟨_,h.n,rfl⟩
  | j+4,hi=>exact⟨_,by rw [show j+4=4+j by omega];exact h.row j (by omega),rfl⟩
 obtain⟨v,hv,h1⟩:=key
 obtain⟨_,hx'⟩:=Array.getElem?_eq_some_iff.1 hv
 rw [hx'];exact h1
end Go.Proofs.YtkpnmajocgcccaaGreat
namespace Go.Proofs.YtkpnmajocgcccaaGreat
open Go.RowKit
def Sq.push (S:Sq) (x:Int):Sq:=⟨S.over,max S.most (S.n+1),S.size,S.n+1,updf S.f S.n x⟩
def Sq.full (S:Sq):Sq:={ S with over:=true }
def Sq.pop (S:Sq):Sq:={ S with n:=S.n - 1 }
def Sq.clear (S:Sq):Sq:={ S with n:=0,over:=false,most:=0 }
theorem SqC.push {c:Array Value} {S:Sq} (h:SqC c S) (hn:S.n<S.size) (x:Int):
 SqC (((c.setIfInBounds (4+S.n) (.int .i64 x)).setIfInBounds 3 (.int .i64 ((S.n:Int)+1))).setIfInBounds 1 (.int .i64 (max S.most ((S.n:Int)+1)))) (S.push x):=by
 have hs:=h.sz
 have h2:=h.s2
 refine⟨by simp [hs],?_,?_,?_,?_,?_,h.s1,h.s2,by simp only [Sq.push];omega,?_,?_⟩
 ·rw [Array.getElem?_setIfInBounds_ne (by omega),Array.getElem?_setIfInBounds_ne (by omega),Array.getElem?_setIfInBounds_ne (by omega)];exact h.over
 ·rw [Array.getElem?_setIfInBounds_self_of_lt (by simp;omega)];rfl
 ·rw [Array.getElem?_setIfInBounds_ne (by omega),Array.getElem?_setIfInBounds_ne (by omega),Array.getElem?_setIfInBounds_ne (by omega)];exact h.size
 ·rw [Array.getElem?_setIfInBounds_ne (by omega),Array.getElem?_setIfInBounds_self_of_lt (by simp;omega)];simp [Sq.push]
 ·intro i hi
  rw [Array.getElem?_setIfInBounds_ne (by omega),Array.getElem?_setIfInBounds_ne (by omega)]
  by_cases e:i=S.n
  ·subst e;rw [Array.getElem?_setIfInBounds_self_of_lt (by omega)];simp [Sq.push,updf]
  ·rw [Array.getElem?_setIfInBounds_ne (by omega),h.row i hi];simp [Sq.push,updf,e]
 ·have:=h.m0;simp only [Sq.push];omega
 ·have:=h.m1;simp only [Sq.push];omega
end Go.Proofs.YtkpnmajocgcccaaGreat
namespace Go.Proofs.YtkpnmajocgcccaaGreat
open Go.RowKit
def shd (P:Pt) (S:Sq) (i:Nat):Pt × Sq:=if P.c i=0 then (P.put i 1,if S.n=S.size then S.full else S.push i) else (P,S)
end Go.Proofs.YtkpnmajocgcccaaGreat
namespace Go.Proofs.YtkpnmajocgcccaaGreat
open Go.RowKit
structure Ck where
 ph:Nat
 many:Nat
 cy:Nat
 seen:Nat→Bool
def Ck.arr (K:Ck):Array Value:=#[.int .i64 K.ph,.int .i64 K.many,.int .i64 K.cy,.bool (K.seen 0),.bool (K.seen 1),.bool (K.seen 2),.bool (K.seen 3),
 .bool (decide (0<K.many)),.bool (decide (1<K.many)),.bool (decide (2<K.many)),.bool (decide (3<K.many))]
def Ck.all (K:Ck):Bool:=(K.seen 0 == decide (0<K.many)) && (K.seen 1 == decide (1<K.many)) && (K.seen 2 == decide (2<K.many)) && (K.seen 3 == decide (3<K.many))
def Ck.part (m k:Nat):Array Value:=#[.int .i64 0,.int .i64 m,.int .i64 0,.bool false,.bool false,.bool false,.bool false,.bool (decide (0<k)),.bool (decide (1<k)),.bool (decide (2<k)),.bool (decide (3<k))]
end Go.Proofs.YtkpnmajocgcccaaGreat
namespace Go.Proofs.YtkpnmajocgcccaaGreat
open Go.RowKit
def Ck.to (K:Ck) (p:Nat):Ck:={ K with ph:=p,seen:=fun _=>false }
def Ck.ack (K:Ck) (m:Nat):Ck:={ K with seen:=updf K.seen m true }
end Go.Proofs.YtkpnmajocgcccaaGreat
namespace Go.Proofs.YtkpnmajocgcccaaGreat
open Go.RowKit
def Ck.ready (K:Ck):Bool:=(K.ph == 1 || K.ph == 2) && K.all
def Ck.go (K:Ck):Ck:=⟨(K.ph+1) % 6,K.many,if K.ph=5 then K.cy+1 else K.cy,fun _=>false⟩
def Ck.bar (K:Ck) (m:Nat):Bool:=if K.ph=1 then K.seen m else decide (K.ph=2∨K.ph=3)
end Go.Proofs.YtkpnmajocgcccaaGreat
