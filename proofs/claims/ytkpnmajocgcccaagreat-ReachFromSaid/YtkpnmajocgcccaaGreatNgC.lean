import Derived.Test.YtkpnmajocgcccaaGreatNgB
namespace Go.Proofs.YtkpnmajocgcccaaGreat
open Go.RowKit
theorem cells3 {w:World} {b:Nat} {v0 v1 v2:Value} {t:TypeId} (h:w.heap[b]?=some (.cells #[v0,v1,v2] t)):
 w.cell? ⟨b,0,none⟩=some v0∧w.cell? ⟨b,1,none⟩=some v1∧w.cell? ⟨b,2,none⟩=some v2∧b<w.heap.size:=
 ⟨cell_at h rfl,cell_at h rfl,cell_at h rfl,lt_block h⟩
structure Sw where
 size:Nat
 next:Nat
 n:Nat
end Go.Proofs.YtkpnmajocgcccaaGreat
namespace Go.Proofs.YtkpnmajocgcccaaGreat
open Go.RowKit
set_option linter.unusedVariables false
end Go.Proofs.YtkpnmajocgcccaaGreat
namespace Go.Proofs.YtkpnmajocgcccaaGreat
open Go.RowKit
set_option linter.unusedVariables false
section
variable {w0 w w':World} {a m b:Nat} {LA:ArL} {LM:MkL} {s:Sys} {S:Sw}
end
def Sys.free (s:Sys) (i:Nat):Sys:=⟨(s.A.freeR ⟨i,s.A.H.T.gn i⟩).1,(s.M.freedR i).1⟩
theorem Ar.freeR_n (A:Ar) (r:Rf):(A.freeR r).1.H.T.n=A.H.T.n∧(A.freeR r).1.many=A.many:=by
 refine⟨?_,rfl⟩
 show (A.H.freeR r).1.T.n=_
 unfold Hp.freeR
 split
 ·rfl
 ·unfold Hp.free Tb.give
  dsimp only
  split <;> rfl
theorem Sys.Ok.free {s:Sys} (h:s.Ok) {i:Nat} (hi:i<s.M.P.n) (hc:s.M.P.c i=0):(s.free i).Ok:=by
 have e:(s.M.freedR i).1={ s.M with P:=s.M.P.put i 0 }:=by
  unfold Mk.freedR;rw [if_neg (by omega),Int.toNat_natCast]
 have hm:=h.m.freedR i
 have hp:s.M.P.put i 0=s.M.P:=by
  unfold Pt.put
  have:updf s.M.P.c i 0=s.M.P.c:=by
   funext j
   by_cases ej:j=i
   ·subst ej;rw [updf_same,hc]
   ·rw [updf_ne _ _ ej]
  rw [this]
 unfold Sys.free
 rw [e] at hm ⊢
 rw [hp] at hm ⊢
 exact⟨h.a.freeR _,hm,(Ar.freeR_n _ _).1.trans h.n,(Ar.freeR_n _ _).2.trans h.k,h.g⟩
structure SwRes where
 S:Sw
 s:Sys
 r:Rf
 is:Bool
def Sw.stepR (S:Sw) (s:Sys):SwRes:=
 if s.M.P.c S.next≠0∨s.A.H.T.st S.next≠1 then ⟨⟨S.size,S.next+1,S.n⟩,s,.no,false⟩
 else ⟨⟨S.size,S.next+1,S.n+1⟩,s.free S.next,⟨S.next,s.A.H.T.gn S.next⟩,true⟩
end Go.Proofs.YtkpnmajocgcccaaGreat
namespace Go.Proofs.YtkpnmajocgcccaaGreat
set_option linter.unusedSimpArgs false
open Go.RowKit
set_option linter.unusedVariables false
end Go.Proofs.YtkpnmajocgcccaaGreat
