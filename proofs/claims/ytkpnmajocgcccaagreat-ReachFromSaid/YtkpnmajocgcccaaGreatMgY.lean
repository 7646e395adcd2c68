import Derived.Test.YtkpnmajocgcccaaGreatMgR
namespace Go.Proofs.YtkpnmajocgcccaaGreat
open Go.RowKit
attribute [local go_sem] Oper.semAt_some
end Go.Proofs.YtkpnmajocgcccaaGreat
namespace Go.Proofs.YtkpnmajocgcccaaGreat
open Go.RowKit
attribute [local go_sem] Oper.semAt_some
theorem BfC.drain {c:Array Value} {B:Bf} (h:BfC c B):
 BfC ((c.setIfInBounds 65 (.int .i64 ((B.from'+B.n) % B.size:Nat))).setIfInBounds 66 (.int .i64 0)) B.drain:=by
 have hs:=h.sz
 have h1:=h.s1
 refine⟨by simp [hs],?_,?_,?_,?_,?_,h.s1,h.s2,Nat.zero_le _,Nat.mod_lt _ (by omega)⟩
 ·intro i hi;rw [Array.getElem?_setIfInBounds_ne (by omega),Array.getElem?_setIfInBounds_ne (by omega)];exact h.row i hi
 ·rw [Array.getElem?_setIfInBounds_ne (by omega),Array.getElem?_setIfInBounds_ne (by omega)];exact h.size
 ·rw [Array.getElem?_setIfInBounds_ne (by omega),Array.getElem?_setIfInBounds_self_of_lt (by omega)];rfl
 ·rw [Array.getElem?_setIfInBounds_self_of_lt (by simp;omega)];rfl
 ·rw [Array.getElem?_setIfInBounds_ne (by omega),Array.getElem?_setIfInBounds_ne (by omega)];exact h.whole
end Go.Proofs.YtkpnmajocgcccaaGreat
namespace Go.Proofs.YtkpnmajocgcccaaGreat
open Go.RowKit
end Go.Proofs.YtkpnmajocgcccaaGreat
