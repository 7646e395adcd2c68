import Derived.Test.YtkpnmajocgcccaaGreatMgN
namespace Go.Proofs.YtkpnmajocgcccaaGreat
open Go.RowKit
end Go.Proofs.YtkpnmajocgcccaaGreat
namespace Go.Proofs.YtkpnmajocgcccaaGreat
open Go.RowKit
def Mk.new (n many size places:Nat):Mk:=⟨⟨0,many,0,fun _=>false⟩,⟨n,fun _=>0⟩,⟨false,0,size,0,fun _=>0⟩,fun _=>⟨fun _=>0,places,0,0,true⟩⟩
end Go.Proofs.YtkpnmajocgcccaaGreat
namespace Go.Proofs.YtkpnmajocgcccaaGreat
open Go.RowKit
end Go.Proofs.YtkpnmajocgcccaaGreat
namespace Go.Proofs.YtkpnmajocgcccaaGreat
open Go.RowKit
end Go.Proofs.YtkpnmajocgcccaaGreat
namespace Go.Proofs.YtkpnmajocgcccaaGreat
open Go.RowKit
def Mk.note (M:Mk) (i:Nat) (x:Int):Mk:=
 if (M.B i).n=(M.B i).size then { M with B:=updf M.B i (M.B i).over,P:=(shd M.P M.S x.toNat).1,S:=(shd M.P M.S x.toNat).2 }
 else { M with B:=updf M.B i ((M.B i).note x) }
theorem Mk.note_P (M:Mk) (i:Nat) (x:Int):(M.note i x).P.n=M.P.n:=by
 unfold Mk.note;split
 ·show (shd M.P M.S x.toNat).1.n=_
  unfold shd;split <;> rfl
 ·rfl
theorem Mk.note_K (M:Mk) (i:Nat) (x:Int):(M.note i x).K=M.K:=by
 unfold Mk.note;split <;> rfl
end Go.Proofs.YtkpnmajocgcccaaGreat
namespace Go.Proofs.YtkpnmajocgcccaaGreat
open Go.RowKit
end Go.Proofs.YtkpnmajocgcccaaGreat
