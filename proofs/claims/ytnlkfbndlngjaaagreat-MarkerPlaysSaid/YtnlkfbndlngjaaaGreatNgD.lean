import Derived.Test.YtnlkfbndlngjaaaGreatMgR
import Derived.ProofKit
import Derived.Deep.Slices
import Derived.Deep.Fields
import Derived.ChangeSame
namespace Go.Proofs.YtnlkfbndlngjaaaGreat
end Go.Proofs.YtnlkfbndlngjaaaGreat
namespace Go.Proofs.YtnlkfbndlngjaaaGreat
theorem Bf.list_note {B:Bf} (h:B.n<B.size) (x:Int):(B.note x).list=B.list ++ [x]:=by
 unfold Bf.list Bf.note
 dsimp only
 rw [List.range_succ,List.map_append]
 congr 1
 ·apply List.map_congr_left
  intro i hi
  have hi':i<B.n:=List.mem_range.1 hi
  refine updf_ne _ _ (fun e=>?_)
  have:=Nat.sub_mod_eq_zero_of_mod_eq e.symm
  rw [Nat.add_sub_add_left,Nat.mod_eq_of_lt (by omega)] at this
  omega
 ·simp [updf_same]
end Go.Proofs.YtnlkfbndlngjaaaGreat
set_option linter.unusedVariables false
namespace Go.Proofs.YtnlkfbndlngjaaaGreat
end Go.Proofs.YtnlkfbndlngjaaaGreat
set_option linter.unusedVariables false
namespace Go.Proofs.YtnlkfbndlngjaaaGreat
end Go.Proofs.YtnlkfbndlngjaaaGreat
namespace Go.Proofs.YtnlkfbndlngjaaaGreat
end Go.Proofs.YtnlkfbndlngjaaaGreat
