import Derived.Test.YtkpnmajocgcccaaGreatMgZ
namespace Go.Proofs.YtkpnmajocgcccaaGreat
open Go.RowKit
section
variable {w0 w w':World} {a m:Nat} {LA:ArL} {LM:MkL} {A:Ar} {M M':Mk}
end
end Go.Proofs.YtkpnmajocgcccaaGreat
namespace Go.Proofs.YtkpnmajocgcccaaGreat
open Go.RowKit
set_option linter.unusedVariables false
def Mv.Byte (x:Mv):Prop:=x.kind<256∧x.m<256∧x.a<256∧x.b<256∧x.c<256
def Mv.val (x:Mv):Value:=.agg #[.int .u8 x.kind,.int .u8 x.m,.int .u8 x.a,.int .u8 x.b,.int .u8 x.c]
end Go.Proofs.YtkpnmajocgcccaaGreat
