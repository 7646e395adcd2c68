/- Package marker: Step, Ack, Go, Begin at anything; of an arena and its marker. -/
import Derived.Test.YtaikgklbafkalaaGreatMgZ
import Derived.Test.YtaikgklbafkalaaGreatMgS
import Derived.Test.YtaikgklbafkalaaGreatMgP
import Derived.Test.YtaikgklbafkalaaGreatMgV
namespace Go.Proofs.YtaikgklbafkalaaGreat
open Go.RowKit

section
variable {w0 w w' : World} {a m : Nat} {LA : ArL} {LM : MkL} {A : Ar} {M M' : Mk}

def Duo.To (w0 w w' : World) (a m : Nat) (LA : ArL) (LM : MkL) (A : Ar) (M M' : Mk) : Prop := Duo w0 w' a m LA LM A M' ∧ Keeps (fun y => LM.foot M.K.many y) w w'
theorem Duo.mk0 (h : Duo w0 w a m LA LM A M) (hk : Keeps (fun _ => False) w w') : Duo.To w0 w w' a m LA LM A M M := ⟨h.same hk, hk.up⟩
end

end Go.Proofs.YtaikgklbafkalaaGreat

/- estraylaw25: Move.do is a move of the model. -/
namespace Go.Proofs.YtaikgklbafkalaaGreat
open Go.RowKit
set_option linter.unusedVariables false

def Both (w0 w : World) (a m : Nat) (LA : ArL) (LM : MkL) (s : Sys) : Prop := Duo w0 w a m LA LM s.A s.M
def foot2 (LA : ArL) (LM : MkL) (s : Sys) (y : Nat) : Prop := LA.foot s.A.many y ∨ LM.foot s.M.K.many y
def Mv.Byte (x : Mv) : Prop := x.kind < 256 ∧ x.m < 256 ∧ x.a < 256 ∧ x.b < 256 ∧ x.c < 256
def Mv.val (x : Mv) : Value := .agg #[.int .u8 x.kind, .int .u8 x.m, .int .u8 x.a, .int .u8 x.b, .int .u8 x.c]
end Go.Proofs.YtaikgklbafkalaaGreat
