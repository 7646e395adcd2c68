import Derived.Test.YtkpnmajocgcccaaGreatMgP
namespace Go.Proofs.YtkpnmajocgcccaaGreat
open Go.RowKit
def NoA (w:World) (v:Value):Prop:=v = .pointer none∨∃ b,v = .pointer (some ⟨b,0,none⟩)∧
 w.heap[b]?=some (.cells #[.pointer none,.int .i64 0,.int .i64 0,.pointer none,.pointer none,.pointer none,.pointer none,.pointer none] 76)
theorem NoA.keeps0 {w w':World} {v:Value} (h:NoA w v) (hk:Keeps (fun _=>False) w w'):NoA w' v:=by
 rcases h with h | ⟨b,h,hb⟩
 ·exact .inl h
 ·exact .inr ⟨b,h,block_keep hb hk (fun h=>h)⟩
end Go.Proofs.YtkpnmajocgcccaaGreat
