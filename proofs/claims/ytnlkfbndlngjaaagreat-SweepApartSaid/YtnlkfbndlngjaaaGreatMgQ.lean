import Derived.Test.YtnlkfbndlngjaaaGreatMgP
namespace Go.Proofs.YtnlkfbndlngjaaaGreat
open Go.RowKit
def NoM (w:World) (v:Value):Prop:=v = .pointer none∨∃ b,v = .pointer (some ⟨b,0,none⟩)∧w.heap[b]?=some (.cells #[.int .i64 0,.int .i64 0,.pointer none,.pointer none,.pointer none,.slice none 0 0] 100)
theorem NoM.keeps0 {w w':World} {v:Value} (h:NoM w v) (hk:Keeps (fun _=>False) w w'):NoM w' v:=by
 rcases h with h | ⟨b,h,hb⟩
 ·exact .inl h
 ·exact .inr ⟨b,h,block_keep hb hk (fun h=>h)⟩
def NoA (w:World) (v:Value):Prop:=v = .pointer none∨∃ b,v = .pointer (some ⟨b,0,none⟩)∧
 w.heap[b]?=some (.cells #[.pointer none,.int .i64 0,.int .i64 0,.pointer none,.pointer none,.pointer none,.pointer none,.pointer none] 90)
theorem NoA.keeps0 {w w':World} {v:Value} (h:NoA w v) (hk:Keeps (fun _=>False) w w'):NoA w' v:=by
 rcases h with h | ⟨b,h,hb⟩
 ·exact .inl h
 ·exact .inr ⟨b,h,block_keep hb hk (fun h=>h)⟩
end Go.Proofs.YtnlkfbndlngjaaaGreat
