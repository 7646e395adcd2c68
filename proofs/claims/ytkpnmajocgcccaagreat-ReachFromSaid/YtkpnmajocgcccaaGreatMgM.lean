import Derived.Test.YtkpnmajocgcccaaGreatMgL
namespace Go.Proofs.YtkpnmajocgcccaaGreat
open Go.RowKit
def Refs (w:World) (v:Value) (l:List Rf):Prop:=
 (v = .slice none 0 0∧l=[])∨∃ g cap cur,v = .slice (some ⟨g,0,none⟩) l.length cap∧w.heap[g]?=some (.cells cur 41)∧∀ (j:Nat) (r:Rf),l[j]?=some r→cur[j * 2]?=some (.int .i64 r.s)∧cur[j * 2+1]?=some (.int .u32 r.g)
theorem Row.refs {w:World} {base:Nat} {v:Value} {l:List Rf} (h:Row w base v l):Refs w v l:=by
 rcases h.cells with h | ⟨g,cap,cur,h1,_,h2,h3⟩
 ·exact .inl h
 ·exact .inr ⟨g,cap,cur,h1,h2,h3⟩
theorem Refs.keeps {w w':World} {v:Value} {l:List Rf} {S:Nat→Prop} (h:Refs w v l) (hk:Keeps S w w') (hS:∀ k,v.ownBlock=some k→¬ S k):Refs w' v l:=by
 rcases h with h | ⟨g,cap,cur,rfl,h2,h3⟩
 ·exact .inl h
 ·exact .inr ⟨g,cap,cur,rfl,block_keep h2 hk (hS g rfl),h3⟩
def Mk.shade (M:Mk) (l:List Int):Mk:={ M with P:=(shds (M.P,M.S) l).1,S:=(shds (M.P,M.S) l).2 }
theorem hres_s {H:Hp} {l:List Rf} {x:Int} (h:x∈(hres H l).map (·.s)):0≤x∧x<H.T.n:=by
 rw [List.mem_map] at h
 obtain⟨r,hr,rfl⟩:=h
 rw [hres,List.mem_filter] at hr
 obtain⟨i,h1,h2,_⟩:=ckV_ok (by simpa using hr.2)
 omega
end Go.Proofs.YtkpnmajocgcccaaGreat
namespace Go.Proofs.YtkpnmajocgcccaaGreat
open Go.RowKit
end Go.Proofs.YtkpnmajocgcccaaGreat
namespace Go.Proofs.YtkpnmajocgcccaaGreat
open Go.RowKit
end Go.Proofs.YtkpnmajocgcccaaGreat
namespace Go.Proofs.YtkpnmajocgcccaaGreat
open Go.RowKit
end Go.Proofs.YtkpnmajocgcccaaGreat
