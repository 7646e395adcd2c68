import Derived.Test.YtkpnmajocgcccaaGreatCgA
import Derived.Test.YtkpnmajocgcccaaGreatNgA
namespace Go.Proofs.YtkpnmajocgcccaaGreat
theorem Mk.trace1_cy (M:Mk) (H:Hp) (hp:M.K.ph=3):(M.trace1 H).K.cy=M.K.cy:=by
 have hg:M.K.go.cy=M.K.cy:=by show (if M.K.ph=5 then M.K.cy+1 else M.K.cy)=_;rw [if_neg (by omega)]
 unfold Mk.trace1
 split
 ·split
  ·exact hg
  ·rw [(Mk.scanAt_K M H _).1]
 ·split
  ·rw [(Mk.scanAt_K _ H _).1]
  ·rfl
theorem Mk.stepR_cy (M:Mk) (A:Ar) (hp:M.K.ph<4):(M.stepR A).K.cy=M.K.cy:=by
 have hg:M.K.go.cy=M.K.cy:=by show (if M.K.ph=5 then M.K.cy+1 else M.K.cy)=_;rw [if_neg (by omega)]
 unfold Mk.stepR
 split
 ·split
  ·exact hg
  ·rfl
 split
 ·split
  ·exact hg
  ·rfl
 split
 ·rename_i h3
  unfold Mk.traceR
  rw [Mk.trace1_cy _ _ (by rw [(M.drains_K _).1];exact h3),(M.drains_K _).1]
 ·rfl
theorem Sys.step_next {s:Sys} (h:s.Ok):s.step.Ok∧(s.M.stepR s.A).K.many=s.M.K.many∧(s.M.stepR s.A).P.n=s.M.P.n:=by
 have key:(s.M.stepR s.A).K.many=s.M.K.many∧(s.M.stepR s.A).P.n=s.M.P.n∧Gs (s.M.stepR s.A).P (s.M.stepR s.A).S:=by
  unfold Mk.stepR
  split
  ·split
   ·exact⟨rfl,shds_n (s.M.P,s.M.S) _,(gs_shade (M:={ s.M with K:=s.M.K.go }) h.g _).1⟩
   ·exact⟨rfl,rfl,h.g⟩
  split
  ·split
   ·exact⟨rfl,rfl,h.g⟩
   ·exact⟨rfl,rfl,h.g⟩
  split
  ·obtain⟨g1,g2,g3⟩:=gs_trace (H:=s.A.H) h.m h.g
   rcases g3 with⟨hK,hn⟩ | ⟨hK,hn,_⟩
   ·exact⟨by rw [hK];rfl,hn,g1⟩
   ·exact⟨by rw [hK],hn,g1⟩
  ·exact⟨rfl,rfl,h.g⟩
 exact⟨Sys.step_ok h key.2.1 key.1 key.2.2,key.1,key.2.1⟩
theorem Sys.round_K {s:Sys} (h:s.Ok) (hp:s.M.K.ph<4) (mid:List Mv) (j:Nat):(s.round mid j).M.K.cy=s.M.K.cy∧(s.round mid j).M.K.many=s.M.K.many:=by
 obtain⟨hs,hk,_⟩:=Sys.step_next h
 have h1:s.step.M.K.cy=s.M.K.cy:=Mk.stepR_cy _ _ hp
 obtain⟨a1,_,a3,a4,_⟩:=Sys.answer_next hs
 unfold Sys.round
 split
 ·rw [(Mv.next _ a1 _).K,a3,a4,h1];exact⟨rfl,hk⟩
 ·rw [a3,a4,h1];exact⟨rfl,hk⟩
theorem Sys.rounds_stay {s:Sys} {mid:List Mv} {i:Nat} (h:4≤(s.rounds mid i).M.K.ph) (d:Nat):s.rounds mid (i+d)=s.rounds mid i:=by
 induction d with
 | zero=>rfl
 | succ d ih=>
  show (if 4≤(s.rounds mid (i+d)).M.K.ph then s.rounds mid (i+d) else _)=_
  rw [ih,if_pos h]
theorem Sys.rounds_go {s:Sys} {mid:List Mv} {i:Nat} (h:(s.rounds mid i).M.K.ph<4):s.rounds mid (i+1)=(s.rounds mid i).round mid i:=if_neg (by omega)
def Sys.begun (s:Sys):Sys:=⟨s.A,s.M.beginR.1⟩
def Sys.whole (s:Sys) (mid:List Mv):Sys:=s.begun.rounds (mid.take 60) (2 * s.M.P.n+21)
def Sys.marked (s:Sys) (mid:List Mv):Sys:=⟨(s.whole mid).A,(s.whole mid).M.goR.1⟩
theorem Sys.begun_mid {s:Sys} (h:s.Ok) (hp:s.M.K.ph=0):Mid s.M.P.n 0 s.begun∧s.begun.M.K.cy=s.M.K.cy∧s.begun.M.K.many=s.M.K.many:=by
 have e:s.M.beginR.1={ s.M with K:=s.M.K.to 1 }:=by unfold Mk.beginR;rw [if_pos hp]
 have hb:=h.m.beginR
 unfold Sys.begun
 rw [e] at hb ⊢
 exact⟨⟨⟨h.a,hb,h.n,h.k,h.g⟩,rfl,.inl ⟨rfl,rfl,fun _=>rfl⟩⟩,rfl,rfl⟩
structure Half (s:Sys) (mid:List Mv) (i:Nat):Prop where
 at':Mid s.M.P.n i (s.begun.rounds (mid.take 60) i)
 cy:(s.begun.rounds (mid.take 60) i).M.K.cy=s.M.K.cy
 many:(s.begun.rounds (mid.take 60) i).M.K.many=s.M.K.many
theorem Half.zero {s:Sys} (h:s.Ok) (hp:s.M.K.ph=0) (mid:List Mv):Half s mid 0:=by
 obtain⟨h1,h2,h3⟩:=Sys.begun_mid h hp
 exact⟨h1,h2,h3⟩
theorem Half.next {s:Sys} {mid:List Mv} {i:Nat} (h:Half s mid i) (hp:(s.begun.rounds (mid.take 60) i).M.K.ph<4):Half s mid (i+1):=by
 obtain⟨h1,h2⟩:=Sys.round_K h.at'.ok hp (mid.take 60) i
 refine⟨?_,?_,?_⟩
 ·rw [Sys.rounds_go hp];exact h.at'.round hp _
 ·rw [Sys.rounds_go hp,h1,h.cy]
 ·rw [Sys.rounds_go hp,h2,h.many]
theorem Half.le {s:Sys} {mid:List Mv} {i:Nat} (h:Half s mid i) (hp:(s.begun.rounds (mid.take 60) i).M.K.ph<4):i≤3+s.M.P.n:=by
 have hb:=blkN_le (s.begun.rounds (mid.take 60) i).M.P.c s.M.P.n
 rcases h.at'.at' with h | h | h | h | h
 all_goals omega
theorem Half.done {s:Sys} {mid:List Mv} {i:Nat} (h:Half s mid i) (hp:4≤(s.begun.rounds (mid.take 60) i).M.K.ph):
 s.whole mid=s.begun.rounds (mid.take 60) i∧(s.whole mid).M.K.ph=4∧(s.whole mid).Ok:=by
 have h4:(s.begun.rounds (mid.take 60) i).M.K.ph=4∧i≤4+s.M.P.n:=by
  rcases h.at'.at' with h | h | h | h | h
  all_goals omega
 have e:s.whole mid=s.begun.rounds (mid.take 60) i:=by
  unfold Sys.whole
  have:=h.at'.ok.m.n1
  rw [h.at'.nn] at this
  obtain⟨d,hd⟩:∃ d,2 * s.M.P.n+21=i+d:=⟨2 * s.M.P.n+21 - i,by omega⟩
  rw [hd,Sys.rounds_stay hp]
 exact⟨e,by rw [e];exact h4.1,by rw [e];exact h.at'.ok⟩
end Go.Proofs.YtkpnmajocgcccaaGreat
namespace Go.Proofs.YtkpnmajocgcccaaGreat
open Go.ChangeShapes Go.WideShapes Go.ChangeAt Go.RowKit Go.Deep
set_option linter.unusedVariables false
structure MvCell (w:World) (b o:Nat) (x:Mv):Prop where
 by':x.Byte
 c0:w.cell? ⟨b,o,none⟩=some (.int .u8 x.kind)
 c1:w.cell? ⟨b,o+1,none⟩=some (.int .u8 x.m)
 c2:w.cell? ⟨b,o+2,none⟩=some (.int .u8 x.a)
 c3:w.cell? ⟨b,o+3,none⟩=some (.int .u8 x.b)
 c4:w.cell? ⟨b,o+4,none⟩=some (.int .u8 x.c)
def MvRow (w:World) (v:Value) (l:List Mv):Prop:=∃ a cap,v = .slice a l.length cap∧l.length≤cap∧cap≤maxLen∧(l=[]∨∃ b off,a=some ⟨b,off,none⟩∧b<w.heap.size∧∀ (i:Nat) (x:Mv),l[i]?=some x→MvCell w b (off+i * 5) x)
theorem MvCell.same {w w':World} {b o:Nat} {x:Mv} (h:MvCell w b o x) (hb:w'.heap[b]?=w.heap[b]?):MvCell w' b o x:=by
 have e:=fun k=>World.cell?_of_block (w:=w) (w':=w') (a:=⟨b,k,none⟩) hb
 exact⟨h.by',(e _).trans h.c0,(e _).trans h.c1,(e _).trans h.c2,(e _).trans h.c3,(e _).trans h.c4⟩
theorem MvRow.keeps0 {w w':World} {v:Value} {l:List Mv} (h:MvRow w v l) (hk:Keeps (fun _=>False) w w'):MvRow w' v l:=by
 obtain⟨a,cap,h1,h2,h3,h4⟩:=h
 refine⟨a,cap,h1,h2,h3,?_⟩
 rcases h4 with h4 | ⟨b,off,e,hb,hx⟩
 ·exact .inl h4
 ·exact .inr ⟨b,off,e,Nat.lt_of_lt_of_le hb hk.size,fun i x hi=>(hx i x hi).same (hk.block b hb (fun h=>h))⟩
theorem byte_of {u:Value} (h:Flat.Ok (.int .u8) u):∃ n:Nat,u = .int .u8 n∧n<256:=by
 obtain⟨n,rfl,hn⟩:=h
 have:0≤n∧n<256:=by
  have e1:IntKind.u8.min=0:=by decide
  have e2:IntKind.u8.max=255:=by decide
  simp [Lit.wf,e1,e2] at hn
  omega
 exact⟨n.toNat,by rw [Int.toNat_of_nonneg this.1],by omega⟩
structure SetupAt (w:World) (v:Value) (x y:Nat) (l mid:List Mv):Prop where
 x':x<256
 y':y<256
 ex:∃ v1 v2,v = .agg #[.int .u8 x,.int .u8 y,v1,v2]∧MvRow w v1 l∧MvRow w v2 mid
theorem SetupAt.keeps0 {w w':World} {v:Value} {x y:Nat} {l mid:List Mv} (h:SetupAt w v x y l mid) (hk:Keeps (fun _=>False) w w'):SetupAt w' v x y l mid:=by
 obtain⟨h1,h2,v1,v2,h3,h4,h5⟩:=h
 exact⟨h1,h2,v1,v2,h3,h4.keeps0 hk,h5.keeps0 hk⟩
end Go.Proofs.YtkpnmajocgcccaaGreat
namespace Go.Proofs.YtkpnmajocgcccaaGreat
open Go.RowKit
set_option linter.unusedVariables false
end Go.Proofs.YtkpnmajocgcccaaGreat
namespace Go.Proofs.YtkpnmajocgcccaaGreat
open Go.RowKit
set_option linter.unusedVariables false
theorem Mk.Ok.new {n k s p:Nat} (n1:1≤n) (n2:n≤256) (k1:1≤k) (k4:k≤4):(Mk.new n k s p).Ok:=
 ⟨n1,n2,k1,k4,Nat.zero_le _,fun _=>⟨Int.le_refl _,by show (0:Int)<n;omega⟩,fun _ _ _=>⟨Int.le_refl _,by show (0:Int)<n;omega⟩⟩
def Sys.new (n ms:Nat):Sys:=⟨Ar.new n ms 1,Mk.new n ms 2 2⟩
theorem Sys.Ok.new {n ms:Nat} (n1:1≤n) (n2:n≤256) (k1:1≤ms) (k4:ms≤4):(Sys.new n ms).Ok:=
 ⟨Ar.Ok.new n1 n2 k1 k4 (by omega) (by omega),Mk.Ok.new n1 n2 k1 k4,rfl,rfl,⟨fun _ h=>absurd h (Nat.not_lt_zero _),fun _ _ h=>absurd h (Nat.not_lt_zero _)⟩⟩
def Sys.moves (s:Sys) (l:List Mv) (ms:Nat):Nat→Sys
 | 0=>s
 | k+1=>match l[k]? with
  | some x=>x.doR (s.moves l ms k) ms
  | none=>s.moves l ms k
def Sys.made (n ms:Nat) (l mid:List Mv):Sys:=((Sys.new n ms).moves (l.take 60) ms (l.take 60).length).marked mid
end Go.Proofs.YtkpnmajocgcccaaGreat
namespace Go.Proofs.YtkpnmajocgcccaaGreat
open Go.ChangeShapes Go.WideShapes Go.ChangeAt Go.RowKit Go.Deep
set_option linter.unusedVariables false
end Go.Proofs.YtkpnmajocgcccaaGreat
