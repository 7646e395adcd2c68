import Derived.Test.YtnlkfbndlngjaaaGreatNgC
import Derived.Test.YtnlkfbndlngjaaaGreatNgD
set_option maxHeartbeats 4000000
set_option maxRecDepth 100000
namespace Go.Proofs.YtnlkfbndlngjaaaGreat
open Go.RowKit
set_option linter.unusedVariables false
set_option linter.unusedSimpArgs false
structure Trio (w0 w:World) (a m b:Nat) (LA:ArL) (LM:MkL) (s:Sys) (S:Sw):Prop where
 both:Both w0 w a m LA LM s
 sw:SwAt w b S
 hb:w0.heap.size≤b
theorem Trio.same {w0 w w':World} {a m b:Nat} {LA:ArL} {LM:MkL} {s:Sys} {S:Sw} (h:Trio w0 w a m b LA LM s S) (hk:Keeps (fun _=>False) w w'):Trio w0 w' a m b LA LM s S:=
 ⟨Duo.same h.both hk,h.sw.keeps hk (fun h=>h),h.hb⟩
theorem Trio.far {w0 w w':World} {a m b:Nat} {LA:ArL} {LM:MkL} {s:Sys} {S:Sw} (h:Trio w0 w a m b LA LM s S) (hk:Keeps (fun y=>y=b) w w') {S':Sw} (hs:SwAt w' b S'):Trio w0 w' a m b LA LM s S':=
 ⟨Both.sw h.both h.sw hk h.hb,hs,h.hb⟩
theorem Trio.kp {w0 w:World} {a m b:Nat} {LA:ArL} {LM:MkL} {s:Sys} {S:Sw} (h:Trio w0 w a m b LA LM s S):Keeps (fun _=>False) w0 w:=Duo.kp h.both
theorem trio_begin {w0 w:World} {a m b:Nat} {LA:ArL} {LM:MkL} {s:Sys} {S:Sw} (h:Trio w0 w a m b LA LM s S):
 Calls Tryz.prog 16 #[.pointer (some ⟨b,0,none⟩)] w fun e w'=>e = .returned (.int .i64 0)∧Trio w0 w' a m b LA LM s ⟨S.size,0,0⟩∧Keeps (fun y=>y=b) w w':=by
 refine (swbegin_ok b S w h.sw).mono ?_
 rintro e w' ⟨rfl,hk,hs⟩
 exact⟨rfl,h.far hk hs,hk⟩
theorem trio_step {w0 w:World} {a m b:Nat} {LA:ArL} {LM:MkL} {s:Sys} {S:Sw} (h:Trio w0 w a m b LA LM s S) (hok:s.Ok) (hc:S.chk s.A s.M=0):
 Calls Tryz.prog 8 #[.pointer (some ⟨b,0,none⟩),.pointer (some ⟨a,0,none⟩),.pointer (some ⟨m,0,none⟩)] w fun e w'=>e = .returned (.tuple #[(S.stepR s).r.val,.bool (S.stepR s).is,.int .i64 0])∧Trio w0 w' a m b LA LM (S.stepR s).s (S.stepR s).S∧Keeps (fun y=>y=b∨foot2 LA LM s y) w w':=by
 refine (swstep_ok a m b s S w h.both h.sw h.hb hok hc).mono ?_
 rintro e w' ⟨rfl,hd,hs,hk⟩
 exact⟨rfl,⟨hd,hs,h.hb⟩,hk⟩
theorem trio_step_err {w0 w:World} {a m b:Nat} {LA:ArL} {LM:MkL} {s:Sys} {S:Sw} (h:Trio w0 w a m b LA LM s S) {k:Int} (hc:S.chk s.A s.M=k) (hk:(k == 0)=false):
 Calls Tryz.prog 8 #[.pointer (some ⟨b,0,none⟩),.pointer (some ⟨a,0,none⟩),.pointer (some ⟨m,0,none⟩)] w fun e w'=>e = .returned (.tuple #[.agg #[.int .i64 0,.int .u32 0],.bool false,.int .i64 k])∧Keeps (fun _=>False) w w':=
 swstep_err (w0:=w0) (LA:=LA) (LM:=LM) _ _ b w k hk (fun W hW=>by
  rw [← hc];exact swcheck b a m S LA LM s.A s.M W (h.sw.keeps hW (fun h=>h)) (h.both.ar.keeps0 hW) (h.both.mm.keeps0 hW))
theorem begun25 (v:Value) (x y:Nat) (l mid:List Mv) (w:World) (hv:SetupAt w v x y l mid):
 Calls Tryz.prog 6 #[v] w fun e w'=>∃ a m b LA LM w0,e = .returned (.tuple #[.pointer (some ⟨a,0,none⟩),.pointer (some ⟨m,0,none⟩),.pointer (some ⟨b,0,none⟩),.bool true])∧Keeps (fun _=>False) w w0∧Trio w0 w' a m b LA LM (Sys.made (1+x % 24) (1+y % 2) l mid) ⟨1+x % 24,0,0⟩:=by
 have HMA:=hid (fun W (hk:Keeps (fun _=>False) w W)=>made25 v x y l mid W (hv.keeps0 hk))
 have hV:=hv
 obtain⟨hx,hy,v1,v2,rfl,hr1,hr2⟩:=hv
 have HSZ:=hid (fun W=>sizes25 x y v1 v2 W hx hy)
 obtain⟨n,hnn⟩:∃ n,1+x % 24=n:=⟨_,rfl⟩
 obtain⟨ms,hmm⟩:∃ ms,1+y % 2=ms:=⟨_,rfl⟩
 have hn24:1≤n∧n≤24:=by omega
 rw [hnn,hmm] at HSZ HMA
 rw [hnn,hmm]
 obtain⟨wB,hwB⟩:∃ wB,w.alloc (.cells #[.int .u8 x,.int .u8 y,v1,v2] 24)=wB:=⟨_,rfl⟩
 have hkB:Keeps (fun _=>False) w wB:=by rw [← hwB];exact (Keeps.refl _ _).alloc _
 have hqB:wB.heap[w.heap.size]?=some (.cells #[.int .u8 x,.int .u8 y,v1,v2] 24):=by rw [← hwB];exact alloc_new
 have hbl0:=lt_block hqB
 obtain⟨z0,z1,z2,z3,_⟩:=cells4 hqB
 have HQB:=hid hqB;have HKB:=hid hkB
 clear hr1 hr2 hqB hV hkB
 go_enter Tryz.func6,Tryz.ntmps6
 go_wp2_with fail
 refine (HMA.out _ HKB.out).mono ?_
 rintro e w1 ⟨a,m,LA,LM,w0,rfl,k0,hd⟩
 have HK0:=hid (HKB.out.trans k0)
 have HD1:=hid hd
 have hq1:=block_keep HQB.out (k0.trans (Duo.kp hd)) (fun h=>h)
 have HQ1:=hid hq1
 obtain⟨y0,y1,y2,y3,_⟩:=cells4 hq1
 have hbl1:=lt_block hq1
 clear k0 hd hq1 z0 z1 z2 z3 hbl0
 go_wp2_with fail
 refine (HSZ.out _).mono ?_
 rintro e w2 ⟨rfl,k2⟩
 have HD2:=hid (Duo.same HD1.out k2)
 clear k2
 go_wp2_with fail
 refine (swnew_ok n w2 hn24.1 (by omega)).mono ?_
 rintro e w3 ⟨rfl,k3,hs3⟩
 have HT3:=hid (show Trio w0 w3 a m w2.heap.size LA LM _ _ from⟨Duo.same HD2.out k3,hs3,HD2.out.kp.size⟩)
 clear k3 hs3
 obtain⟨b,hb⟩:∃ b,w2.heap.size=b:=⟨_,rfl⟩
 rw [hb] at HT3 ⊢
 clear hb
 have HBG:=hid (trio_begin HT3.out)
 go_wp2_with fail
 refine HBG.out.mono ?_
 rintro e w4 ⟨rfl,ht4,_⟩
 have HT4:=hid ht4
 clear ht4
 go_wp2_with fail
 refine bodyPost_ret_by (v:=.tuple #[.pointer (some ⟨a,0,none⟩),.pointer (some ⟨m,0,none⟩),.pointer (some ⟨b,0,none⟩),.bool true]) (by simp [results,Tryz.results6,go_sem, *]) rfl ⟨a,m,b,LA,LM,w0,rfl,HK0.out,HT4.out⟩
end Go.Proofs.YtnlkfbndlngjaaaGreat
namespace Go.Proofs.YtnlkfbndlngjaaaGreat
open Go.RowKit
theorem marked_all {s:Sys} (hok:s.Ok) (hp:s.M.K.ph=0) (mid:List Mv):(s.marked mid).Ok∧(s.marked mid).M.K.ph=5∧(s.marked mid).M.K.cy=s.M.K.cy∧(s.marked mid).M.K.many=s.M.K.many∧(s.marked mid).M.P.n=s.M.P.n:=by
 have key:∀ i,∃ j,Half s mid j∧s.begun.rounds (mid.take 60) i=s.begun.rounds (mid.take 60) j∧(j=i∨4≤(s.begun.rounds (mid.take 60) i).M.K.ph):=by
  intro i
  induction i with
  | zero=>exact⟨0,Half.zero hok hp mid,rfl,.inl rfl⟩
  | succ i ih=>
   obtain⟨j,h2,h3,h5⟩:=ih
   by_cases h4:4≤(s.begun.rounds (mid.take 60) i).M.K.ph
   ·have e:=Sys.rounds_stay h4 1
    exact⟨j,h2,e.trans h3,.inr (by rw [e];exact h4)⟩
   ·obtain rfl:=h5.resolve_right h4
    exact⟨j+1,h2.next (by omega),rfl,.inl rfl⟩
 obtain⟨j,h1,h2,h3⟩:=key (4+s.M.P.n)
 have h4:4≤(s.begun.rounds (mid.take 60) j).M.K.ph:=by
  rcases h3 with rfl | h3
  ·rcases Nat.lt_or_ge (s.begun.rounds (mid.take 60) (4+s.M.P.n)).M.K.ph 4 with h | h
   ·have:=h1.le h;omega
   ·exact h
  ·rw [h2] at h3;exact h3
 obtain⟨d1,d2,d3⟩:=h1.done h4
 obtain⟨m1,m2,m3,m4⟩:=Sys.marked_of d2 d3
 have e1:(s.whole mid).M.K.cy=s.M.K.cy:=by rw [d1];exact h1.cy
 have e2:(s.whole mid).M.K.many=s.M.K.many:=by rw [d1];exact h1.many
 have e3:(s.whole mid).M.P.n=s.M.P.n:=by rw [d1];exact h1.at'.nn
 clear d1 h1 h2 h3 h4 key
 generalize s.marked mid=u at *
 generalize s.whole mid=t at *
 subst m1
 refine⟨m2,m3,?_,e2,e3⟩
 show (if t.M.K.ph=5 then _ else t.M.K.cy)=_
 rw [if_neg (by omega)];exact e1
theorem made_all {n ms:Nat} (n1:1≤n) (n2:n≤256) (k1:1≤ms) (k4:ms≤4) (l mid:List Mv):(Sys.made n ms l mid).Ok∧(Sys.made n ms l mid).M.K.ph=5∧(Sys.made n ms l mid).M.K.cy=0∧(Sys.made n ms l mid).M.K.many=ms∧(Sys.made n ms l mid).M.P.n=n:=by
 have hok:=Sys.Ok.new n1 n2 k1 k4
 have hn:=Sys.moves_next hok (l.take 60) ms (l.take 60).length
 obtain⟨h1,h2,h3,h4,h5⟩:=marked_all hn.ok (by rw [hn.K];rfl) mid
 unfold Sys.made
 exact⟨h1,h2,h3.trans (by rw [hn.K];rfl),h4.trans (by rw [hn.K];rfl),h5.trans (by rw [hn.n];rfl)⟩
theorem Sys.free_M {s:Sys} {i:Nat} (hi:i<s.M.P.n):(s.free i).M={ s.M with P:=s.M.P.put i 0 }:=by
 show (s.M.freedR i).1=_
 unfold Mk.freedR;rw [if_neg (by omega),Int.toNat_natCast]
theorem Sw.step_all {S:Sw} {s:Sys} (h:s.Ok) (hn:S.next<s.M.P.n):(S.stepR s).s.Ok∧(S.stepR s).s.M.K=s.M.K∧(S.stepR s).s.M.P.n=s.M.P.n∧(S.stepR s).S.size=S.size∧(S.stepR s).S.next=S.next+1:=by
 unfold Sw.stepR
 split
 ·exact⟨h,rfl,rfl,rfl,rfl⟩
 ·rename_i hc
  have h0:s.M.P.c S.next=0:=Decidable.not_not.1 (fun hx=>hc (.inl hx))
  have hM:=Sys.free_M (s:=s) hn
  refine⟨h.free hn h0,?_,?_,rfl,rfl⟩
  ·show (s.free S.next).M.K=_;rw [hM]
  ·show (s.free S.next).M.P.n=_;rw [hM];rfl
def wL5:List Mv:=[⟨0,0,0,0,0⟩,⟨0,0,0,0,0⟩,⟨0,0,0,0,0⟩,⟨4,0,2,0,0⟩,⟨4,0,0,0,0⟩]
def wT:Sys:=Sys.made 3 1 wL5 []
def wR1:SwRes:=Sw.stepR ⟨3,0,0⟩ wT
def wR2:SwRes:=Sw.stepR ⟨3,1,1⟩ wR1.s
def wR3:SwRes:=Sw.stepR ⟨3,2,1⟩ wR2.s
theorem wT_ok:wT.Ok:=by unfold wT;exact (made_all (n:=3) (ms:=1) (by decide) (by decide) (by decide) (by decide) wL5 []).1
theorem wT_n:wT.M.P.n=3:=by unfold wT;exact (made_all (n:=3) (ms:=1) (by decide) (by decide) (by decide) (by decide) wL5 []).2.2.2.2
theorem wT_8:(Sw.mk 3 3 0).chk wT.A wT.M=8:=by kernel_rfl
theorem wT_0:(Sw.mk 3 0 0).chk wT.A wT.M=0:=by kernel_rfl
theorem wR1_S:wR1.S=⟨3,1,1⟩:=by kernel_rfl
theorem wR1_r:wR1.r=⟨0,1⟩:=by kernel_rfl
theorem wR1_is:wR1.is=true:=by kernel_rfl
theorem wR1_0:(Sw.mk 3 1 1).chk wR1.s.A wR1.s.M=0:=by kernel_rfl
theorem wR2_S:wR2.S=⟨3,2,1⟩:=by kernel_rfl
theorem wR2_r:wR2.r = .no:=by kernel_rfl
theorem wR2_is:wR2.is=false:=by kernel_rfl
theorem wR2_0:(Sw.mk 3 2 1).chk wR2.s.A wR2.s.M=0:=by kernel_rfl
theorem wR3_S:wR3.S=⟨3,3,2⟩:=by kernel_rfl
theorem wR3_r:wR3.r=⟨2,1⟩:=by kernel_rfl
theorem wR3_is:wR3.is=true:=by kernel_rfl
theorem wR3_8:(Sw.mk 3 3 2).chk wR3.s.A wR3.s.M=8:=by kernel_rfl
theorem wR1_ok:wR1.s.Ok∧wR1.s.M.P.n=3:=by
 obtain⟨h1,h2,h3,_⟩:=Sw.step_all (S:=⟨3,0,0⟩) wT_ok (by rw [wT_n];decide)
 unfold wR1
 exact⟨h1,h3.trans wT_n⟩
theorem wR2_ok:wR2.s.Ok∧wR2.s.M.P.n=3:=by
 obtain⟨h1,h2,h3,_⟩:=Sw.step_all (S:=⟨3,1,1⟩) wR1_ok.1 (by rw [wR1_ok.2];decide)
 unfold wR2
 exact⟨h1,h3.trans wR1_ok.2⟩
end Go.Proofs.YtnlkfbndlngjaaaGreat
namespace Go.Proofs.YtnlkfbndlngjaaaGreat
open Go.RowKit
set_option linter.unusedVariables false
set_option linter.unusedSimpArgs false
theorem wrow {w:World} {b:Nat} (h:w.heap[b]?=some (.cells #[.int .u8 0,.int .u8 0,.int .u8 0,.int .u8 0,.int .u8 0,.int .u8 0,.int .u8 0,.int .u8 0,.int .u8 0,.int .u8 0,.int .u8 0,.int .u8 0,.int .u8 0,.int .u8 0,.int .u8 0,.int .u8 4,.int .u8 0,.int .u8 2,.int .u8 0,.int .u8 0,.int .u8 4,.int .u8 0,.int .u8 0,.int .u8 0,.int .u8 0] 107)):
 SetupAt w (.agg #[.int .u8 2,.int .u8 0,.slice (some ⟨b,0,none⟩) 5 5,.slice none 0 0]) 2 0 wL5 []:=by
 refine⟨by decide,by decide,_,_,rfl,⟨_,5,rfl,by decide,by decide,.inr ⟨b,0,rfl,lt_block h,fun i x hi=>?_⟩⟩,⟨none,0,rfl,by decide,by decide,.inl rfl⟩⟩
 have hb:∀ x:Mv,x∈wL5→x.Byte:=by
  intro x hx
  simp only [wL5,List.mem_cons,List.not_mem_nil,or_false] at hx
  rcases hx with rfl | rfl | rfl | rfl | rfl <;> exact⟨by decide,by decide,by decide,by decide,by decide⟩
 have hbx:=hb x (List.mem_of_getElem? hi)
 match i,hi with
 | 0,hi=>obtain rfl:_=x:=Option.some.inj hi;exact⟨hbx,cell_at h rfl,cell_at h rfl,cell_at h rfl,cell_at h rfl,cell_at h rfl⟩
 | 1,hi=>obtain rfl:_=x:=Option.some.inj hi;exact⟨hbx,cell_at h rfl,cell_at h rfl,cell_at h rfl,cell_at h rfl,cell_at h rfl⟩
 | 2,hi=>obtain rfl:_=x:=Option.some.inj hi;exact⟨hbx,cell_at h rfl,cell_at h rfl,cell_at h rfl,cell_at h rfl,cell_at h rfl⟩
 | 3,hi=>obtain rfl:_=x:=Option.some.inj hi;exact⟨hbx,cell_at h rfl,cell_at h rfl,cell_at h rfl,cell_at h rfl,cell_at h rfl⟩
 | 4,hi=>obtain rfl:_=x:=Option.some.inj hi;exact⟨hbx,cell_at h rfl,cell_at h rfl,cell_at h rfl,cell_at h rfl,cell_at h rfl⟩
 | n+5,hi=>simp [wL5] at hi
theorem Trio.noref {w0 w:World} {a m b:Nat} {LA:ArL} {LM:MkL} {s:Sys} {S:Sw} (h:Trio w0 w a m b LA LM s S) {x:Nat} {c:Array Value} (hx:w.heap[x]?=some (.cells c 34)):¬ (x=b∨foot2 LA LM s x):=by
 obtain⟨⟨h1,h2,_,_⟩,hs,_⟩:=h
 obtain⟨_,_,hhp,⟨cg,hcg,_⟩,hst,_⟩:=h1
 obtain⟨⟨cy,hcy,_⟩,⟨cz,hcz,_⟩,_,_⟩:=hhp
 obtain⟨_,_,ek,⟨ep,hep,_⟩,⟨es,hes,_⟩,eb,_⟩:=h2
 rintro (h | h)
 ·exact type_ne hx hs.own (by decide) h
 rcases h with h | h
 ·rcases h with h | h | h | ⟨k,hk,h⟩
  ·exact type_ne hx hcy (by decide) h
  ·exact type_ne hx hcz (by decide) h
  ·exact type_ne hx hcg (by decide) h
  ·obtain⟨c,hc,_⟩:=hst k hk;exact type_ne hx hc (by decide) h
 ·rcases h with h | h | h | ⟨k,hk,h⟩
  ·exact type_ne hx ek.own (by decide) h
  ·exact type_ne hx hep (by decide) h
  ·exact type_ne hx hes (by decide) h
  ·obtain⟨c,hc,_⟩:=eb k hk;exact type_ne hx hc (by decide) h
section
variable {w0 w:World} {a m b:Nat} {LA:ArL} {LM:MkL}
theorem wstep1 (h:Trio w0 w a m b LA LM wT ⟨3,0,0⟩):Calls Tryz.prog 8 #[.pointer (some ⟨b,0,none⟩),.pointer (some ⟨a,0,none⟩),.pointer (some ⟨m,0,none⟩)] w fun e w'=>e = .returned (.tuple #[.agg #[.int .i64 0,.int .u32 1],.bool true,.int .i64 0])∧Trio w0 w' a m b LA LM wR1.s ⟨3,1,1⟩∧Keeps (fun y=>y=b∨foot2 LA LM wT y) w w':=by
 have hh:=trio_step h wT_ok wT_0
 have e1:Sw.stepR ⟨3,0,0⟩ wT=wR1:=by unfold wR1;rfl
 rw [e1,wR1_S,wR1_r,wR1_is] at hh
 exact hh
theorem wstep2 (h:Trio w0 w a m b LA LM wR1.s ⟨3,1,1⟩):Calls Tryz.prog 8 #[.pointer (some ⟨b,0,none⟩),.pointer (some ⟨a,0,none⟩),.pointer (some ⟨m,0,none⟩)] w fun e w'=>e = .returned (.tuple #[.agg #[.int .i64 0,.int .u32 0],.bool false,.int .i64 0])∧Trio w0 w' a m b LA LM wR2.s ⟨3,2,1⟩∧Keeps (fun y=>y=b∨foot2 LA LM wR1.s y) w w':=by
 have hh:=trio_step h wR1_ok.1 wR1_0
 have e1:Sw.stepR ⟨3,1,1⟩ wR1.s=wR2:=by unfold wR2;rfl
 rw [e1,wR2_S,wR2_r,wR2_is] at hh
 exact hh
theorem wstep3 (h:Trio w0 w a m b LA LM wR2.s ⟨3,2,1⟩):Calls Tryz.prog 8 #[.pointer (some ⟨b,0,none⟩),.pointer (some ⟨a,0,none⟩),.pointer (some ⟨m,0,none⟩)] w fun e w'=>e = .returned (.tuple #[.agg #[.int .i64 2,.int .u32 1],.bool true,.int .i64 0])∧Trio w0 w' a m b LA LM wR3.s ⟨3,3,2⟩∧Keeps (fun y=>y=b∨foot2 LA LM wR2.s y) w w':=by
 have hh:=trio_step h wR2_ok.1 wR2_0
 have e1:Sw.stepR ⟨3,2,1⟩ wR2.s=wR3:=by unfold wR3;rfl
 rw [e1,wR3_S,wR3_r,wR3_is] at hh
 exact hh
end
theorem works25 (w:World):Calls Tryz.prog 15 #[] w fun e w'=>e = .returned (.bool true)∧Keeps (fun _=>False) w w':=by
 have HMA:=hid (fun W (hk:Keeps (fun _=>False) w W) v (hv:SetupAt W v 2 0 wL5 [])=>(show Calls Tryz.prog 29 #[v] W fun e w'=>∃ a m LA LM w0,e = .returned (.tuple #[.pointer (some ⟨a,0,none⟩),.pointer (some ⟨m,0,none⟩),.bool true])∧Keeps (fun _=>False) W w0∧Both w0 w' a m LA LM wT by unfold wT;exact made25 v 2 0 wL5 [] W hv))
 go_enter Tryz.func15,Tryz.ntmps15
 go_wp2_with fail
 refine (HMA.out _ (((Keeps.refl _ _).alloc _).alloc _) _ (wrow (alloc_old alloc_new))).mono ?_
 rintro e w1 ⟨a,m,LA,LM,w0,rfl,k0,hd⟩
 have HK0:=hid (show Keeps (fun _=>False) w w0 from (((Keeps.refl _ _).alloc _).alloc _).trans k0)
 have HD1:=hid hd
 clear k0 hd HMA
 go_wp2_with fail
 refine (swnew_ok 3 w1 (by decide) (by decide)).mono ?_
 rintro e w3 ⟨rfl,k3,hs3⟩
 have HT3:=hid (show Trio w0 w3 a m w1.heap.size LA LM wT ⟨3,3,0⟩ from⟨Duo.same HD1.out k3,hs3,HD1.out.kp.size⟩)
 clear k3 hs3
 obtain⟨b,hb⟩:∃ b,w1.heap.size=b:=⟨_,rfl⟩
 rw [hb] at HT3 ⊢
 clear hb HD1
 go_wp2_with fail
 refine (show Calls Tryz.prog 12 _ _ (fun e w'=>e = .returned (.bool true)∧Keeps (fun _=>False) w3 w') from swdone_ok b ⟨3,3,0⟩ w3 HT3.out.sw).mono ?_
 rintro e w4 ⟨rfl,k4⟩
 have HT4:=hid (HT3.out.same k4)
 clear k4 HT3
 go_wp2_with fail
 refine ((show Calls Tryz.prog 11 _ _ (fun e w'=>e = .returned (.int .i64 3)∧w'=w4) from swat_ok b ⟨3,3,0⟩ w4 HT4.out.sw)).mono ?_
 rintro e w' ⟨rfl,h'⟩
 obtain rfl:=h'.symm
 go_wp2_with fail
 refine (trio_step_err HT4.out wT_8 rfl).mono ?_
 rintro e w5 ⟨rfl,k5⟩
 have HT5:=hid (HT4.out.same k5)
 clear k5 HT4
 go_wp2_with fail
 have HT5':=hid (HT5.out.same ((Keeps.refl _ _).alloc (.cells #[.int .i64 0,.int .u32 0] 34)))
 refine (trio_begin HT5'.out).mono ?_
 rintro e w6 ⟨rfl,ht,_⟩
 have HT6:=hid ht
 clear ht HT5 HT5'
 go_wp2_with fail
 refine (wstep1 HT6.out).mono ?_
 rintro e w7 ⟨rfl,ht,_⟩
 have HT7:=hid ht
 clear ht HT6
 go_wp2_with fail
 have HT7':=hid (HT7.out.same ((Keeps.refl _ _).alloc (.cells #[.int .i64 0,.int .u32 1] 34)))
 refine (wstep2 HT7'.out).mono ?_
 rintro e w8 ⟨rfl,ht,hk⟩
 have HT8:=hid ht
 have HQ8:=hid (block_keep (alloc_new (w:=w7)) hk (HT7'.out.noref alloc_new))
 clear ht hk HT7 HT7'
 go_wp2_with fail
 have HT8':=hid (HT8.out.same ((Keeps.refl _ _).alloc (.cells #[.int .i64 0,.int .u32 0] 34)))
 refine (wstep3 HT8'.out).mono ?_
 rintro e w9 ⟨rfl,ht,hk⟩
 have HT9:=hid ht
 have HQ9:=hid (block_keep (alloc_old HQ8.out) hk (HT8'.out.noref (alloc_old HQ8.out)))
 clear ht hk HT8 HT8' HQ8
 go_wp2_with fail
 have HT9':=hid (HT9.out.same ((Keeps.refl _ _).alloc (.cells #[.int .i64 2,.int .u32 1] 34)))
 refine (trio_step_err HT9'.out wR3_8 rfl).mono ?_
 rintro e w10 ⟨rfl,hk⟩
 have HT10:=hid ((HT9'.out.same hk).same ((Keeps.refl _ _).alloc (.cells #[.int .i64 0,.int .u32 0] 34)))
 obtain⟨x0,x1,xf,xl⟩:=cells2 (block_keep (alloc_old HQ9.out) hk (fun h=>h))
 obtain⟨y0,y1,yf,yl⟩:=cells2 (block_keep (alloc_new (w:=w9)) hk (fun h=>h))
 clear hk HT9 HT9' HQ9 xf yf
 go_wp2_with fail
 refine (show Calls Tryz.prog 12 _ _ (fun e w'=>e = .returned (.bool true)∧Keeps (fun _=>False) (w10.alloc (.cells #[.int .i64 0,.int .u32 0] 34)) w') from swdone_ok b ⟨3,3,2⟩ _ HT10.out.sw).mono ?_
 rintro e w11 ⟨rfl,hk⟩
 have HT11:=hid (HT10.out.same hk)
 clear hk HT10
 go_wp2_with fail
 refine ((show Calls Tryz.prog 10 _ _ (fun e w'=>e = .returned (.int .i64 2)∧w'=w11) from swfreed_ok b ⟨3,3,2⟩ w11 HT11.out.sw)).mono ?_
 rintro e w' ⟨rfl,h'⟩
 obtain rfl:=h'.symm
 go_wp2_with fail
 go_ret
 exact⟨rfl,HK0.out.trans HT11.out.kp⟩
end Go.Proofs.YtnlkfbndlngjaaaGreat
