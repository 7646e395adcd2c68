import Derived.Test.YtnlkfbndlngjaaaGreatNgB
import Derived.Test.YtnlkfbndlngjaaaGreatRiW
import Derived.Test.YtnlkfbndlngjaaaGreatRiZ
import Derived.Test.YtnlkfbndlngjaaaGreatRjC
set_option maxHeartbeats 4000000
set_option maxRecDepth 100000
namespace Go.Proofs.YtnlkfbndlngjaaaGreat
open Go.RowKit
attribute [local go_sem] Oper.semAt_some
set_option linter.unusedVariables false
set_option linter.unusedSimpArgs false
section
variable {w0 w w':World} {p a m x y q:Nat} {LA:ArL} {LM:MkL} {A:Ar} {M:Mk}
theorem pmut (d mm aa bb cc:Int) (r z:Rf) (h:Pq w0 w p a m LA LM x y A M q) (hd:0≤d∧d≤5):
 Calls Tryz.prog 70 #[.pointer (some ⟨p,0,none⟩),.agg #[.int .i64 d,.int .i64 mm,.int .i64 aa,.int .i64 bb,.int .i64 cc,.int .i64 r.s,.int .u32 r.g,.int .i64 z.s,.int .u32 z.g]] w fun e w'=>e = .returned (.bool true)∧Nx w0 w w' p a m LA LM x y M q:=by
 by_cases h0:d=0
 ·subst h0;exact mut_make mm aa bb cc r z h
 ·have hcs:d=1∨d=2∨d=3∨d=4∨d=5:=by omega
  rcases hcs with rfl | rfl | rfl | rfl | rfl
  ·exact mut_load mm aa bb cc r z h
  ·exact mut_store mm aa bb cc r z h
  ·exact mut_drop mm aa bb cc r z h
  ·exact mut_put mm aa bb cc r z h
  ·exact mut_get mm aa bb cc r z h
theorem do_most (d mm aa bb cc:Int) (r z:Rf) (h:Pq w0 w p a m LA LM x y A M q) (hcy:M.K.cy<4611686018427387904) (hd:d≠14):
 Calls Tryz.prog 25 #[.pointer (some ⟨p,0,none⟩),.agg #[.int .i64 d,.int .i64 mm,.int .i64 aa,.int .i64 bb,.int .i64 cc,.int .i64 r.s,.int .u32 r.g,.int .i64 z.s,.int .u32 z.g]] w fun e w'=>e = .returned (.bool true)∧Nx w0 w w' p a m LA LM x y M q:=by
 by_cases h05:0≤d∧d≤5
 ·obtain⟨wB,hwB⟩:∃ wB,w.alloc (.cells #[.int .i64 d,.int .i64 mm,.int .i64 aa,.int .i64 bb,.int .i64 cc,.int .i64 r.s,.int .u32 r.g,.int .i64 z.s,.int .u32 z.g] 66)=wB:=⟨_,rfl⟩
  have hD:=h.dw ⟨d,mm,aa,bb,cc,r,z⟩
  have HD:=hid (show Dw w0 w wB w.heap.size p a m LA LM x y ⟨d,mm,aa,bb,cc,r,z⟩ A M A M q from by rw [← hwB];exact hD)
  have kB:Keeps (fun _=>False) w wB:=by rw [← hwB];exact (Keeps.refl _ _).alloc _
  have HWB:=hid hwB;have KB:=hid kB
  have HOK:=hid (And.intro h.ok (And.intro h.mo (And.intro h.hn h.hm)))
  have HCY:=hid hcy
  have HPQ:=hid (show Pq w0 wB p a m LA LM x y A M q from⟨HD.out.own,HD.out.fo,h.ok,h.mo,h.hn,h.hm⟩)
  have HPS:=hid (fun W (h:∃ A' M' A2 M2,Dw w0 w W w.heap.size p a m LA LM x y ⟨d,mm,aa,bb,cc,r,z⟩ A' M' A2 M2 q)=>(by obtain⟨_,_,_,_,h⟩:=h;exact h.cells:((W.cell? ⟨p,0,none⟩=some (.pointer (some ⟨a,0,none⟩))∧W.cell? ⟨p,1,none⟩=some (.pointer (some ⟨m,0,none⟩))∧W.cell? ⟨p,2,none⟩=some (.pointer (some ⟨x,0,none⟩))∧W.cell? ⟨p,3,none⟩=some (.pointer (some ⟨y,0,none⟩)))∧(W.cell? ⟨w.heap.size,0,none⟩=some (.int .i64 d)∧W.cell? ⟨w.heap.size,1,none⟩=some (.int .i64 mm)∧W.cell? ⟨w.heap.size,2,none⟩=some (.int .i64 aa)∧W.cell? ⟨w.heap.size,3,none⟩=some (.int .i64 bb)∧W.cell? ⟨w.heap.size,4,none⟩=some (.int .i64 cc))∧(W.cell? ⟨w.heap.size,5,none⟩=some (.int .i64 r.s)∧W.cell? ⟨w.heap.size,6,none⟩=some (.int .u32 r.g))∧(W.cell? ⟨w.heap.size,7,none⟩=some (.int .i64 z.s)∧W.cell? ⟨w.heap.size,8,none⟩=some (.int .u32 z.g)))))
  obtain⟨_,⟨d0,d1,d2,d3,d4⟩,⟨d5,d6⟩,d7,d8⟩:=HD.out.cells
  have HDD:=hid hd
  clear h hD hwB hd kB hcy
  have HMU:=hid (pmut d mm aa bb cc r z HPQ.out h05)
  have hcs:d=0∨d=1∨d=2∨d=3∨d=4∨d=5:=by omega
  clear h05
  rcases hcs with rfl | rfl | rfl | rfl | rfl | rfl
  all_goals
   go_enter Tryz.func25,Tryz.ntmps25
   go_upto_region 1 with (fail)
   rw [HWB.out]
   go_wp2_with fail
   refine HMU.out.mono ?_
   rintro e w7 ⟨rfl,hnx⟩
   have HN:=hid hnx
   clear hnx d0 d1 d2 d3 d4 d5 d6 d7 d8
   go_wp2_with fail
   go_ret
   obtain⟨A',M',h1,h2,h3,h4,h5⟩:=HN.out
   exact⟨rfl,A',M',h1,h2,h3,h4,Ft.trans KB.out.up h5⟩
 ·exact do_rest d mm aa bb cc r z h hcy hd h05
end
end Go.Proofs.YtnlkfbndlngjaaaGreat
namespace Go.Proofs.YtnlkfbndlngjaaaGreat
open Go.RowKit
attribute [local go_sem] Oper.semAt_some
set_option linter.unusedVariables false
set_option linter.unusedSimpArgs false
theorem marked24_any {w:World} {m q:Nat} {L:L24} {M:Mk} (s:Int) (h:R24 w m L M q):Calls Tryz.prog 86 #[.pointer (some ⟨m,0,none⟩),.int .i64 s] w fun e w'=>e = .returned (.tuple #[.bool (M.markedR s).1,.int .i64 (M.markedR s).2])∧w'=w:=by
 unfold Mk.markedR
 split
 ·rename_i hs
  exact marked24_range s h hs
 ·rename_i hs
  obtain⟨i,rfl⟩:∃ i:Nat,s=i:=⟨s.toNat,by omega⟩
  rw [Int.toNat_natCast]
  exact marked24_ok i h (by omega)
section
variable {w0 w w':World} {p a m x y q:Nat} {LA:ArL} {LM:MkL} {A:Ar} {M:Mk}
theorem alike24 (n:Nat) (h:Pq w0 w p a m LA LM x y A M q) (hn:n≤256):
 Calls Tryz.prog 26 #[.pointer (some ⟨p,0,none⟩),.int .i64 n] w fun e w'=>e = .returned (.bool true)∧Keeps (fun _=>False) w w':=by
 have HF:=hid (fun W (hk:Keeps (fun _=>False) w W)=>h.fo.quiet hk)
 have HPS:=hid (fun W (hk:Keeps (fun _=>False) w W)=>show W.cell? ⟨p,1,none⟩=some (.pointer (some ⟨m,0,none⟩))∧W.cell? ⟨p,3,none⟩=some (.pointer (some ⟨y,0,none⟩)) from by
  have q:=block_keep h.own hk (fun h=>h)
  exact⟨cell_at q rfl,cell_at q rfl⟩)
 have HD:=hid (fun W (hk:Keeps (fun _=>False) w W)=>show ∃ L,R24 W y L M q from by obtain⟨L,h1,_⟩:=(h.fo.quiet hk).d;exact⟨L,h1⟩)
 obtain⟨E,hE⟩:∃ E,decide (4≤M.K.ph)=E:=⟨_,rfl⟩
 have hE2:decide (4≤(M.K.ph:Int))=E:=by rw [← hE];congr 1;exact propext (by omega)
 have HE:=hid (And.intro hE hE2)
 clear h hE hE2
 go_enter Tryz.func26,Tryz.ntmps26
 go_upto_region 1 with (fail)
 have kd:Keeps (fun _=>False) w w.drew:=(Keeps.refl _ _).drew
 have hC1:=mphase m LM M w.drew (HF.out _ kd).du.mm
 obtain⟨L,hL⟩:=HD.out _ kd
 have hC2:=phase24R hL
 have hC3:=mended m LM M w.drew (HF.out _ kd).du.mm
 rw [HE.out.1] at hC3
 have hC4:=ended24 hL
 rw [HE.out.2] at hC4
 have hC5:=mcycles m LM M w.drew (HF.out _ kd).du.mm
 have hC6:=cycles24 hL
 have HC:=hid (And.intro hC1 (And.intro hC2 (And.intro hC3 (And.intro hC4 (And.intro hC5 hC6)))))
 clear hC1 hC2 hC3 hC4 hC5 hC6 hL
 go_region_held3 (fun W=>W.cell? ⟨p,1,none⟩=some (.pointer (some ⟨m,0,none⟩))∧W.cell? ⟨p,3,none⟩=some (.pointer (some ⟨y,0,none⟩)))
  ((exact HPS.out _ kd))
  (first
   | (go_at_call 27;refine HC.out.1.mono ?_;rintro e w' ⟨rfl,h'⟩;obtain rfl:=h'.symm)
   | (go_at_call 83;refine HC.out.2.1.mono ?_;rintro e w' ⟨rfl,h'⟩;obtain rfl:=h'.symm)
   | (go_at_call 55;refine HC.out.2.2.1.mono ?_;rintro e w' ⟨rfl,h'⟩;obtain rfl:=h'.symm)
   | (go_at_call 84;refine HC.out.2.2.2.1.mono ?_;rintro e w' ⟨rfl,h'⟩;obtain rfl:=h'.symm)
   | (go_at_call 57;refine HC.out.2.2.2.2.1.mono ?_;rintro e w' ⟨rfl,h'⟩;obtain rfl:=h'.symm)
   | (go_at_call 85;refine HC.out.2.2.2.2.2.mono ?_;rintro e w' ⟨rfl,h'⟩;obtain rfl:=h'.symm))
 have HKD:=hid kd
 clear HC kd
 go_wp2_with fail
 go_loopw [5] (fun ix wr=>∃ k:Int,-1≤k∧k≤(n:Int)+1∧ix = .int .i64 k∧Hid (Keeps (fun _=>False) w wr)) (fun ix _=>((n:Int)+1 - intOf ix).toNat)
 case atStart=>exact⟨-1,by omega,by omega,rfl,HKD⟩
 case round=>
  clear HKD
  obtain⟨k,hk1,hk2,rfl,HK⟩:=hrel
  obtain⟨c1,c3⟩:=HPS.out _ HK.out
  by_cases hle:k≤(n:Int)
  ·have HC:=hid (duo_marked_any (HF.out _ HK.out).du k)
   clear c3
   go_wp2_with fail
   refine HC.out.mono ?_
   rintro e w1 ⟨rfl,k1⟩
   have K1:=hid (HK.out.trans k1)
   obtain⟨c1',c3⟩:=HPS.out _ K1.out
   obtain⟨L2,hL⟩:=HD.out _ K1.out
   have HC2:=hid (marked24_any k hL)
   clear c1 c1' k1 hL
   go_wp2_with fail
   refine (HC2.out).mono ?_
   rintro e w' ⟨rfl,h'⟩
   obtain rfl:=h'.symm
   go_wp2_with fail
   exact⟨⟨k+1,by omega,by omega,by go_num,K1⟩,by simp [intOf];omega⟩
  ·clear c1 c3
   go_wp2_with fail
   go_ret
   exact⟨rfl,HK.out⟩
end
theorem mstep_argn (m a:Nat) (L:MkL) (M:Mk) (LA:ArL) (A:Ar) (w:World) (h:MkIn w m L M) (ha:ArIn w a LA A) (hn0:1≤A.H.T.n) (hn:A.H.T.n≠M.P.n):
 Calls Tryz.prog 28 #[.pointer (some ⟨m,0,none⟩),.pointer (some ⟨a,0,none⟩)] w fun e w'=>e = .returned (.int .i64 2)∧Keeps (fun _=>False) w w':=by
 have HCH:Calls Tryz.prog 88 #[.pointer (some ⟨m,0,none⟩),.pointer (some ⟨a,0,none⟩)] w fun e w'=>e = .returned (.int .i64 2)∧Keeps (fun _=>False) w w':=by
  have HV:=hid (mvalid m L M w h)
  have HS:=hid (asizes_ok a LA A w ha)
  have HM:=hid (fun (w':World) (hk:Keeps (fun _=>False) w w')=>cells6 (h.keeps0 hk).own)
  obtain⟨n',hn'⟩:∃ n',A.H.T.n=n':=⟨_,rfl⟩
  rw [hn'] at HS hn hn0
  have hq0:((n':Int) == 0)=false:=by simp;omega
  have hq1:((n':Int) == M.P.n)=false:=by simp;omega
  clear h ha hn hn' hn0
  go_enter Tryz.func88,Tryz.ntmps88
  go_wp2_with fail
  refine (HV.out).mono ?_
  rintro e w' ⟨rfl,h'⟩
  obtain rfl:=h'.symm
  go_wp2_with fail
  refine HS.out.mono ?_
  rintro e w1 ⟨rfl,hk⟩
  obtain⟨c0,c1,c2,c3,c4,c5,cl⟩:=HM.out _ hk
  have HK:=hid hk
  clear hk
  go_wp2_with fail
  go_ret
  exact⟨rfl,HK.out⟩
 have HC:=hid HCH
 clear h ha hn HCH
 go_enter Tryz.func28,Tryz.ntmps28
 go_wp2_with fail
 refine HC.out.mono ?_
 rintro e w1 ⟨rfl,hk1⟩
 have K1:=hid hk1
 clear hk1
 go_wp2_with fail
 go_ret
 exact⟨rfl,K1.out⟩
end Go.Proofs.YtnlkfbndlngjaaaGreat
namespace Go.Proofs.YtnlkfbndlngjaaaGreat
open Go.RowKit Go.ChangeShapes Go.WideShapes Go.ChangeAt Go.Deep
attribute [local go_sem] Oper.semAt_some
set_option linter.unusedVariables false
set_option linter.unusedSimpArgs false
theorem hnew_badM (n g:Int) (w:World) (hb:n<1∨256<n∨g<1):
 Calls Tryz.prog 66 #[.int .i64 n,.int .u32 g] w fun e w'=>e = .returned (.tuple #[.pointer none,.int .i64 2])∧w'=w:=by
 have hc:n<1∨(1≤n∧256<n)∨(1≤n∧n≤256∧g<1):=by omega
 clear hb
 rcases hc with h1 | ⟨h1,h2⟩ | ⟨h1,h2,h3⟩
 all_goals
  go_enter Tryz.func66,Tryz.ntmps66
  go_wp2_with fail
  go_ret2
  exact⟨rfl,rfl⟩
theorem anew_badM (n m g:Int) (w:World) (hb:(n<1∨256<n∨g<1)∨m<1∨4<m) (hg:g≤4294967295):
 Calls Tryz.prog 23 #[.int .i64 n,.int .i64 m,.int .u32 g] w fun e w'=>e = .returned (.tuple #[.pointer none,.int .i64 2])∧Keeps (fun _=>False) w w':=by
 by_cases h1:n<1∨256<n∨g<1
 ·have H:=hid (hnew_badM n g w h1)
  clear hb h1
  go_enter Tryz.func23,Tryz.ntmps23
  go_wp2_with fail
  refine H.out.mono ?_
  rintro e w1 ⟨rfl,hw⟩
  obtain rfl:=hw.symm
  go_wp2_with fail
  go_ret2
  exact⟨rfl,Keeps.refl _ _⟩
 ·have H:=hid (hnew_ok n g w (by omega) (by omega) (by omega) hg)
  have hc:m<1∨(¬ m<1∧4<m):=by omega
  clear hb h1
  rcases hc with h1 | ⟨h1,h2⟩
  all_goals
   go_enter Tryz.func23,Tryz.ntmps23
   go_wp2_with fail
   refine H.out.mono ?_
   rintro e w1 ⟨b',r',rfl,k1,_,_,_⟩
   go_wp2_with fail
   go_ret2
   exact⟨rfl,k1⟩
theorem anew_anyM (n m:Int) (w:World):Calls Tryz.prog 23 #[.int .i64 n,.int .i64 m,.int .u32 1] w fun e w'=>∃ P E,e = .returned (.tuple #[.pointer P,.int .i64 E])∧Keeps (fun _=>False) w w':=by
 by_cases hb:(n<1∨256<n∨(1:Int)<1)∨m<1∨4<m
 ·exact (anew_badM n m 1 w hb (by omega)).mono fun _ _ ⟨h1,h2⟩=>⟨_,_,h1,h2⟩
 ·obtain⟨k,rfl⟩:∃ k:Nat,m=k:=⟨m.toNat,by omega⟩
  exact (anew_ok n k 1 w (by omega) (by omega) (by omega) (by omega) (by omega) (by omega)).mono fun _ _ ⟨_,h1,h2,_⟩=>⟨_,_,h1,h2⟩
theorem new18_anyM (n m:Int) (w:World):Calls Tryz.prog 24 #[.int .i64 n,.int .i64 m,.int .u32 1] w fun e w'=>∃ P E,e = .returned (.tuple #[.pointer P,.int .i64 E])∧Keeps (fun _=>False) w w':=by
 by_cases hb:(n<1∨256<n∨(1:Int)<1)∨m<1∨4<m
 ·exact (new18_bad n m 1 hb (by omega)).mono fun _ _ ⟨h1,h2⟩=>⟨_,_,h1,h2⟩
 ·obtain⟨k,rfl⟩:∃ k:Nat,m=k:=⟨m.toNat,by omega⟩
  obtain⟨j,rfl⟩:∃ k:Nat,n=k:=⟨n.toNat,by omega⟩
  exact (new18_ok j k 1 (by omega) (by omega) (by omega) (by omega) (by omega) (by omega)).mono fun _ _ ⟨_,_,h1,h2,_⟩=>⟨_,_,h1,h2⟩
def St24 (N p m0 n k q c:Nat) (w:World):Prop:=∃ w0 a m LA LM x y A M,N≤w0.heap.size∧Pq w0 w p a m LA LM x y A M q∧M.K.cy≤c∧M.P.n=n∧M.K.many=k∧(m0=m∨∃ L0 M0,MkIn w0 m0 L0 M0∧M0.P.n=n)
section
variable {w w':World} {N p m0 n k q c:Nat}
theorem St24.orig (h:St24 N p m0 n k q c w):∃ L0 M0,MkIn w m0 L0 M0∧M0.P.n=n:=by
 obtain⟨w0,a,m,LA,LM,x,y,A,M,_,h1,_,h2,_,h3⟩:=h
 rcases h3 with rfl | ⟨L0,M0,h3,h4⟩
 ·exact⟨LM,M,h1.fo.du.mm,h2⟩
 ·exact⟨L0,M0,h3.keeps0 h1.fo.du.kp,h4⟩
theorem St24.quiet (h:St24 N p m0 n k q c w) (hk:Keeps (fun _=>False) w w'):St24 N p m0 n k q c w':=by
 obtain⟨w0,a,m,LA,LM,x,y,A,M,e1,h1,h2⟩:=h
 exact⟨w0,a,m,LA,LM,x,y,A,M,e1,⟨block_keep h1.own hk (fun h=>h),h1.fo.quiet hk,h1.ok,h1.mo,h1.hn,h1.hm⟩,h2⟩
theorem do_any (s:Mp) (h:St24 N p m0 n k q c w) (hp:N≤p) (hc:c<4611686018427387904):
 Calls Tryz.prog 25 #[.pointer (some ⟨p,0,none⟩),.agg #[.int .i64 s.d,.int .i64 s.m,.int .i64 s.a,.int .i64 s.b,.int .i64 s.c,.int .i64 s.r.s,.int .u32 s.r.g,.int .i64 s.z.s,.int .u32 s.z.g]] w fun e w'=>e = .returned (.bool true)∧St24 N p m0 n k q (c+1) w'∧Keeps (fun z=>N≤z) w w':=by
 obtain⟨w0,a,m,LA,LM,x,y,A,M,e1,h1,e2,e3,e4,h2⟩:=h
 obtain⟨d,mm,aa,bb,cc,r,z⟩:=s
 by_cases hd:d=14
 ·subst hd
  refine (do_copy mm aa bb cc r z h1).mono ?_
  rintro e w' ⟨rfl,w0',a',m',LA',LM',x',y',g1,g2,g3,g4⟩
  have hs:=h1.fo.du.kp.size
  refine⟨rfl,⟨w0',a',m',LA',LM',x',y',A,M,by omega,g2,by omega,e3,e4,.inr ?_⟩,g3.mono (fun z _ hz=>by have hz':z=p:=hz;omega)⟩
  rcases h2 with rfl | ⟨L0,M0,h3,h4⟩
  ·exact⟨LM,M,g4 _ _ _ h1.fo.du.mm,e3⟩
  ·exact⟨L0,M0,g4 _ _ _ (h3.keeps0 h1.fo.du.kp),h4⟩
 ·refine (do_most d mm aa bb cc r z h1 (by omega) hd).mono ?_
  rintro e w' ⟨rfl,A',M',g1,g2,g3,g4,g5⟩
  exact⟨rfl,⟨w0,a,m,LA,LM,x,y,A',M',e1,g1,by omega,g3.trans e3,g4.trans e4,h2⟩,(Ft.lo g5).mono (fun z _ hz=>Nat.le_trans e1 hz)⟩
end
theorem start24 {n k q b:Nat} {w w1 w2 w3 w4:World} {a x y:Nat} {LA:ArL} {LM:MkL} {LR:L18} (HNK:1≤n∧n≤20∧1≤k∧k≤4) (oa:(Ar.new n k 1).Ok) (om:(Mk.new n k q b).Ok)
 (k1:Keeps (fun _=>False) w w1) (hm:MkIn w1 w.heap.size LM (Mk.new n k q b)) (bm:LM.Btw w.heap.size k w.heap.size w1.heap.size)
 (k2:Keeps (fun _=>False) w1 w2) (hd:D24 w1.heap.size w2 y (Mk.new n k q b) b) (k3:Keeps (fun _=>False) w2 w3) (ha:ArIn w3 a LA (Ar.new n k 1)) (ba:LA.Btw a k w2.heap.size w3.heap.size)
 (k4:Keeps (fun _=>False) w3 w4) (hr:w3.heap.size≤x∧w3.heap.size≤LR.hb∧R18 w4 x LR (Ar.new n k 1)):
 St24 w.heap.size w4.heap.size w.heap.size n k b 0 (w4.alloc (.cells (pairC a w.heap.size x y) 63)):=by
 have k5:Keeps (fun _=>False) w4 (w4.alloc (.cells (pairC a w.heap.size x y) 63)):=(Keeps.refl _ _).alloc _
 have s1:=k1.size;have s2:=k2.size;have s3:=k3.size
 exact⟨w,a,w.heap.size,LA,LM,x,y,Ar.new n k 1,Mk.new n k q b,Nat.le_refl _,
  ⟨alloc_new,⟨⟨(ha.keeps0 k4).keeps0 k5,(((hm.keeps0 k2).keeps0 k3).keeps0 k4).keeps0 k5,(((k1.trans k2).trans k3).trans k4).trans k5,w2.heap.size,w3.heap.size,w.heap.size,w1.heap.size,by omega,Nat.le_refl _,.inr s2,ba,bm⟩,
   by omega,⟨LR,by omega,hr.2.2.k0 k5,fun _ _ _ _ h=>h⟩,(((hd.lower s1).k0 k3).k0 k4).k0 k5⟩,oa,om,rfl,rfl⟩,Nat.le_refl _,rfl,rfl,.inl rfl⟩
structure MpCell (w:World) (b o:Nat) (x:Mp):Prop where
 c0:w.cell? ⟨b,o,none⟩=some (.int .i64 x.d)
 c1:w.cell? ⟨b,o+1,none⟩=some (.int .i64 x.m)
 c2:w.cell? ⟨b,o+2,none⟩=some (.int .i64 x.a)
 c3:w.cell? ⟨b,o+3,none⟩=some (.int .i64 x.b)
 c4:w.cell? ⟨b,o+4,none⟩=some (.int .i64 x.c)
 c5:w.cell? ⟨b,o+5,none⟩=some (.int .i64 x.r.s)
 c6:w.cell? ⟨b,o+6,none⟩=some (.int .u32 x.r.g)
 c7:w.cell? ⟨b,o+7,none⟩=some (.int .i64 x.z.s)
 c8:w.cell? ⟨b,o+8,none⟩=some (.int .u32 x.z.g)
def MpRow (w:World) (v:Value) (l:List Mp):Prop:=∃ a cap,v = .slice a l.length cap∧l.length≤cap∧cap≤maxLen∧(l=[]∨∃ b off,a=some ⟨b,off,none⟩∧b<w.heap.size∧∀ (i:Nat) (x:Mp),l[i]?=some x→MpCell w b (off+i * 9) x)
theorem MpCell.same {w w':World} {b o:Nat} {x:Mp} (h:MpCell w b o x) (hb:w'.heap[b]?=w.heap[b]?):MpCell w' b o x:=by
 have e:=fun k=>World.cell?_of_block (w:=w) (w':=w') (a:=⟨b,k,none⟩) hb
 exact⟨(e _).trans h.c0,(e _).trans h.c1,(e _).trans h.c2,(e _).trans h.c3,(e _).trans h.c4,(e _).trans h.c5,(e _).trans h.c6,(e _).trans h.c7,(e _).trans h.c8⟩
section
variable {w w':World}
theorem markerPlays_walk (n k q b:Int) (v:Value) (l:List Mp) (w:World) (hl:MpRow w v l):
 Calls Tryz.prog 5 #[.int .i64 n,.int .i64 k,.int .i64 q,.int .i64 b,v] w fun e w'=>e = .returned (.bool true)∧Keeps (fun _=>False) w w':=by
 obtain⟨pa,cap,rfl,hcap,hmax,hx⟩:=hl
 have HX:=hid hx
 clear hx
 by_cases h150:150<(l.length:Int)
 ·clear hcap hmax
  go_enter Tryz.func5,Tryz.ntmps5
  go_wp2_with fail
  refine (works24 _).mono ?_
  rintro e wz ⟨rfl,kz⟩
  have KZ:=hid kz
  clear kz
  go_wp2_with fail
  go_ret
  exact⟨rfl,KZ.out⟩
 ·by_cases h20:20<n∧n≤256
  ·obtain⟨h20,h256⟩:=h20
   clear hcap hmax
   go_enter Tryz.func5,Tryz.ntmps5
   go_wp2_with fail
   refine (works24 _).mono ?_
   rintro e wz ⟨rfl,kz⟩
   have KZ:=hid kz
   clear kz
   go_wp2_with fail
   go_ret
   exact⟨rfl,KZ.out⟩
  ·have hg:¬ 20<n∨(20<n∧¬ n≤256):=by omega
   by_cases hb:n<1∨256<n∨k<1∨4<k∨q<1∨64<q∨b<1∨64<b
   ·have HM:=hid (fun W=>mnew_bad n k q b W hb)
    have HD:=hid (fun W=>new24_bad n k q b W hb)
    have HA:=hid (fun W=>anew_anyM n k W)
    have HB:=hid (fun W=>new18_anyM n k W)
    clear hb h20
    rcases hg with hg | ⟨hg,hg2⟩
    all_goals
     go_enter Tryz.func5,Tryz.ntmps5
     go_wp2_with fail
     refine (HM.out _).mono ?_
     rintro e w1 ⟨rfl,k1⟩
     have K1:=hid k1
     clear k1
     go_wp2_with fail
     refine (HD.out _).mono ?_
     rintro e w2 ⟨rfl,k2⟩
     have K2:=hid (K1.out.trans k2)
     clear k2
     go_wp2_with fail
     refine (HA.out _).mono ?_
     rintro e w3 ⟨P3,E3,rfl,k3⟩
     have K3:=hid (K2.out.trans k3)
     clear k3
     go_wp2_with fail
     refine (HB.out _).mono ?_
     rintro e w4 ⟨P4,E4,rfl,k4⟩
     have K4:=hid (K3.out.trans k4)
     clear k4
     go_wp2_with fail
     go_loopw [20] (fun ix wr=>ix = .int .i64 0∧Hid (Keeps (fun _=>False) w wr)) (fun ix _=>0)
     case atStart=>exact⟨rfl,hid (K4.out.alloc _)⟩
     case round=>
      obtain⟨rfl,HK⟩:=hrel
      go_wp2_with fail
      all_goals
       refine (works24 _).mono ?_
       rintro e wz ⟨rfl,kz⟩
       have KZ:=hid kz
       clear kz
       go_wp2_with fail
       go_ret
       exact⟨rfl,HK.out.trans KZ.out⟩
   ·obtain⟨n',rfl⟩:∃ k:Nat,n=k:=⟨n.toNat,by omega⟩
    obtain⟨k',rfl⟩:∃ j:Nat,k=j:=⟨k.toNat,by omega⟩
    obtain⟨q',rfl⟩:∃ j:Nat,q=j:=⟨q.toNat,by omega⟩
    obtain⟨b',rfl⟩:∃ j:Nat,b=j:=⟨b.toNat,by omega⟩
    have n1:1≤n':=by omega
    have n2:n'≤20:=by omega
    have k1:1≤k':=by omega
    have k4:k'≤4:=by omega
    have hlen:l.length≤150:=by omega
    have HNK:=hid (And.intro n1 (And.intro n2 (And.intro k1 k4)))
    have HM:=hid (fun W=>mnew_ok n' k' q' b' W n1 (by omega) k1 k4 (by omega) (by omega) (by omega) (by omega))
    have HD:=hid (fun W=>new24R n' k' q' b' W n1 (by omega) k1 k4 (by omega) (by omega) (by omega) (by omega))
    have HA:=hid (fun W=>anew_ok (n':Int) k' 1 W (by omega) (by omega) k1 k4 (by omega) (by omega))
    simp only [Int.toNat_natCast] at HA
    have HB:=hid (fun W=>new18_ok (w:=W) n' k' 1 n1 (by omega) k1 k4 (by omega) (by omega))
    have HOA:=hid (Ar.Ok.new (g:=1) n1 (by omega) k1 k4 (by omega) (by omega))
    have HOM:=hid (Mk.Ok.new (s:=q') (p:=b') n1 (by omega) k1 k4)
    have h20':¬ 20<(n':Int):=by omega
    clear hb h20 hg n1 n2 k1 k4
    go_enter Tryz.func5,Tryz.ntmps5
    go_wp2_with fail
    refine (HM.out _).mono ?_
    rintro e w1 ⟨rfl,k1,LM,hm,bm⟩
    have K1:=hid k1;have HM1:=hid hm;have BM:=hid bm
    clear k1 hm bm
    go_wp2_with fail
    refine (HD.out _).mono ?_
    rintro e w2 ⟨y,rfl,k2,hd⟩
    have K2:=hid k2;have HD2:=hid hd
    clear k2 hd
    go_wp2_with fail
    refine (HA.out _).mono ?_
    rintro e w3 ⟨a,rfl,k3,LA,ha,ba⟩
    have K3:=hid k3;have HA3:=hid ha;have BA:=hid ba
    clear k3 ha ba
    go_wp2_with fail
    refine (HB.out _).mono ?_
    rintro e w4 ⟨x,LR,rfl,k4,lx,lhb,hr⟩
    have K4:=hid k4;have HR:=hid (And.intro lx (And.intro lhb hr))
    clear k4 lx lhb hr
    go_wp2_with fail
    obtain⟨w5,hw5⟩:∃ w5,w4.alloc (.cells #[.pointer (some ⟨a,0,none⟩),.pointer (some ⟨w.heap.size,0,none⟩),.pointer (some ⟨x,0,none⟩),.pointer (some ⟨y,0,none⟩)] 63)=w5:=⟨_,rfl⟩
    have k5:Keeps (fun _=>False) w4 w5:=by rw [← hw5];exact (Keeps.refl _ _).alloc _
    have hs:=start24 HNK.out HOA.out HOM.out K1.out HM1.out BM.out K2.out HD2.out K3.out HA3.out BA.out K4.out HR.out
    have HS:=hid (show St24 w.heap.size w4.heap.size w.heap.size n' k' b' 0 w5∧Keeps (fun z=>w.heap.size≤z) w w5 from⟨by rw [← hw5];exact hs,((((K1.out.trans K2.out).trans K3.out).trans K4.out).trans k5).up⟩)
    have hp4:w.heap.size≤w4.heap.size:=(((K1.out.trans K2.out).trans K3.out).trans K4.out).size
    have HP4:=hid hp4
    rw [hw5]
    clear hw5 k5 hs hp4 HM HD HB HM1 HD2 HA3 BA BM HR K1 K2 K3 K4 HOA HOM
    obtain⟨p,hp⟩:∃ p,w4.heap.size=p:=⟨_,rfl⟩
    rw [hp] at HS HP4 ⊢
    clear hp
    obtain⟨m0,hm0⟩:∃ m0,w.heap.size=m0:=⟨_,rfl⟩
    have HMZ:=hid hm0
    rw [hm0] at HS HP4 ⊢
    clear hm0
    go_loopw [20] (fun ix wr=>∃ i:Nat,i≤l.length∧ix = .int .i64 i∧Hid (St24 m0 p m0 n' k' b' i wr∧Keeps (fun z=>m0≤z) w wr)) (fun ix _=>l.length - (intOf ix).toNat)
    case atStart=>exact⟨0,Nat.zero_le _,rfl,HS⟩
    case round=>
     clear HS
     obtain⟨i,hi,rfl,HI⟩:=hrel
     have hi0:(0:Int)≤i:=by omega
     by_cases hlt:i<l.length
     ·obtain⟨s,hy⟩:∃ y,l[i]?=some y:=⟨_,List.getElem?_eq_getElem hlt⟩
      have hlt':(i:Int)<(l.length:Int):=by omega
      obtain⟨b,off,rfl,hb,hcl⟩:=HX.out.resolve_left (by intro h;rw [h] at hlt;simp at hlt)
      obtain⟨c0,c1,c2,c3,c4,c5,c6,c7,c8⟩:=(hcl i s hy).same (HI.out.2.block b hb (by have:=HMZ.out;omega))
      have hbw:b<wr.heap.size:=Nat.lt_of_lt_of_le hb HI.out.2.size
      have HC:=hid (do_any s HI.out.1 HP4.out (by omega))
      clear hcl hy
      go_wp2_with fail
      refine HC.out.mono ?_
      rintro e w7 ⟨rfl,hst,hk⟩
      have H7:=hid (And.intro hst (HI.out.2.trans hk))
      clear hst hk HC HI c0 c1 c2 c3 c4 c5 c6 c7 c8
      have HC:Hid (Calls Tryz.prog 26 #[.pointer (some ⟨p,0,none⟩),.int .i64 n'] w7 fun e w'=>e = .returned (.bool true)∧Keeps (fun _=>False) w7 w'):=by
       obtain⟨w0,a,m,LA,LM,x,y,A,M,_,hpq,_⟩:=H7.out.1
       exact hid (alike24 n' hpq (by have:=HNK.out;omega))
      go_wp2_with fail
      refine HC.out.mono ?_
      rintro e w8 ⟨rfl,k8⟩
      have H8:=hid (show St24 m0 p m0 n' k' b' (i+1) w8∧Keeps (fun z=>m0≤z) w w8 from⟨H7.out.1.quiet k8,H7.out.2.trans k8.up⟩)
      clear k8 H7 HC
      go_wp2_with fail
      exact⟨⟨i+1,by omega,by go_num,H8⟩,by simp [intOf];omega⟩
     ·have hge:¬ (i:Int)<(l.length:Int):=by omega
      obtain⟨r,hr⟩:∃ r,n' % 20=r:=⟨_,rfl⟩
      have hr2:r<20∧r+1≠n':=by have:=HNK.out;omega
      have hq1:(n':Int) % 20=(r:Int):=by omega
      have hq2:(n':Int).tmod 20=(r:Int):=by rw [Int.tmod_eq_emod_of_nonneg (by omega)];exact hq1
      have hqw:IntKind.i64.wrap (r:Int)=(r:Int):=IntWalk.i64_in _ (by omega)
      have hqv:IntKind.i64.wrap ((r:Int)+1)=(r:Int)+1:=IntWalk.i64_in _ (by omega)
      have hne:((r:Int)+1 != (n':Int))=true:=by simp;omega
      have HA2:=hid (fun W=>anew_ok ((r:Int)+1) k' 1 W (by omega) (by omega) HNK.out.2.2.1 HNK.out.2.2.2 (by omega) (by omega))
      obtain⟨L0,M0,hm0,hn0⟩:=HI.out.1.orig
      have HMK:=hid (fun W (hk:Keeps (fun _=>False) wr W)=>hm0.keeps0 hk)
      have HN0:=hid hn0
      have HR2:=hid hr2
      clear hm0 hn0 hr hr2
      go_wp2_with fail
      refine (HA2.out _).mono ?_
      rintro e w9 ⟨a9,rfl,k9,LA9,ha9,_⟩
      have K9:=hid k9;have HA9:=hid ha9
      clear k9 ha9 HA2
      have HC:=hid (mphase m0 L0 M0 w9 (HMK.out _ K9.out))
      go_wp2_with fail
      refine (HC.out).mono ?_
      rintro e w' ⟨rfl,h'⟩
      obtain rfl:=h'.symm
      have HC2:=hid (mstep_argn m0 a9 L0 M0 LA9 _ w9 (HMK.out _ K9.out) HA9.out (by show 1≤((r:Int)+1).toNat;omega) (by have:=HR2.out.2;have:=HN0.out;show ((r:Int)+1).toNat≠M0.P.n;omega))
      go_wp2_with fail
      refine HC2.out.mono ?_
      rintro e w10 ⟨rfl,k10⟩
      have K10:=hid (K9.out.trans k10)
      clear k10 HC HC2
      have HC:=hid (mphase m0 L0 M0 w10 (HMK.out _ K10.out))
      go_wp2_with fail
      refine (HC.out).mono ?_
      rintro e w' ⟨rfl,h'⟩
      obtain rfl:=h'.symm
      go_wp2_with fail
      refine (works24 _).mono ?_
      rintro e wz ⟨rfl,kz⟩
      have KZ:=hid kz
      clear kz
      go_wp2_with fail
      go_ret
      refine⟨rfl,Keeps.fresh (((HI.out.2.trans K10.out.up).trans KZ.out.up).mono (fun z _ hz=>?_))⟩
      have:=HMZ.out
      omega
end
def ksMove:List Flat:=[.int .i64,.int .i64,.int .i64,.int .i64,.int .i64,.int .i64,.int .u32,.int .i64,.int .u32]
theorem mpcell_of {w:World} {b o:Nat} (h:CellsAt w b o ksMove):∃ x,MpCell w b o x:=by
 obtain⟨_,h0,x0,rfl,k0⟩:=h 0 _ rfl
 obtain⟨_,h1,x1,rfl,k1⟩:=h 1 _ rfl
 obtain⟨_,h2,x2,rfl,k2⟩:=h 2 _ rfl
 obtain⟨_,h3,x3,rfl,k3⟩:=h 3 _ rfl
 obtain⟨_,h4,x4,rfl,k4⟩:=h 4 _ rfl
 obtain⟨_,h5,x5,rfl,k5⟩:=h 5 _ rfl
 obtain⟨_,h6,x6,rfl,k6⟩:=h 6 _ rfl
 obtain⟨_,h7,x7,rfl,k7⟩:=h 7 _ rfl
 obtain⟨_,h8,x8,rfl,k8⟩:=h 8 _ rfl
 exact⟨⟨x0,x1,x2,x3,x4,⟨x5,x6⟩,⟨x7,x8⟩⟩,h0,h1,h2,h3,h4,h5,h6,h7,h8⟩
theorem mprow_of {w:World} {a:Option Addr} {len cap:Nat} (h1:len≤cap) (h2:cap≤maxLen) (h:len=0∨∃ b off,a=some ⟨b,off,none⟩∧b<w.heap.size∧∀ i,i<len→CellsAt w b (off+i * ksMove.length) ksMove):
 ∃ l,MpRow w (.slice a len cap) l:=by
 rcases h with rfl | ⟨b,off,rfl,hb,hx⟩
 ·exact⟨[],a,cap,rfl,h1,h2,.inl rfl⟩
 ·have hc:∀ i:Nat,∃ x,i<len→MpCell w b (off+i * 9) x:=fun i=>by
   by_cases hi:i<len
   ·obtain⟨x,hx⟩:=mpcell_of (hx i hi);exact⟨x,fun _=>hx⟩
   ·exact⟨⟨0,0,0,0,0,⟨0,0⟩,⟨0,0⟩⟩,fun h=>absurd h hi⟩
  obtain⟨f,hf⟩:=Classical.axiomOfChoice hc
  refine⟨(List.range len).map f,_,cap,by simp,by simpa using h1,h2,.inr ⟨b,off,rfl,hb,fun i x hi=>?_⟩⟩
  rw [List.getElem?_map] at hi
  by_cases hl:i<len
  ·rw [List.getElem?_range hl] at hi
   simp only [Option.map_some,Option.some.injEq] at hi
   subst hi
   exact hf i hl
  ·rw [List.getElem?_eq_none (by simpa using hl)] at hi
   cases hi
theorem markerPlays_law {H:Type} {enc:TypeId × Value→H} {base:Nat} {spare:Nat→Bool} {held:Bool} {r:Reach} {b0:Nat}
 (a0:Int) (w0:(Lit.int .i64 a0).wf=true) (a1:Int) (w1:(Lit.int .i64 a1).wf=true) (a2:Int) (w2:(Lit.int .i64 a2).wf=true) (a3:Int) (w3:(Lit.int .i64 a3).wf=true) {w:World}
 (v1:Value) (d1:DataW H) (p1:List MemPlace) (hv1:Value.okWide Tryz.prog w r b0 50 v1) (h1:DataW.Trod enc Tryz.prog w base spare held 50 v1 d1 p1)
 (w':World) (e':w'=w):
 Calls Tryz.prog 5 #[.int .i64 a0,.int .i64 a1,.int .i64 a2,.int .i64 a3,v1] w' fun e w2=>e = .returned (.bool true)∧Keeps (fun _=>False) w' w2:=by
 subst e'
 obtain⟨a,n1,k1,rfl,e1,e2,hx⟩:=open_flat_slice (ks:=ksMove) Tryz.underlying50 (by kernel_rfl) (by kernel_rfl) (by decide) hv1 h1
 obtain⟨l,hl⟩:=mprow_of e1 e2 hx
 exact markerPlays_walk a0 a1 a2 a3 _ l _ hl
end Go.Proofs.YtnlkfbndlngjaaaGreat
