import Derived.Test.YtnlkfbndlngjaaaGreatRiV
import Derived.Test.YtnlkfbndlngjaaaGreatRiX
import Derived.Deep.CutBlock
set_option maxHeartbeats 4000000
set_option maxRecDepth 100000
namespace Go.Proofs.YtnlkfbndlngjaaaGreat
open Go.RowKit
attribute [local go_sem] Oper.semAt_some
set_option linter.unusedVariables false
set_option linter.unusedSimpArgs false
section
variable {w0 w w':World} {p a m x y q:Nat} {LA:ArL} {LM:MkL} {A:Ar} {M:Mk}
theorem mut_make (mm aa bb cc:Int) (r z:Rf) (h:Pq w0 w p a m LA LM x y A M q):
 Calls Tryz.prog 70 #[.pointer (some ⟨p,0,none⟩),.agg #[.int .i64 0,.int .i64 mm,.int .i64 aa,.int .i64 bb,.int .i64 cc,.int .i64 r.s,.int .u32 r.g,.int .i64 z.s,.int .u32 z.g]] w fun e w'=>e = .returned (.bool true)∧Nx w0 w w' p a m LA LM x y M q:=by
 obtain⟨wB,hwB⟩:∃ wB,((((w.alloc (.cells #[.int .i64 0,.int .i64 mm,.int .i64 aa,.int .i64 bb,.int .i64 cc,.int .i64 r.s,.int .u32 r.g,.int .i64 z.s,.int .u32 z.g] 66)).alloc (.cells #[.int .i64 0,.int .u32 0] 34)).alloc (.cells #[.int .i64 0,.int .u32 0] 34)).alloc (.cells #[.int .i64 0,.int .u32 0] 34)).alloc (.cells #[.int .i64 0,.int .u32 0] 34)=wB:=⟨_,rfl⟩
 have hM:=h.mw ⟨0,mm,aa,bb,cc,r,z⟩
 have HM:=hid (show Mw w0 w wB w.heap.size p a m LA LM x y ⟨0,mm,aa,bb,cc,r,z⟩ .no .no .no .no A M A M q from by rw [← hwB];exact hM)
 have HWB:=hid hwB
 have HOK:=hid (And.intro h.ok (And.intro h.mo (And.intro h.hn h.hm)))
 obtain⟨⟨c0,c1,c2,c3⟩,⟨d0,d1,d2,d3,d4⟩,⟨x0,x1⟩,⟨y0,y1⟩,⟨z0,z1⟩,⟨t0,t1⟩⟩:=HM.out.cells
 have HPS:=hid (fun W (h:∃ u1 u2 u3 u4 A' M' A2 M2,Mw w0 w W w.heap.size p a m LA LM x y ⟨0,mm,aa,bb,cc,r,z⟩ u1 u2 u3 u4 A' M' A2 M2 q)=>show (W.cell? ⟨p,0,none⟩=some (.pointer (some ⟨a,0,none⟩))∧W.cell? ⟨p,2,none⟩=some (.pointer (some ⟨x,0,none⟩)))∧W.cell? ⟨w.heap.size,1,none⟩=some (.int .i64 mm)∧W.cell? ⟨w.heap.size,2,none⟩=some (.int .i64 aa)∧W.cell? ⟨w.heap.size,3,none⟩=some (.int .i64 bb) from by
  obtain⟨_,_,_,_,_,_,_,_,h⟩:=h
  obtain⟨⟨c0,c1,c2,c3⟩,⟨d0,d1,d2,d3,d4⟩,_⟩:=h.cells
  exact⟨⟨c0,c2⟩,d1,d2,d3⟩)
 obtain⟨hd,hhd⟩:∃ hd,(bb == 1)=hd:=⟨_,rfl⟩
 obtain⟨R,hR⟩:∃ R,A.makeR mm aa hd=R:=⟨_,rfl⟩
 have HR:=hid hR
 clear h hM hwB
 go_enter Tryz.func70,Tryz.ntmps70
 go_upto_region 2 with (fail)
 rw [HWB.out]
 go_wp2_with fail
 have hMd:=HM.out.quiet (Keeps.refl (fun _=>False) wB).drew
 have HC:=hid (hMd.fo.pmake HOK.out.1 mm aa hd)
 rw [hR] at HC
 clear hR c0 c1 c2 c3 d0 d1 d2 d3 d4 x0 x1 y0 y1 z0 z1 t0 t1
 go_region_held3 (fun W=>(W.cell? ⟨p,0,none⟩=some (.pointer (some ⟨a,0,none⟩))∧W.cell? ⟨p,2,none⟩=some (.pointer (some ⟨x,0,none⟩)))∧W.cell? ⟨w.heap.size,1,none⟩=some (.int .i64 mm)∧W.cell? ⟨w.heap.size,2,none⟩=some (.int .i64 aa)∧W.cell? ⟨w.heap.size,3,none⟩=some (.int .i64 bb))
  ((refine HPS.out _ ?_;first | with_reducible exact⟨_,_,_,_,_,_,_,_,hM4⟩ | with_reducible exact⟨_,_,_,_,_,_,_,_,hM3⟩ | with_reducible exact⟨_,_,_,_,_,_,_,_,hMd⟩))
  (first | (go_at_call 50;refine HC.out.mono ?_;rintro e w3 ⟨rfl,ho3⟩;dsimp only [Rf.val];have hM3:=hMd.op ho3;have hM4:=hM3.set2 R.now;have y0:=(hM3.cells).2.2.2.1.1;have y1:=(hM3.cells).2.2.2.1.2;have f0:=frozen_block hM3.b2 0;have f1:=frozen_block hM3.b2 1;have lb:=lt_block hM3.b2))
 obtain⟨w4,hw4⟩:∃ w4,(w3.setCell ⟨w.heap.size+1+1,0,none⟩ (.int .i64 R.now.s)).setCell ⟨w.heap.size+1+1,1,none⟩ (.int .u32 R.now.g)=w4:=⟨_,rfl⟩
 rw [hw4] at hM4 ⊢
 have HM4:=hid hM4
 clear hMd hM3 hM4 ho3 y0 y1 f0 f1 lb hw4 HC
 go_upto_region 6 with (fail)
 have hMd:=HM4.out.quiet (Keeps.refl (fun _=>False) w4).drew
 have HC:=hid (hMd.fo.dmake hMd.hF mm aa hd)
 rw [HR.out] at HC
 go_region_held3 (fun W=>(W.cell? ⟨p,0,none⟩=some (.pointer (some ⟨a,0,none⟩))∧W.cell? ⟨p,2,none⟩=some (.pointer (some ⟨x,0,none⟩)))∧W.cell? ⟨w.heap.size,1,none⟩=some (.int .i64 mm)∧W.cell? ⟨w.heap.size,2,none⟩=some (.int .i64 aa)∧W.cell? ⟨w.heap.size,3,none⟩=some (.int .i64 bb))
  ((refine HPS.out _ ?_;first | with_reducible exact⟨_,_,_,_,_,_,_,_,hM4⟩ | with_reducible exact⟨_,_,_,_,_,_,_,_,hM3⟩ | with_reducible exact⟨_,_,_,_,_,_,_,_,hMd⟩))
  (first | (go_at_call 125;refine HC.out.mono ?_;rintro e w3 ⟨rfl,ho3⟩;dsimp only [Rf.val];have hM3:=hMd.op ho3;have hM4:=hM3.set4 R.now;have y0:=(hM3.cells).2.2.2.2.2.1;have y1:=(hM3.cells).2.2.2.2.2.2;have f0:=frozen_block hM3.b4 0;have f1:=frozen_block hM3.b4 1;have lb:=lt_block hM3.b4))
 obtain⟨w6,hw6⟩:∃ w6,(w3.setCell ⟨w.heap.size+1+1+1+1,0,none⟩ (.int .i64 R.now.s)).setCell ⟨w.heap.size+1+1+1+1,1,none⟩ (.int .u32 R.now.g)=w6:=⟨_,rfl⟩
 rw [hw6] at hM4 ⊢
 have HM6:=hid hM4
 have HOR:=hid (show R.A.Ok∧R.A.H.T.n=M.P.n∧R.A.many=M.K.many from by
  rw [← HR.out]
  exact⟨HOK.out.1.makeR _ _ _,(Ar.makeR_n _ _ _ _).1.trans HOK.out.2.2.1,(Ar.makeR_n _ _ _ _).2.trans HOK.out.2.2.2⟩)
 have hql:=fun W=>eql_ref W R.now.s R.now.g R.now.s R.now.g
 rw [show (R.now.s == R.now.s && R.now.g == R.now.g)=true by simp] at hql
 have HPS2:=hid (fun W (h:∃ A' M' A2 M2,Mw w0 w W w.heap.size p a m LA LM x y ⟨0,mm,aa,bb,cc,r,z⟩ .no R.now .no R.now A' M' A2 M2 q)=>show (W.cell? ⟨p,1,none⟩=some (.pointer (some ⟨m,0,none⟩))∧W.cell? ⟨p,3,none⟩=some (.pointer (some ⟨y,0,none⟩)))∧(W.cell? ⟨w.heap.size+1+1,0,none⟩=some (.int .i64 R.now.s)∧W.cell? ⟨w.heap.size+1+1,1,none⟩=some (.int .u32 R.now.g))∧W.cell? ⟨w.heap.size+1+1+1+1,0,none⟩=some (.int .i64 R.now.s)∧W.cell? ⟨w.heap.size+1+1+1+1,1,none⟩=some (.int .u32 R.now.g) from by
  obtain⟨_,_,_,_,h⟩:=h
  obtain⟨⟨c0,c1,c2,c3⟩,_,_,y,_,t⟩:=h.cells
  exact⟨⟨c1,c3⟩,y,t⟩)
 clear hMd hM3 hM4 ho3 y0 y1 f0 f1 lb hw6 HC
 by_cases he:R.e=0
 ·have he1:(R.e == 0)=true:=by simp [he]
  clear he
  go_upto_region 7 with (fail)
  have hMd:=HM6.out.quiet (Keeps.refl (fun _=>False) w6).drew
  have HC:=hid (hMd.fo.pmade R.now)
  go_region_held3 (fun W=>(W.cell? ⟨p,1,none⟩=some (.pointer (some ⟨m,0,none⟩))∧W.cell? ⟨p,3,none⟩=some (.pointer (some ⟨y,0,none⟩)))∧(W.cell? ⟨w.heap.size+1+1,0,none⟩=some (.int .i64 R.now.s)∧W.cell? ⟨w.heap.size+1+1,1,none⟩=some (.int .u32 R.now.g))∧W.cell? ⟨w.heap.size+1+1+1+1,0,none⟩=some (.int .i64 R.now.s)∧W.cell? ⟨w.heap.size+1+1+1+1,1,none⟩=some (.int .u32 R.now.g))
   ((refine HPS2.out _ ?_;first | with_reducible exact⟨_,_,_,_,hM8⟩ | with_reducible exact⟨_,_,_,_,hM7⟩ | with_reducible exact⟨_,_,_,_,hMd⟩))
   (first | (go_at_call 79;refine HC.out.mono ?_;rintro e w7 ⟨rfl,ho7⟩;have hM7:=hMd.op ho7) | (go_at_call 80;refine (hM7.fo.dmade R.now).mono ?_;rintro e w8 ⟨rfl,ho8⟩;have hM8:=hM7.op ho8))
  obtain⟨_,y,t0,t1⟩:=HPS2.out _ ⟨_,_,_,_,hM8⟩
  have HM8:=hid hM8
  clear hMd hM7 hM8 ho7 ho8 HC
  obtain⟨y0,y1⟩:=y
  go_wp2_with fail
  go_ret
  have hk:=M.madeR_K R.now
  exact⟨rfl,HM8.out.nx HOR.out.1 (HOK.out.2.1.madeR _) (by rw [hk.2];exact HOR.out.2.1) (by rw [hk.1];exact HOR.out.2.2) (by rw [hk.1];exact Nat.le_succ _) hk.2 (by rw [hk.1])⟩
 ·have he1:(R.e == 0)=false:=by simp [he]
  clear he
  go_upto_region 7 with (fail)
  go_quiet (fail)
  have hMd:=HM6.out.quiet ((Keeps.refl (fun _=>False) w6).drewN nq)
  obtain⟨w8,hw8⟩:∃ w8,w6.drewN nq=w8:=⟨_,rfl⟩
  rw [hw8] at hMd ⊢
  obtain⟨_,y,t0,t1⟩:=HPS2.out _ ⟨_,_,_,_,hMd⟩
  have HM8:=hid hMd
  clear hMd hw8
  obtain⟨y0,y1⟩:=y
  go_wp2_with fail
  go_ret
  exact⟨rfl,HM8.out.nx HOR.out.1 HOK.out.2.1 HOR.out.2.1 HOR.out.2.2 (Nat.le_succ _) rfl rfl⟩
theorem mut_load (mm aa bb cc:Int) (r z:Rf) (h:Pq w0 w p a m LA LM x y A M q):
 Calls Tryz.prog 70 #[.pointer (some ⟨p,0,none⟩),.agg #[.int .i64 1,.int .i64 mm,.int .i64 aa,.int .i64 bb,.int .i64 cc,.int .i64 r.s,.int .u32 r.g,.int .i64 z.s,.int .u32 z.g]] w fun e w'=>e = .returned (.bool true)∧Nx w0 w w' p a m LA LM x y M q:=by
 obtain⟨wB,hwB⟩:∃ wB,((((w.alloc (.cells #[.int .i64 1,.int .i64 mm,.int .i64 aa,.int .i64 bb,.int .i64 cc,.int .i64 r.s,.int .u32 r.g,.int .i64 z.s,.int .u32 z.g] 66)).alloc (.cells #[.int .i64 0,.int .u32 0] 34)).alloc (.cells #[.int .i64 0,.int .u32 0] 34)).alloc (.cells #[.int .i64 0,.int .u32 0] 34)).alloc (.cells #[.int .i64 0,.int .u32 0] 34)=wB:=⟨_,rfl⟩
 have hM:=h.mw ⟨1,mm,aa,bb,cc,r,z⟩
 have HM:=hid (show Mw w0 w wB w.heap.size p a m LA LM x y ⟨1,mm,aa,bb,cc,r,z⟩ .no .no .no .no A M A M q from by rw [← hwB];exact hM)
 have HWB:=hid hwB
 have HOK:=hid (And.intro h.ok (And.intro h.mo (And.intro h.hn h.hm)))
 have d0:=(HM.out.cells).2.1.1
 have HPS:=hid (fun W (h:∃ u1 u2 u3 u4 A' M' A2 M2,Mw w0 w W w.heap.size p a m LA LM x y ⟨1,mm,aa,bb,cc,r,z⟩ u1 u2 u3 u4 A' M' A2 M2 q)=>show (W.cell? ⟨p,0,none⟩=some (.pointer (some ⟨a,0,none⟩))∧W.cell? ⟨p,2,none⟩=some (.pointer (some ⟨x,0,none⟩)))∧W.cell? ⟨w.heap.size,1,none⟩=some (.int .i64 mm)∧W.cell? ⟨w.heap.size,2,none⟩=some (.int .i64 aa)∧W.cell? ⟨w.heap.size,3,none⟩=some (.int .i64 bb)∧W.cell? ⟨w.heap.size,4,none⟩=some (.int .i64 cc) from by
  obtain⟨_,_,_,_,_,_,_,_,h⟩:=h
  obtain⟨⟨c0,c1,c2,c3⟩,⟨d0,d1,d2,d3,d4⟩,_⟩:=h.cells
  exact⟨⟨c0,c2⟩,d1,d2,d3,d4⟩)
 clear h hM hwB
 go_enter Tryz.func70,Tryz.ntmps70
 go_upto_region 2 with (fail)
 rw [HWB.out]
 obtain⟨R,hR⟩:∃ R,A.loadR mm aa bb=R:=⟨_,rfl⟩
 have HR:=hid hR
 clear hR
 go_upto_region 11 with (fail)
 have hMd:=HM.out.quiet (Keeps.refl (fun _=>False) wB).drew
 have HC:=hid (hMd.fo.pload HOK.out.1 mm aa bb)
 rw [HR.out] at HC
 go_region_held3 (fun W=>(W.cell? ⟨p,0,none⟩=some (.pointer (some ⟨a,0,none⟩))∧W.cell? ⟨p,2,none⟩=some (.pointer (some ⟨x,0,none⟩)))∧W.cell? ⟨w.heap.size,1,none⟩=some (.int .i64 mm)∧W.cell? ⟨w.heap.size,2,none⟩=some (.int .i64 aa)∧W.cell? ⟨w.heap.size,3,none⟩=some (.int .i64 bb)∧W.cell? ⟨w.heap.size,4,none⟩=some (.int .i64 cc))
  ((refine HPS.out _ ?_;first | with_reducible exact⟨_,_,_,_,_,_,_,_,hM4⟩ | with_reducible exact⟨_,_,_,_,_,_,_,_,hM3⟩ | with_reducible exact⟨_,_,_,_,_,_,_,_,hMd⟩))
  (first | (go_at_call 126;refine HC.out.mono ?_;rintro e w3 ⟨rfl,ho3⟩;dsimp only [Rf.val];have hM3:=hMd.op ho3;have hM4:=hM3.set2 R.now;have y0:=(hM3.cells).2.2.2.1.1;have y1:=(hM3.cells).2.2.2.1.2;have f0:=frozen_block hM3.b2 0;have f1:=frozen_block hM3.b2 1;have lb:=lt_block hM3.b2))
 obtain⟨w4,hw4⟩:∃ w4,(w3.setCell ⟨w.heap.size+1+1,0,none⟩ (.int .i64 R.now.s)).setCell ⟨w.heap.size+1+1,1,none⟩ (.int .u32 R.now.g)=w4:=⟨_,rfl⟩
 rw [hw4] at hM4 ⊢
 have HM4:=hid hM4
 clear hMd hM3 hM4 ho3 y0 y1 f0 f1 lb hw4 HC
 go_upto_region 12 with (fail)
 have hMd:=HM4.out.quiet (Keeps.refl (fun _=>False) w4).drew
 have HC:=hid (hMd.fo.dload hMd.hF mm aa bb)
 rw [HR.out] at HC
 go_region_held3 (fun W=>(W.cell? ⟨p,0,none⟩=some (.pointer (some ⟨a,0,none⟩))∧W.cell? ⟨p,2,none⟩=some (.pointer (some ⟨x,0,none⟩)))∧W.cell? ⟨w.heap.size,1,none⟩=some (.int .i64 mm)∧W.cell? ⟨w.heap.size,2,none⟩=some (.int .i64 aa)∧W.cell? ⟨w.heap.size,3,none⟩=some (.int .i64 bb)∧W.cell? ⟨w.heap.size,4,none⟩=some (.int .i64 cc))
  ((refine HPS.out _ ?_;first | with_reducible exact⟨_,_,_,_,_,_,_,_,hM4⟩ | with_reducible exact⟨_,_,_,_,_,_,_,_,hM3⟩ | with_reducible exact⟨_,_,_,_,_,_,_,_,hMd⟩))
  (first | (go_at_call 127;refine HC.out.mono ?_;rintro e w3 ⟨rfl,ho3⟩;dsimp only [Rf.val];have hM3:=hMd.op ho3;have hM4:=hM3.set4 R.now;have y0:=(hM3.cells).2.2.2.2.2.1;have y1:=(hM3.cells).2.2.2.2.2.2;have f0:=frozen_block hM3.b4 0;have f1:=frozen_block hM3.b4 1;have lb:=lt_block hM3.b4))
 have HM6:=hid hM4
 have HOR:=hid (show R.A.Ok∧R.A.H.T.n=M.P.n∧R.A.many=M.K.many from by rw [← HR.out];exact⟨HOK.out.1.loadR _ _ _,(Ar.loadR_n _ _ _ _).1.trans HOK.out.2.2.1,(Ar.loadR_n _ _ _ _).2.trans HOK.out.2.2.2⟩)
 clear hMd hM3 hM4 ho3 y0 y1 f0 f1 lb HC
 obtain⟨wq,hwq⟩:∃ wq,(w3.setCell ⟨w.heap.size+1+1+1+1,0,none⟩ (.int .i64 R.now.s)).setCell ⟨w.heap.size+1+1+1+1,1,none⟩ (.int .u32 R.now.g)=wq:=⟨_,rfl⟩
 rw [hwq] at HM6 ⊢
 obtain⟨u,hu⟩:∃ u,Rf.no=u:=⟨_,rfl⟩
 rw [hu] at HM6
 obtain⟨v,hv⟩:∃ v,R.now=v:=⟨_,rfl⟩
 rw [hv] at HM6
 have HX:=HM6
 clear HM6 hwq hu hv
 have hql1:=fun W=>eql_ref W u.s u.g u.s u.g
 rw [show (u.s == u.s && u.g == u.g)=true by simp] at hql1
 have hql2:=fun W=>eql_ref W v.s v.g v.s v.g
 rw [show (v.s == v.s && v.g == v.g)=true by simp] at hql2
 clear d0
 by_cases he:R.e=0
 ·have hne:(R.e == 0)=true:=by simp [he]
  have d0:=(HX.out.cells).2.1.1
  clear he
  go_upto_region 25 with (fail)
  go_quiet (fail)
  have hMd:=HX.out.quiet ((Keeps.refl (fun _=>False) wq).drewN nq)
  obtain⟨w8,hw8⟩:∃ w8,wq.drewN nq=w8:=⟨_,rfl⟩
  rw [hw8] at hMd ⊢
  obtain⟨_,_,⟨e0,e1⟩,⟨e2,e3⟩,⟨e4,e5⟩,⟨e6,e7⟩⟩:=hMd.cells
  have HM8:=hid hMd
  clear hMd hw8 d0
  go_wp2_with fail
  go_ret
  exact⟨rfl,HM8.out.nx HOR.out.1 HOK.out.2.1 HOR.out.2.1 HOR.out.2.2 (Nat.le_succ _) rfl rfl⟩
 ·have hne:(R.e == 0)=false:=by simp [he]
  have d0:=(HX.out.cells).2.1.1
  clear he
  go_upto_region 25 with (fail)
  go_quiet (fail)
  have hMd:=HX.out.quiet ((Keeps.refl (fun _=>False) wq).drewN nq)
  obtain⟨w8,hw8⟩:∃ w8,wq.drewN nq=w8:=⟨_,rfl⟩
  rw [hw8] at hMd ⊢
  obtain⟨_,_,⟨e0,e1⟩,⟨e2,e3⟩,⟨e4,e5⟩,⟨e6,e7⟩⟩:=hMd.cells
  have HM8:=hid hMd
  clear hMd hw8 d0
  go_wp2_with fail
  go_ret
  exact⟨rfl,HM8.out.nx HOR.out.1 HOK.out.2.1 HOR.out.2.1 HOR.out.2.2 (Nat.le_succ _) rfl rfl⟩
theorem mut_store (mm aa bb cc:Int) (r z:Rf) (h:Pq w0 w p a m LA LM x y A M q):
 Calls Tryz.prog 70 #[.pointer (some ⟨p,0,none⟩),.agg #[.int .i64 2,.int .i64 mm,.int .i64 aa,.int .i64 bb,.int .i64 cc,.int .i64 r.s,.int .u32 r.g,.int .i64 z.s,.int .u32 z.g]] w fun e w'=>e = .returned (.bool true)∧Nx w0 w w' p a m LA LM x y M q:=by
 obtain⟨wB,hwB⟩:∃ wB,((((w.alloc (.cells #[.int .i64 2,.int .i64 mm,.int .i64 aa,.int .i64 bb,.int .i64 cc,.int .i64 r.s,.int .u32 r.g,.int .i64 z.s,.int .u32 z.g] 66)).alloc (.cells #[.int .i64 0,.int .u32 0] 34)).alloc (.cells #[.int .i64 0,.int .u32 0] 34)).alloc (.cells #[.int .i64 0,.int .u32 0] 34)).alloc (.cells #[.int .i64 0,.int .u32 0] 34)=wB:=⟨_,rfl⟩
 have hM:=h.mw ⟨2,mm,aa,bb,cc,r,z⟩
 have HM:=hid (show Mw w0 w wB w.heap.size p a m LA LM x y ⟨2,mm,aa,bb,cc,r,z⟩ .no .no .no .no A M A M q from by rw [← hwB];exact hM)
 have HWB:=hid hwB
 have HOK:=hid (And.intro h.ok (And.intro h.mo (And.intro h.hn h.hm)))
 have d0:=(HM.out.cells).2.1.1
 have HPS:=hid (fun W (h:∃ u1 u2 u3 u4 A' M' A2 M2,Mw w0 w W w.heap.size p a m LA LM x y ⟨2,mm,aa,bb,cc,r,z⟩ u1 u2 u3 u4 A' M' A2 M2 q)=>show (W.cell? ⟨p,0,none⟩=some (.pointer (some ⟨a,0,none⟩))∧W.cell? ⟨p,2,none⟩=some (.pointer (some ⟨x,0,none⟩)))∧W.cell? ⟨w.heap.size,1,none⟩=some (.int .i64 mm)∧W.cell? ⟨w.heap.size,2,none⟩=some (.int .i64 aa)∧W.cell? ⟨w.heap.size,3,none⟩=some (.int .i64 bb)∧W.cell? ⟨w.heap.size,4,none⟩=some (.int .i64 cc) from by
  obtain⟨_,_,_,_,_,_,_,_,h⟩:=h
  obtain⟨⟨c0,c1,c2,c3⟩,⟨d0,d1,d2,d3,d4⟩,_⟩:=h.cells
  exact⟨⟨c0,c2⟩,d1,d2,d3,d4⟩)
 clear h hM hwB
 go_enter Tryz.func70,Tryz.ntmps70
 go_upto_region 2 with (fail)
 rw [HWB.out]
 obtain⟨R,hR⟩:∃ R,A.storeR mm aa bb cc=R:=⟨_,rfl⟩
 have HR:=hid hR
 clear hR
 go_upto_region 14 with (fail)
 have hMd:=HM.out.quiet (Keeps.refl (fun _=>False) wB).drew
 have HC:=hid (hMd.fo.pstore HOK.out.1 mm aa bb cc)
 rw [HR.out] at HC
 go_region_held3 (fun W=>(W.cell? ⟨p,0,none⟩=some (.pointer (some ⟨a,0,none⟩))∧W.cell? ⟨p,2,none⟩=some (.pointer (some ⟨x,0,none⟩)))∧W.cell? ⟨w.heap.size,1,none⟩=some (.int .i64 mm)∧W.cell? ⟨w.heap.size,2,none⟩=some (.int .i64 aa)∧W.cell? ⟨w.heap.size,3,none⟩=some (.int .i64 bb)∧W.cell? ⟨w.heap.size,4,none⟩=some (.int .i64 cc))
  ((refine HPS.out _ ?_;first | with_reducible exact⟨_,_,_,_,_,_,_,_,hM5⟩ | with_reducible exact⟨_,_,_,_,_,_,_,_,hM4⟩ | with_reducible exact⟨_,_,_,_,_,_,_,_,hM3⟩ | with_reducible exact⟨_,_,_,_,_,_,_,_,hMd⟩))
  (first | (go_at_call 51;refine HC.out.mono ?_;rintro e w3 ⟨rfl,ho3⟩;dsimp only [Rf.val];have hM3:=hMd.op ho3;have hM4:=hM3.set1 R.was;have hM5:=hM4.set2 R.now;have z0:=(hM3.cells).2.2.1.1;have z1:=(hM3.cells).2.2.1.2;have g0:=frozen_block hM3.b1 0;have g1:=frozen_block hM3.b1 1;have y0:=(hM4.cells).2.2.2.1.1;have y1:=(hM4.cells).2.2.2.1.2;have f0:=frozen_block hM4.b2 0;have f1:=frozen_block hM4.b2 1;have lb:=lt_block hM3.b1;have lb2:=lt_block hM3.b2))
 obtain⟨w4,hw4⟩:∃ w4,(((w3.setCell ⟨w.heap.size+1,0,none⟩ (.int .i64 R.was.s)).setCell ⟨w.heap.size+1,1,none⟩ (.int .u32 R.was.g)).setCell ⟨w.heap.size+1+1,0,none⟩ (.int .i64 R.now.s)).setCell ⟨w.heap.size+1+1,1,none⟩ (.int .u32 R.now.g)=w4:=⟨_,rfl⟩
 rw [hw4] at hM5 ⊢
 have HM4:=hid hM5
 clear hMd hM3 hM4 hM5 ho3 y0 y1 f0 f1 z0 z1 g0 g1 lb lb2 hw4 HC
 go_upto_region 15 with (fail)
 have hMd:=HM4.out.quiet (Keeps.refl (fun _=>False) w4).drew
 have HC:=hid (hMd.fo.dstore hMd.hF mm aa bb cc)
 rw [HR.out] at HC
 go_region_held3 (fun W=>(W.cell? ⟨p,0,none⟩=some (.pointer (some ⟨a,0,none⟩))∧W.cell? ⟨p,2,none⟩=some (.pointer (some ⟨x,0,none⟩)))∧W.cell? ⟨w.heap.size,1,none⟩=some (.int .i64 mm)∧W.cell? ⟨w.heap.size,2,none⟩=some (.int .i64 aa)∧W.cell? ⟨w.heap.size,3,none⟩=some (.int .i64 bb)∧W.cell? ⟨w.heap.size,4,none⟩=some (.int .i64 cc))
  ((refine HPS.out _ ?_;first | with_reducible exact⟨_,_,_,_,_,_,_,_,hM5⟩ | with_reducible exact⟨_,_,_,_,_,_,_,_,hM4⟩ | with_reducible exact⟨_,_,_,_,_,_,_,_,hM3⟩ | with_reducible exact⟨_,_,_,_,_,_,_,_,hMd⟩))
  (first | (go_at_call 128;refine HC.out.mono ?_;rintro e w3 ⟨rfl,ho3⟩;dsimp only [Rf.val];have hM3:=hMd.op ho3;have hM4:=hM3.set3 R.was;have hM5:=hM4.set4 R.now;have z0:=(hM3.cells).2.2.2.2.1.1;have z1:=(hM3.cells).2.2.2.2.1.2;have g0:=frozen_block hM3.b3 0;have g1:=frozen_block hM3.b3 1;have y0:=(hM4.cells).2.2.2.2.2.1;have y1:=(hM4.cells).2.2.2.2.2.2;have f0:=frozen_block hM4.b4 0;have f1:=frozen_block hM4.b4 1;have lb:=lt_block hM3.b3;have lb2:=lt_block hM3.b4))
 have HM6:=hid hM5
 have HOR:=hid (show R.A.Ok∧R.A.H.T.n=M.P.n∧R.A.many=M.K.many from by rw [← HR.out];exact⟨HOK.out.1.storeR _ _ _ _,(Ar.storeR_n _ _ _ _ _).1.trans HOK.out.2.2.1,(Ar.storeR_n _ _ _ _ _).2.trans HOK.out.2.2.2⟩)
 clear hMd hM3 hM4 hM5 ho3 y0 y1 f0 f1 z0 z1 g0 g1 lb lb2 HC
 obtain⟨wq,hwq⟩:∃ wq,(((w3.setCell ⟨w.heap.size+1+1+1,0,none⟩ (.int .i64 R.was.s)).setCell ⟨w.heap.size+1+1+1,1,none⟩ (.int .u32 R.was.g)).setCell ⟨w.heap.size+1+1+1+1,0,none⟩ (.int .i64 R.now.s)).setCell ⟨w.heap.size+1+1+1+1,1,none⟩ (.int .u32 R.now.g)=wq:=⟨_,rfl⟩
 rw [hwq] at HM6 ⊢
 obtain⟨u,hu⟩:∃ u,R.was=u:=⟨_,rfl⟩
 obtain⟨v,hv⟩:∃ v,R.now=v:=⟨_,rfl⟩
 rw [hu,hv] at HM6
 have HX:=HM6
 clear HM6 hwq hu hv
 have hql1:=fun W=>eql_ref W u.s u.g u.s u.g
 rw [show (u.s == u.s && u.g == u.g)=true by simp] at hql1
 have hql2:=fun W=>eql_ref W v.s v.g v.s v.g
 rw [show (v.s == v.s && v.g == v.g)=true by simp] at hql2
 clear d0
 by_cases he:R.e=0
 ·have hne:(R.e == 0)=true:=by simp [he]
  clear he
  have HP3:=hid (fun W (h:∃ A' M' A2 M2,Mw w0 w W w.heap.size p a m LA LM x y ⟨2,mm,aa,bb,cc,r,z⟩ u v u v A' M' A2 M2 q)=>show (W.cell? ⟨p,1,none⟩=some (.pointer (some ⟨m,0,none⟩))∧W.cell? ⟨p,3,none⟩=some (.pointer (some ⟨y,0,none⟩)))∧(W.cell? ⟨w.heap.size,0,none⟩=some (.int .i64 2)∧W.cell? ⟨w.heap.size,1,none⟩=some (.int .i64 mm))∧(W.cell? ⟨w.heap.size+1,0,none⟩=some (.int .i64 u.s)∧W.cell? ⟨w.heap.size+1,1,none⟩=some (.int .u32 u.g))∧(W.cell? ⟨w.heap.size+1+1,0,none⟩=some (.int .i64 v.s)∧W.cell? ⟨w.heap.size+1+1,1,none⟩=some (.int .u32 v.g))∧(W.cell? ⟨w.heap.size+1+1+1,0,none⟩=some (.int .i64 u.s)∧W.cell? ⟨w.heap.size+1+1+1,1,none⟩=some (.int .u32 u.g))∧(W.cell? ⟨w.heap.size+1+1+1+1,0,none⟩=some (.int .i64 v.s)∧W.cell? ⟨w.heap.size+1+1+1+1,1,none⟩=some (.int .u32 v.g)) from by
   obtain⟨_,_,_,_,h⟩:=h
   obtain⟨⟨c0,c1,c2,c3⟩,⟨d0,d1,_⟩,e1,e2,e3,e4⟩:=h.cells
   exact⟨⟨c1,c3⟩,⟨d0,d1⟩,e1,e2,e3,e4⟩)
  go_upto_region 25 with (fail)
  have hMd:=HX.out.quiet (Keeps.refl (fun _=>False) wq).drew
  refine wp_region_first 32 (fun W=>(W.cell? ⟨p,1,none⟩=some (.pointer (some ⟨m,0,none⟩))∧W.cell? ⟨p,3,none⟩=some (.pointer (some ⟨y,0,none⟩)))∧(W.cell? ⟨w.heap.size,0,none⟩=some (.int .i64 2)∧W.cell? ⟨w.heap.size,1,none⟩=some (.int .i64 mm))∧(W.cell? ⟨w.heap.size+1,0,none⟩=some (.int .i64 u.s)∧W.cell? ⟨w.heap.size+1,1,none⟩=some (.int .u32 u.g))∧(W.cell? ⟨w.heap.size+1+1,0,none⟩=some (.int .i64 v.s)∧W.cell? ⟨w.heap.size+1+1,1,none⟩=some (.int .u32 v.g))∧(W.cell? ⟨w.heap.size+1+1+1,0,none⟩=some (.int .i64 u.s)∧W.cell? ⟨w.heap.size+1+1+1,1,none⟩=some (.int .u32 u.g))∧(W.cell? ⟨w.heap.size+1+1+1+1,0,none⟩=some (.int .i64 v.s)∧W.cell? ⟨w.heap.size+1+1+1+1,1,none⟩=some (.int .u32 v.g))) (by kernel_rfl) (HP3.out _ ⟨_,_,_,_,hMd⟩) (fun hS=>?_)
  refine wpAnyU_take 0 (v:=?_) rfl (by kernel_rfl) (by kernel_rfl) (by kernel_rfl) (by kernel_rfl) (fun _ _ _ h=>h) (Or.inl ⟨by rfl,?_⟩) (by assumption) ?_
  rotate_left
  ·(intro w hSw;(try dsimp only at hSw);simp only [List.getElem_toArray,List.getElem_cons_zero,List.getElem_cons_succ];go_simp;(first | done | with_reducible rfl))
  simp only [List.getElem_toArray,List.getElem_cons_zero,List.getElem_cons_succ,Act.put,List.setIfInBounds_toArray,List.set_cons_zero,List.set_cons_succ]
  refine wpAnyU_take 1 (v:=?_) rfl (by kernel_rfl) (by kernel_rfl) (by kernel_rfl) (by kernel_rfl) (fun _ _ _ h=>h) (Or.inl ⟨by rfl,?_⟩) (by assumption) ?_
  rotate_left
  ·(intro w hSw;(try dsimp only at hSw);simp only [List.getElem_toArray,List.getElem_cons_zero,List.getElem_cons_succ];go_simp;(first | done | with_reducible rfl))
  simp only [List.getElem_toArray,List.getElem_cons_zero,List.getElem_cons_succ,Act.put,List.setIfInBounds_toArray,List.set_cons_zero,List.set_cons_succ]
  refine wpAnyU_take 2 (v:=?_) rfl (by kernel_rfl) (by kernel_rfl) (by kernel_rfl) (by kernel_rfl) (fun _ _ _ h=>h) (Or.inl ⟨by rfl,?_⟩) (by assumption) ?_
  rotate_left
  ·(intro w hSw;(try dsimp only at hSw);simp only [List.getElem_toArray,List.getElem_cons_zero,List.getElem_cons_succ];go_simp;(first | done | with_reducible rfl))
  simp only [List.getElem_toArray,List.getElem_cons_zero,List.getElem_cons_succ,Act.put,List.setIfInBounds_toArray,List.set_cons_zero,List.set_cons_succ]
  refine wpAnyU_take 3 (v:=?_) rfl (by kernel_rfl) (by kernel_rfl) (by kernel_rfl) (by kernel_rfl) (fun _ _ _ h=>h) (Or.inl ⟨by rfl,?_⟩) (by assumption) ?_
  rotate_left
  ·(intro w hSw;(try dsimp only at hSw);simp only [List.getElem_toArray,List.getElem_cons_zero,List.getElem_cons_succ];go_simp;(first | done | with_reducible rfl))
  simp only [List.getElem_toArray,List.getElem_cons_zero,List.getElem_cons_succ,Act.put,List.setIfInBounds_toArray,List.set_cons_zero,List.set_cons_succ]
  refine wpAnyU_take 4 (v:=?_) rfl (by kernel_rfl) (by kernel_rfl) (by kernel_rfl) (by kernel_rfl) (fun _ _ _ h=>h) (Or.inl ⟨by rfl,?_⟩) (by assumption) ?_
  rotate_left
  ·(intro w hSw;(try dsimp only at hSw);simp only [List.getElem_toArray,List.getElem_cons_zero,List.getElem_cons_succ];go_simp;(first | done | with_reducible rfl))
  simp only [List.getElem_toArray,List.getElem_cons_zero,List.getElem_cons_succ,Act.put,List.setIfInBounds_toArray,List.set_cons_zero,List.set_cons_succ]
  refine wpAnyU_take 5 (v:=?_) rfl (by kernel_rfl) (by kernel_rfl) (by kernel_rfl) (by kernel_rfl) (fun _ _ _ h=>h) (Or.inl ⟨by rfl,?_⟩) (by assumption) ?_
  rotate_left
  ·(intro w hSw;(try dsimp only at hSw);simp only [List.getElem_toArray,List.getElem_cons_zero,List.getElem_cons_succ];go_simp;(first | done | with_reducible rfl))
  simp only [List.getElem_toArray,List.getElem_cons_zero,List.getElem_cons_succ,Act.put,List.setIfInBounds_toArray,List.set_cons_zero,List.set_cons_succ]
  refine wpAnyU_take 6 (v:=?_) rfl (by kernel_rfl) (by kernel_rfl) (by kernel_rfl) (by kernel_rfl) (fun _ _ _ h=>h) (Or.inl ⟨by rfl,?_⟩) (by assumption) ?_
  rotate_left
  ·(intro w hSw;(try dsimp only at hSw);simp only [List.getElem_toArray,List.getElem_cons_zero,List.getElem_cons_succ];go_simp;(first | done | with_reducible rfl))
  simp only [List.getElem_toArray,List.getElem_cons_zero,List.getElem_cons_succ,Act.put,List.setIfInBounds_toArray,List.set_cons_zero,List.set_cons_succ]
  refine wpAnyU_take 7 (v:=undef) rfl (by kernel_rfl) (by kernel_rfl) (by kernel_rfl) (by kernel_rfl) (fun _ _ _ h=>h) (Or.inr ⟨by rfl,rfl⟩) (by assumption) ?_
  simp only [List.getElem_toArray,List.getElem_cons_zero,List.getElem_cons_succ,Act.put,List.setIfInBounds_toArray,List.set_cons_zero,List.set_cons_succ]
  refine wpAnyU_take 8 (v:=undef) rfl (by kernel_rfl) (by kernel_rfl) (by kernel_rfl) (by kernel_rfl) (fun _ _ _ h=>h) (Or.inr ⟨by rfl,rfl⟩) (by assumption) ?_
  simp only [List.getElem_toArray,List.getElem_cons_zero,List.getElem_cons_succ,Act.put,List.setIfInBounds_toArray,List.set_cons_zero,List.set_cons_succ]
  refine wpAnyU_take 9 (v:=undef) rfl (by kernel_rfl) (by kernel_rfl) (by kernel_rfl) (by kernel_rfl) (fun _ _ _ h=>h) (Or.inr ⟨by rfl,rfl⟩) (by assumption) ?_
  simp only [List.getElem_toArray,List.getElem_cons_zero,List.getElem_cons_succ,Act.put,List.setIfInBounds_toArray,List.set_cons_zero,List.set_cons_succ]
  refine wpAnyU_take 10 (v:=?_) rfl (by kernel_rfl) (by kernel_rfl) (by kernel_rfl) (by kernel_rfl) (fun _ _ _ h=>h) (Or.inl ⟨by rfl,?_⟩) (by assumption) ?_
  rotate_left
  ·(intro w hSw;(try dsimp only at hSw);simp only [List.getElem_toArray,List.getElem_cons_zero,List.getElem_cons_succ];go_simp;(first | done | with_reducible rfl))
  simp only [List.getElem_toArray,List.getElem_cons_zero,List.getElem_cons_succ,Act.put,List.setIfInBounds_toArray,List.set_cons_zero,List.set_cons_succ]
  refine wpAnyU_take 11 (v:=?_) rfl (by kernel_rfl) (by kernel_rfl) (by kernel_rfl) (by kernel_rfl) (fun _ _ _ h=>h) (Or.inl ⟨by rfl,?_⟩) (by assumption) ?_
  rotate_left
  ·(intro w hSw;(try dsimp only at hSw);simp only [List.getElem_toArray,List.getElem_cons_zero,List.getElem_cons_succ];go_simp;(first | done | with_reducible rfl))
  simp only [List.getElem_toArray,List.getElem_cons_zero,List.getElem_cons_succ,Act.put,List.setIfInBounds_toArray,List.set_cons_zero,List.set_cons_succ]
  refine wpAnyU_take 12 (v:=?_) rfl (by kernel_rfl) (by kernel_rfl) (by kernel_rfl) (by kernel_rfl) (fun _ _ _ h=>h) (Or.inl ⟨by rfl,?_⟩) (by assumption) ?_
  rotate_left
  ·(intro w hSw;(try dsimp only at hSw);simp only [List.getElem_toArray,List.getElem_cons_zero,List.getElem_cons_succ];go_simp;(first | done | with_reducible rfl))
  simp only [List.getElem_toArray,List.getElem_cons_zero,List.getElem_cons_succ,Act.put,List.setIfInBounds_toArray,List.set_cons_zero,List.set_cons_succ]
  refine wpAnyU_take 13 (v:=?_) rfl (by kernel_rfl) (by kernel_rfl) (by kernel_rfl) (by kernel_rfl) (fun _ _ _ h=>h) (Or.inl ⟨by rfl,?_⟩) (by assumption) ?_
  rotate_left
  ·(intro w hSw;(try dsimp only at hSw);simp only [List.getElem_toArray,List.getElem_cons_zero,List.getElem_cons_succ];go_simp;(first | done | with_reducible rfl))
  simp only [List.getElem_toArray,List.getElem_cons_zero,List.getElem_cons_succ,Act.put,List.setIfInBounds_toArray,List.set_cons_zero,List.set_cons_succ]
  refine wpAnyU_take 14 (v:=?_) rfl (by kernel_rfl) (by kernel_rfl) (by kernel_rfl) (by kernel_rfl) (fun _ _ _ h=>h) (Or.inl ⟨by rfl,?_⟩) (by assumption) ?_
  rotate_left
  ·(intro w hSw;(try dsimp only at hSw);simp only [List.getElem_toArray,List.getElem_cons_zero,List.getElem_cons_succ];go_simp;(first | done | with_reducible rfl))
  simp only [List.getElem_toArray,List.getElem_cons_zero,List.getElem_cons_succ,Act.put,List.setIfInBounds_toArray,List.set_cons_zero,List.set_cons_succ]
  refine wpAnyU_take 15 (v:=?_) rfl (by kernel_rfl) (by kernel_rfl) (by kernel_rfl) (by kernel_rfl) (fun _ _ _ h=>h) (Or.inl ⟨by rfl,?_⟩) (by assumption) ?_
  rotate_left
  ·(intro w hSw;(try dsimp only at hSw);simp only [List.getElem_toArray,List.getElem_cons_zero,List.getElem_cons_succ];go_simp;(first | done | with_reducible rfl))
  simp only [List.getElem_toArray,List.getElem_cons_zero,List.getElem_cons_succ,Act.put,List.setIfInBounds_toArray,List.set_cons_zero,List.set_cons_succ]
  refine wpAnyU_take 16 (v:=?_) rfl (by kernel_rfl) (by kernel_rfl) (by kernel_rfl) (by kernel_rfl) (fun _ _ _ h=>h) (Or.inl ⟨by rfl,?_⟩) (by assumption) ?_
  rotate_left
  ·(intro w hSw;(try dsimp only at hSw);simp only [List.getElem_toArray,List.getElem_cons_zero,List.getElem_cons_succ];go_simp;(first | done | with_reducible rfl))
  simp only [List.getElem_toArray,List.getElem_cons_zero,List.getElem_cons_succ,Act.put,List.setIfInBounds_toArray,List.set_cons_zero,List.set_cons_succ]
  refine wpAnyU_take 17 (v:=?_) rfl (by kernel_rfl) (by kernel_rfl) (by kernel_rfl) (by kernel_rfl) (fun _ _ _ h=>h) (Or.inl ⟨by rfl,?_⟩) (by assumption) ?_
  rotate_left
  ·(intro w hSw;(try dsimp only at hSw);simp only [List.getElem_toArray,List.getElem_cons_zero,List.getElem_cons_succ];go_simp;(first | done | with_reducible rfl))
  simp only [List.getElem_toArray,List.getElem_cons_zero,List.getElem_cons_succ,Act.put,List.setIfInBounds_toArray,List.set_cons_zero,List.set_cons_succ]
  refine wpAnyU_take 18 (v:=?_) rfl (by kernel_rfl) (by kernel_rfl) (by kernel_rfl) (by kernel_rfl) (fun _ _ _ h=>h) (Or.inl ⟨by rfl,?_⟩) (by assumption) ?_
  rotate_left
  ·(intro w hSw;(try dsimp only at hSw);simp only [List.getElem_toArray,List.getElem_cons_zero,List.getElem_cons_succ];go_simp;(first | done | with_reducible rfl))
  simp only [List.getElem_toArray,List.getElem_cons_zero,List.getElem_cons_succ,Act.put,List.setIfInBounds_toArray,List.set_cons_zero,List.set_cons_succ]
  refine wpAnyU_take 19 (v:=?_) rfl (by kernel_rfl) (by kernel_rfl) (by kernel_rfl) (by kernel_rfl) (fun _ _ _ h=>h) (Or.inl ⟨by rfl,?_⟩) (by assumption) ?_
  rotate_left
  ·(intro w hSw;(try dsimp only at hSw);simp only [List.getElem_toArray,List.getElem_cons_zero,List.getElem_cons_succ];go_simp;(first | done | with_reducible rfl))
  simp only [List.getElem_toArray,List.getElem_cons_zero,List.getElem_cons_succ,Act.put,List.setIfInBounds_toArray,List.set_cons_zero,List.set_cons_succ]
  refine wpAnyU_take 20 (v:=?_) rfl (by kernel_rfl) (by kernel_rfl) (by kernel_rfl) (by kernel_rfl) (fun _ _ _ h=>h) (Or.inl ⟨by rfl,?_⟩) (by assumption) ?_
  rotate_left
  ·(intro w hSw;(try dsimp only at hSw);simp only [List.getElem_toArray,List.getElem_cons_zero,List.getElem_cons_succ];go_simp;(first | done | with_reducible rfl))
  simp only [List.getElem_toArray,List.getElem_cons_zero,List.getElem_cons_succ,Act.put,List.setIfInBounds_toArray,List.set_cons_zero,List.set_cons_succ]
  refine wpAnyU_take 22 (v:=?_) rfl (by kernel_rfl) (by kernel_rfl) (by kernel_rfl) (by kernel_rfl) (fun _ _ _ h=>h) (Or.inl ⟨by rfl,?_⟩) (by assumption) ?_
  rotate_left
  ·(intro w hSw;(try dsimp only at hSw);simp only [List.getElem_toArray,List.getElem_cons_zero,List.getElem_cons_succ];go_simp;(first | done | with_reducible rfl))
  simp only [List.getElem_toArray,List.getElem_cons_zero,List.getElem_cons_succ,Act.put,List.setIfInBounds_toArray,List.set_cons_zero,List.set_cons_succ]
  refine wpAnyU_take 23 (v:=?_) rfl (by kernel_rfl) (by kernel_rfl) (by kernel_rfl) (by kernel_rfl) (fun _ _ _ h=>h) (Or.inl ⟨by rfl,?_⟩) (by assumption) ?_
  rotate_left
  ·(intro w hSw;(try dsimp only at hSw);simp only [List.getElem_toArray,List.getElem_cons_zero,List.getElem_cons_succ];go_simp;(first | done | with_reducible rfl))
  simp only [List.getElem_toArray,List.getElem_cons_zero,List.getElem_cons_succ,Act.put,List.setIfInBounds_toArray,List.set_cons_zero,List.set_cons_succ]
  refine wpAnyU_take 24 (v:=?_) rfl (by kernel_rfl) (by kernel_rfl) (by kernel_rfl) (by kernel_rfl) (fun _ _ _ h=>h) (Or.inl ⟨by rfl,?_⟩) (by assumption) ?_
  rotate_left
  ·(intro w hSw;(try dsimp only at hSw);simp only [List.getElem_toArray,List.getElem_cons_zero,List.getElem_cons_succ];go_simp;(first | done | with_reducible rfl))
  simp only [List.getElem_toArray,List.getElem_cons_zero,List.getElem_cons_succ,Act.put,List.setIfInBounds_toArray,List.set_cons_zero,List.set_cons_succ]
  refine wpAnyU_take 25 (v:=?_) rfl (by kernel_rfl) (by kernel_rfl) (by kernel_rfl) (by kernel_rfl) (fun _ _ _ h=>h) (Or.inl ⟨by rfl,?_⟩) (by assumption) ?_
  rotate_left
  ·(intro w hSw;(try dsimp only at hSw);simp only [List.getElem_toArray,List.getElem_cons_zero,List.getElem_cons_succ];go_simp;(first | done | with_reducible rfl))
  simp only [List.getElem_toArray,List.getElem_cons_zero,List.getElem_cons_succ,Act.put,List.setIfInBounds_toArray,List.set_cons_zero,List.set_cons_succ]
  refine wpAnyU_take 26 (v:=?_) rfl (by kernel_rfl) (by kernel_rfl) (by kernel_rfl) (by kernel_rfl) (fun _ _ _ h=>h) (Or.inl ⟨by rfl,?_⟩) (by assumption) ?_
  rotate_left
  ·(intro w hSw;(try dsimp only at hSw);simp only [List.getElem_toArray,List.getElem_cons_zero,List.getElem_cons_succ];go_simp;(first | done | with_reducible rfl))
  simp only [List.getElem_toArray,List.getElem_cons_zero,List.getElem_cons_succ,Act.put,List.setIfInBounds_toArray,List.set_cons_zero,List.set_cons_succ]
  refine wpAnyU_take 27 (v:=?_) rfl (by kernel_rfl) (by kernel_rfl) (by kernel_rfl) (by kernel_rfl) (fun _ _ _ h=>h) (Or.inl ⟨by rfl,?_⟩) (by assumption) ?_
  rotate_left
  ·(intro w hSw;(try dsimp only at hSw);simp only [List.getElem_toArray,List.getElem_cons_zero,List.getElem_cons_succ];go_simp;(first | done | with_reducible rfl))
  simp only [List.getElem_toArray,List.getElem_cons_zero,List.getElem_cons_succ,Act.put,List.setIfInBounds_toArray,List.set_cons_zero,List.set_cons_succ]
  refine wpAnyU_take 28 (v:=?_) rfl (by kernel_rfl) (by kernel_rfl) (by kernel_rfl) (by kernel_rfl) (fun _ _ _ h=>h) (Or.inl ⟨by rfl,?_⟩) (by assumption) ?_
  rotate_left
  ·(intro w hSw;(try dsimp only at hSw);simp only [List.getElem_toArray,List.getElem_cons_zero,List.getElem_cons_succ];go_simp;(first | done | with_reducible rfl))
  simp only [List.getElem_toArray,List.getElem_cons_zero,List.getElem_cons_succ,Act.put,List.setIfInBounds_toArray,List.set_cons_zero,List.set_cons_succ]
  refine wpAnyU_take 29 (v:=?_) rfl (by kernel_rfl) (by kernel_rfl) (by kernel_rfl) (by kernel_rfl) (fun _ _ _ h=>h) (Or.inl ⟨by rfl,?_⟩) (by assumption) ?_
  rotate_left
  ·(intro w hSw;(try dsimp only at hSw);simp only [List.getElem_toArray,List.getElem_cons_zero,List.getElem_cons_succ];go_simp;(first | done | with_reducible rfl))
  simp only [List.getElem_toArray,List.getElem_cons_zero,List.getElem_cons_succ,Act.put,List.setIfInBounds_toArray,List.set_cons_zero,List.set_cons_succ]
  refine wpAnyU_one (i:=21) (by kernel_rfl) rfl rfl (fun K hK=>?_)
  go_simp
  go_at_call 77
  refine (hMd.fo.pwrote mm u v).mono ?_
  rintro e w7 ⟨rfl,ho7⟩
  have hM7:=hMd.op ho7
  refine hK.out _ _ ?_ (fun hHeld=>?_)
  ·exact (HP3.out _ ⟨_,_,_,_,hM7⟩)
  clear hK K
  try dsimp only [Act.put,List.setIfInBounds_toArray,List.set_cons_zero,List.set_cons_succ]
  refine wpAnyU_one (i:=30) (by kernel_rfl) rfl rfl (fun K hK=>?_)
  go_simp
  go_at_call 78
  refine (hM7.fo.dwrote mm u v).mono ?_
  rintro e w8 ⟨rfl,ho8⟩
  have hM8:=hM7.op ho8
  have HC:=hid trivial
  refine hK.out _ _ ?_ (fun hHeld=>?_)
  ·exact (HP3.out _ ⟨_,_,_,_,hM8⟩)
  clear hK K
  try dsimp only [Act.put,List.setIfInBounds_toArray,List.set_cons_zero,List.set_cons_succ]
  refine wpAnyU_take 31 (v:=?_) rfl (by kernel_rfl) (by kernel_rfl) (by kernel_rfl) (by kernel_rfl) (fun _ _ _ h=>h) (Or.inl ⟨by rfl,?_⟩) (by assumption) ?_
  rotate_left
  ·(intro w hSw;(try dsimp only at hSw);simp only [List.getElem_toArray,List.getElem_cons_zero,List.getElem_cons_succ];go_simp;(first | done | with_reducible rfl))
  simp only [List.getElem_toArray,List.getElem_cons_zero,List.getElem_cons_succ,Act.put,List.setIfInBounds_toArray,List.set_cons_zero,List.set_cons_succ]
  refine wpAnyU_turn (by kernel_rfl) rfl (fun K hK=>?_)
  go_simp
  refine hK.out _ _ ?_
  refine wpAny_last (by kernel_rfl) ?_
  refine NoPanic.normal ?_
  obtain⟨_,_,⟨e0,e1⟩,⟨e2,e3⟩,⟨e4,e5⟩,⟨e6,e7⟩⟩:=HP3.out _ ⟨_,_,_,_,hM8⟩
  have HM8:=hid hM8
  clear hMd hM7 hM8 ho7 ho8 HC
  go_wp2_with fail
  go_ret
  have hk:=M.wroteR_K mm u v
  exact⟨rfl,HM8.out.nx HOR.out.1 (HOK.out.2.1.wroteR _ _ _) (by rw [hk.2];exact HOR.out.2.1) (by rw [hk.1];exact HOR.out.2.2) (by rw [hk.1];exact Nat.le_succ _) hk.2 (by rw [hk.1])⟩
 ·have hne:(R.e == 0)=false:=by simp [he]
  have d0:=(HX.out.cells).2.1.1
  clear he
  go_upto_region 25 with (fail)
  go_quiet (fail)
  have hMd:=HX.out.quiet ((Keeps.refl (fun _=>False) wq).drewN nq)
  obtain⟨w8,hw8⟩:∃ w8,wq.drewN nq=w8:=⟨_,rfl⟩
  rw [hw8] at hMd ⊢
  obtain⟨_,_,⟨e0,e1⟩,⟨e2,e3⟩,⟨e4,e5⟩,⟨e6,e7⟩⟩:=hMd.cells
  have HM8:=hid hMd
  clear hMd hw8 d0
  go_wp2_with fail
  go_ret
  exact⟨rfl,HM8.out.nx HOR.out.1 HOK.out.2.1 HOR.out.2.1 HOR.out.2.2 (Nat.le_succ _) rfl rfl⟩
end
end Go.Proofs.YtnlkfbndlngjaaaGreat
