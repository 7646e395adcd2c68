import Derived.Test.YtnlkfbndlngjaaaGreatCpA
import Derived.Test.YtnlkfbndlngjaaaGreatRiT
import Derived.Test.YtnlkfbndlngjaaaGreatRjD
set_option maxHeartbeats 2000000
set_option maxRecDepth 100000
namespace Go.Proofs.YtnlkfbndlngjaaaGreat
open Go.RowKit
attribute [local go_sem] Oper.semAt_some
set_option linter.unusedVariables false
set_option linter.unusedSimpArgs false
theorem Keeps.re {wB wF w0:World} {p:Nat} {o:Obj} (h1:Keeps (fun z=>z=p) wB wF) (h2:Keeps (fun z=>z=p) wB w0) (hs:w0.heap.size=wB.heap.size) (hF:wF.heap[p]?=some o) (h0:w0.heap[p]?=some o):Keeps (fun _=>False) w0 wF:=
 ⟨h1.os.trans h2.os.symm,h1.tape.trans h2.tape.symm,h1.output.trans h2.output.symm,by rw [hs];exact h1.size,fun y hy _=>by
  by_cases e:y=p
  ·rw [e,hF,h0]
  ·rw [h1.block y (by omega) e,h2.block y (by omega) e]⟩
theorem D24.lower {N N' m q:Nat} {w:World} {M:Mk} (h:D24 N w m M q) (hN:N'≤N):D24 N' w m M q:=by
 obtain⟨L,h1,lo⟩:=h
 exact⟨L,h1,⟨Nat.le_trans hN lo.m,Nat.le_trans hN lo.c,Nat.le_trans hN lo.p,Nat.le_trans hN lo.ps,Nat.le_trans hN lo.st,fun j hj=>Nat.le_trans hN (lo.bb j hj),fun j hj z hz=>Nat.le_trans hN (lo.bv j hj z hz)⟩⟩
theorem ArIn.othr {w w':World} {a:Nat} {LA:ArL} {A:Ar} {S:Nat→Prop} (ar:ArIn w a LA A) (hk:Keeps S w w') (hS:∀ y cs t,w.heap[y]?=some (.cells cs t)→S y→¬ UTy t):ArIn w' a LA A:=by
 have no:∀ {z:Nat} {cs:Array Value} {t:TypeId},w.heap[z]?=some (.cells cs t)→UTy t→¬ S z:=fun hz h1 hs=>hS _ _ _ hz hs h1
 obtain⟨ca,a1,_⟩:=ar.own
 obtain⟨ch,c1,_⟩:=ar.heap.own
 obtain⟨ct,t1,_⟩:=ar.heap.tab
 obtain⟨cg,g1,_⟩:=ar.gl
 exact ar.keeps hk (no a1 (by decide)) (no ar.obj (by decide)) (no c1 (by decide)) (no t1 (by decide)) (no g1 (by decide)) (fun k hk'=>by obtain⟨_,hs,_⟩:=ar.st k hk';exact no hs (by decide))
theorem MkIn.othr {w w':World} {m:Nat} {LM:MkL} {M:Mk} {S:Nat→Prop} (mm:MkIn w m LM M) (hk:Keeps S w w') (hS:∀ y cs t,w.heap[y]?=some (.cells cs t)→S y→¬ UTy t):MkIn w' m LM M:=by
 have no:∀ {z:Nat} {cs:Array Value} {t:TypeId},w.heap[z]?=some (.cells cs t)→UTy t→¬ S z:=fun hz h1 hs=>hS _ _ _ hz hs h1
 obtain⟨cur,r1,_⟩:=mm.row
 obtain⟨cp,p1,_⟩:=mm.pt
 obtain⟨cs,s1,_⟩:=mm.st
 exact mm.keeps hk (no mm.own (by decide)) (no mm.clk.own (by decide)) (no p1 (by decide)) (no s1 (by decide)) (no r1 (by decide)) (fun j hj=>by obtain⟨_,hs,_⟩:=mm.bf j hj;exact no hs (by decide))
section
variable {w0 w w':World} {p a m x y q:Nat} {LA:ArL} {LM:MkL} {A:Ar} {M:Mk}
def Cpd (w w':World) (p:Nat) (A:Ar) (M:Mk) (q:Nat):Prop:=∃ w0 a m LA LM x y,w.heap.size≤w0.heap.size∧Pq w0 w' p a m LA LM x y A M q∧Keeps (fun z=>z=p) w w'∧∀ m0 L0 M0,MkIn w m0 L0 M0→MkIn w0 m0 L0 M0
theorem set4 {w:World} {p:Nat} {v0 v1 v2 v3 u0 u1 u2 u3:Value} {t:TypeId} (h:w.heap[p]?=some (.cells #[v0,v1,v2,v3] t)):Keeps (fun z=>z=p) w ((((w.setCell ⟨p,0,none⟩ u0).setCell ⟨p,1,none⟩ u1).setCell ⟨p,2,none⟩ u2).setCell ⟨p,3,none⟩ u3)∧((((w.setCell ⟨p,0,none⟩ u0).setCell ⟨p,1,none⟩ u1).setCell ⟨p,2,none⟩ u2).setCell ⟨p,3,none⟩ u3).heap[p]?=some (.cells #[u0,u1,u2,u3] t)∧((((w.setCell ⟨p,0,none⟩ u0).setCell ⟨p,1,none⟩ u1).setCell ⟨p,2,none⟩ u2).setCell ⟨p,3,none⟩ u3).heap.size=w.heap.size:=
 ⟨(((keeps_set1 _ _ _ _).trans (keeps_set1 _ _ _ _)).trans (keeps_set1 _ _ _ _)).trans (keeps_set1 _ _ _ _),(set_block (set_block (set_block (set_block h 0 _) 1 _) 2 _) 3 _).trans rfl,by simp [World.setCell]⟩
theorem do_copy (mm aa bb cc:Int) (r z:Rf) (h:Pq w0 w p a m LA LM x y A M q):
 Calls Tryz.prog 25 #[.pointer (some ⟨p,0,none⟩),.agg #[.int .i64 14,.int .i64 mm,.int .i64 aa,.int .i64 bb,.int .i64 cc,.int .i64 r.s,.int .u32 r.g,.int .i64 z.s,.int .u32 z.g]] w fun e w'=>e = .returned (.bool true)∧Cpd w w' p A M q:=by
 obtain⟨wB,hwB⟩:∃ wB,w.alloc (.cells #[.int .i64 14,.int .i64 mm,.int .i64 aa,.int .i64 bb,.int .i64 cc,.int .i64 r.s,.int .u32 r.g,.int .i64 z.s,.int .u32 z.g] 66)=wB:=⟨_,rfl⟩
 have kB:Keeps (fun _=>False) w wB:=by rw [← hwB];exact (Keeps.refl _ _).alloc _
 have d0:wB.cell? ⟨w.heap.size,0,none⟩=some (.int .i64 14):=by rw [← hwB];exact cell_at alloc_new rfl
 have HWB:=hid hwB;have KB:=hid kB
 have HB:=hid (block_keep h.own kB (fun h=>h))
 have HF:=hid (h.fo.quiet kB)
 have HOK:=hid (And.intro h.ok (And.intro h.mo (And.intro h.hn h.hm)))
 have HPS:=hid (fun W (hk:Keeps (fun _=>False) wB W)=>show (W.cell? ⟨p,0,none⟩=some (.pointer (some ⟨a,0,none⟩))∧W.cell? ⟨p,1,none⟩=some (.pointer (some ⟨m,0,none⟩))∧W.cell? ⟨p,2,none⟩=some (.pointer (some ⟨x,0,none⟩))∧W.cell? ⟨p,3,none⟩=some (.pointer (some ⟨y,0,none⟩))) from by
  have q:=block_keep HB.out hk (fun h=>h)
  exact⟨cell_at q rfl,cell_at q rfl,cell_at q rfl,cell_at q rfl⟩)
 clear h hwB kB
 go_enter Tryz.func25,Tryz.ntmps25
 go_upto_region 1 with (fail)
 rw [HWB.out]
 go_upto_region 29 with (fail)
 have kd:Keeps (fun _=>False) wB wB.drew:=(Keeps.refl _ _).drew
 refine wp_region_first 26 (fun W=>(W.cell? ⟨p,0,none⟩=some (.pointer (some ⟨a,0,none⟩))∧W.cell? ⟨p,1,none⟩=some (.pointer (some ⟨m,0,none⟩))∧W.cell? ⟨p,2,none⟩=some (.pointer (some ⟨x,0,none⟩))∧W.cell? ⟨p,3,none⟩=some (.pointer (some ⟨y,0,none⟩)))) (by kernel_rfl) (HPS.out _ kd) (fun hS=>?_)
 refine wpAnyU_take 0 (v:=?_) rfl (by kernel_rfl) (by kernel_rfl) (by kernel_rfl) (by kernel_rfl) (fun _ _ _ h=>h) (Or.inl ⟨by rfl,?_⟩) (by assumption) ?_
 rotate_left
 ·(intro w hSw;(try dsimp only at hSw);simp only [List.getElem_toArray,List.getElem_cons_zero,List.getElem_cons_succ];go_simp;(first | done | with_reducible rfl))
 simp only [List.getElem_toArray,List.getElem_cons_zero,List.getElem_cons_succ,Act.put,List.setIfInBounds_toArray,List.set_cons_zero,List.set_cons_succ]
 refine wpAnyU_takeW 1 (v:=?_) rfl (by kernel_rfl) (by kernel_rfl) (by kernel_rfl) (by kernel_rfl) (fun _ _ _ h=>h) (Or.inl ⟨by rfl,?_⟩) (by assumption) ?_
 rotate_left
 ·(intro w;simp only [List.getElem_toArray,List.getElem_cons_zero,List.getElem_cons_succ];go_simp;(first | done | with_reducible rfl))
 simp only [List.getElem_toArray,List.getElem_cons_zero,List.getElem_cons_succ,Act.put,List.setIfInBounds_toArray,List.set_cons_zero,List.set_cons_succ]
 refine wpAnyU_takeW 2 (v:=?_) rfl (by kernel_rfl) (by kernel_rfl) (by kernel_rfl) (by kernel_rfl) (fun _ _ _ h=>h) (Or.inl ⟨by rfl,?_⟩) (by assumption) ?_
 rotate_left
 ·(intro w;simp only [List.getElem_toArray,List.getElem_cons_zero,List.getElem_cons_succ];go_simp;(first | done | with_reducible rfl))
 simp only [List.getElem_toArray,List.getElem_cons_zero,List.getElem_cons_succ,Act.put,List.setIfInBounds_toArray,List.set_cons_zero,List.set_cons_succ]
 refine wpAnyU_takeW 3 (v:=?_) rfl (by kernel_rfl) (by kernel_rfl) (by kernel_rfl) (by kernel_rfl) (fun _ _ _ h=>h) (Or.inl ⟨by rfl,?_⟩) (by assumption) ?_
 rotate_left
 ·(intro w;simp only [List.getElem_toArray,List.getElem_cons_zero,List.getElem_cons_succ];go_simp;(first | done | with_reducible rfl))
 simp only [List.getElem_toArray,List.getElem_cons_zero,List.getElem_cons_succ,Act.put,List.setIfInBounds_toArray,List.set_cons_zero,List.set_cons_succ]
 refine wpAnyU_take 4 (v:=?_) rfl (by kernel_rfl) (by kernel_rfl) (by kernel_rfl) (by kernel_rfl) (fun _ _ _ h=>h) (Or.inl ⟨by rfl,?_⟩) (by assumption) ?_
 rotate_left
 ·(intro w hSw;(try dsimp only at hSw);simp only [List.getElem_toArray,List.getElem_cons_zero,List.getElem_cons_succ];go_simp;(first | done | with_reducible rfl))
 simp only [List.getElem_toArray,List.getElem_cons_zero,List.getElem_cons_succ,Act.put,List.setIfInBounds_toArray,List.set_cons_zero,List.set_cons_succ]
 refine wpAnyU_take 5 (v:=?_) rfl (by kernel_rfl) (by kernel_rfl) (by kernel_rfl) (by kernel_rfl) (fun _ _ _ h=>h) (Or.inl ⟨by rfl,?_⟩) (by assumption) ?_
 rotate_left
 ·(intro w hSw;(try dsimp only at hSw);simp only [List.getElem_toArray,List.getElem_cons_zero,List.getElem_cons_succ];go_simp;(first | done | with_reducible rfl))
 simp only [List.getElem_toArray,List.getElem_cons_zero,List.getElem_cons_succ,Act.put,List.setIfInBounds_toArray,List.set_cons_zero,List.set_cons_succ]
 refine wpAnyU_take 6 (v:=?_) rfl (by kernel_rfl) (by kernel_rfl) (by kernel_rfl) (by kernel_rfl) (fun _ _ _ h=>h) (Or.inl ⟨by rfl,?_⟩) (by assumption) ?_
 rotate_left
 ·(intro w hSw;(try dsimp only at hSw);simp only [List.getElem_toArray,List.getElem_cons_zero,List.getElem_cons_succ];go_simp;(first | done | with_reducible rfl))
 simp only [List.getElem_toArray,List.getElem_cons_zero,List.getElem_cons_succ,Act.put,List.setIfInBounds_toArray,List.set_cons_zero,List.set_cons_succ]
 refine wpAnyU_take 7 (v:=?_) rfl (by kernel_rfl) (by kernel_rfl) (by kernel_rfl) (by kernel_rfl) (fun _ _ _ h=>h) (Or.inl ⟨by rfl,?_⟩) (by assumption) ?_
 rotate_left
 ·(intro w hSw;(try dsimp only at hSw);simp only [List.getElem_toArray,List.getElem_cons_zero,List.getElem_cons_succ];go_simp;(first | done | with_reducible rfl))
 simp only [List.getElem_toArray,List.getElem_cons_zero,List.getElem_cons_succ,Act.put,List.setIfInBounds_toArray,List.set_cons_zero,List.set_cons_succ]
 refine wpAnyU_take 9 (v:=?_) rfl (by kernel_rfl) (by kernel_rfl) (by kernel_rfl) (by kernel_rfl) (fun _ _ _ h=>h) (Or.inl ⟨by rfl,?_⟩) (by assumption) ?_
 rotate_left
 ·(intro w hSw;(try dsimp only at hSw);simp only [List.getElem_toArray,List.getElem_cons_zero,List.getElem_cons_succ];go_simp;(first | done | with_reducible rfl))
 simp only [List.getElem_toArray,List.getElem_cons_zero,List.getElem_cons_succ,Act.put,List.setIfInBounds_toArray,List.set_cons_zero,List.set_cons_succ]
 refine wpAnyU_take 10 (v:=?_) rfl (by kernel_rfl) (by kernel_rfl) (by kernel_rfl) (by kernel_rfl) (fun _ _ _ h=>h) (Or.inl ⟨by rfl,?_⟩) (by assumption) ?_
 rotate_left
 ·(intro w hSw;(try dsimp only at hSw);simp only [List.getElem_toArray,List.getElem_cons_zero,List.getElem_cons_succ];go_simp;(first | done | with_reducible rfl))
 simp only [List.getElem_toArray,List.getElem_cons_zero,List.getElem_cons_succ,Act.put,List.setIfInBounds_toArray,List.set_cons_zero,List.set_cons_succ]
 refine wpAnyU_take 11 (v:=?_) rfl (by kernel_rfl) (by kernel_rfl) (by kernel_rfl) (by kernel_rfl) (fun _ _ _ h=>h) (Or.inl ⟨by rfl,?_⟩) (by assumption) ?_
 rotate_left
 ·(intro w hSw;(try dsimp only at hSw);simp only [List.getElem_toArray,List.getElem_cons_zero,List.getElem_cons_succ];go_simp;(first | done | with_reducible rfl))
 simp only [List.getElem_toArray,List.getElem_cons_zero,List.getElem_cons_succ,Act.put,List.setIfInBounds_toArray,List.set_cons_zero,List.set_cons_succ]
 refine wpAnyU_take 12 (v:=?_) rfl (by kernel_rfl) (by kernel_rfl) (by kernel_rfl) (by kernel_rfl) (fun _ _ _ h=>h) (Or.inl ⟨by rfl,?_⟩) (by assumption) ?_
 rotate_left
 ·(intro w hSw;(try dsimp only at hSw);simp only [List.getElem_toArray,List.getElem_cons_zero,List.getElem_cons_succ];go_simp;(first | done | with_reducible rfl))
 simp only [List.getElem_toArray,List.getElem_cons_zero,List.getElem_cons_succ,Act.put,List.setIfInBounds_toArray,List.set_cons_zero,List.set_cons_succ]
 refine wpAnyU_take 14 (v:=?_) rfl (by kernel_rfl) (by kernel_rfl) (by kernel_rfl) (by kernel_rfl) (fun _ _ _ h=>h) (Or.inl ⟨by rfl,?_⟩) (by assumption) ?_
 rotate_left
 ·(intro w hSw;(try dsimp only at hSw);simp only [List.getElem_toArray,List.getElem_cons_zero,List.getElem_cons_succ];go_simp;(first | done | with_reducible rfl))
 simp only [List.getElem_toArray,List.getElem_cons_zero,List.getElem_cons_succ,Act.put,List.setIfInBounds_toArray,List.set_cons_zero,List.set_cons_succ]
 refine wpAnyU_take 15 (v:=?_) rfl (by kernel_rfl) (by kernel_rfl) (by kernel_rfl) (by kernel_rfl) (fun _ _ _ h=>h) (Or.inl ⟨by rfl,?_⟩) (by assumption) ?_
 rotate_left
 ·(intro w hSw;(try dsimp only at hSw);simp only [List.getElem_toArray,List.getElem_cons_zero,List.getElem_cons_succ];go_simp;(first | done | with_reducible rfl))
 simp only [List.getElem_toArray,List.getElem_cons_zero,List.getElem_cons_succ,Act.put,List.setIfInBounds_toArray,List.set_cons_zero,List.set_cons_succ]
 refine wpAnyU_take 16 (v:=?_) rfl (by kernel_rfl) (by kernel_rfl) (by kernel_rfl) (by kernel_rfl) (fun _ _ _ h=>h) (Or.inl ⟨by rfl,?_⟩) (by assumption) ?_
 rotate_left
 ·(intro w hSw;(try dsimp only at hSw);simp only [List.getElem_toArray,List.getElem_cons_zero,List.getElem_cons_succ];go_simp;(first | done | with_reducible rfl))
 simp only [List.getElem_toArray,List.getElem_cons_zero,List.getElem_cons_succ,Act.put,List.setIfInBounds_toArray,List.set_cons_zero,List.set_cons_succ]
 refine wpAnyU_take 17 (v:=?_) rfl (by kernel_rfl) (by kernel_rfl) (by kernel_rfl) (by kernel_rfl) (fun _ _ _ h=>h) (Or.inl ⟨by rfl,?_⟩) (by assumption) ?_
 rotate_left
 ·(intro w hSw;(try dsimp only at hSw);simp only [List.getElem_toArray,List.getElem_cons_zero,List.getElem_cons_succ];go_simp;(first | done | with_reducible rfl))
 simp only [List.getElem_toArray,List.getElem_cons_zero,List.getElem_cons_succ,Act.put,List.setIfInBounds_toArray,List.set_cons_zero,List.set_cons_succ]
 refine wpAnyU_take 19 (v:=?_) rfl (by kernel_rfl) (by kernel_rfl) (by kernel_rfl) (by kernel_rfl) (fun _ _ _ h=>h) (Or.inl ⟨by rfl,?_⟩) (by assumption) ?_
 rotate_left
 ·(intro w hSw;(try dsimp only at hSw);simp only [List.getElem_toArray,List.getElem_cons_zero,List.getElem_cons_succ];go_simp;(first | done | with_reducible rfl))
 simp only [List.getElem_toArray,List.getElem_cons_zero,List.getElem_cons_succ,Act.put,List.setIfInBounds_toArray,List.set_cons_zero,List.set_cons_succ]
 refine wpAnyU_take 20 (v:=?_) rfl (by kernel_rfl) (by kernel_rfl) (by kernel_rfl) (by kernel_rfl) (fun _ _ _ h=>h) (Or.inl ⟨by rfl,?_⟩) (by assumption) ?_
 rotate_left
 ·(intro w hSw;(try dsimp only at hSw);simp only [List.getElem_toArray,List.getElem_cons_zero,List.getElem_cons_succ];go_simp;(first | done | with_reducible rfl))
 simp only [List.getElem_toArray,List.getElem_cons_zero,List.getElem_cons_succ,Act.put,List.setIfInBounds_toArray,List.set_cons_zero,List.set_cons_succ]
 refine wpAnyU_take 21 (v:=?_) rfl (by kernel_rfl) (by kernel_rfl) (by kernel_rfl) (by kernel_rfl) (fun _ _ _ h=>h) (Or.inl ⟨by rfl,?_⟩) (by assumption) ?_
 rotate_left
 ·(intro w hSw;(try dsimp only at hSw);simp only [List.getElem_toArray,List.getElem_cons_zero,List.getElem_cons_succ];go_simp;(first | done | with_reducible rfl))
 simp only [List.getElem_toArray,List.getElem_cons_zero,List.getElem_cons_succ,Act.put,List.setIfInBounds_toArray,List.set_cons_zero,List.set_cons_succ]
 refine wpAnyU_take 22 (v:=?_) rfl (by kernel_rfl) (by kernel_rfl) (by kernel_rfl) (by kernel_rfl) (fun _ _ _ h=>h) (Or.inl ⟨by rfl,?_⟩) (by assumption) ?_
 rotate_left
 ·(intro w hSw;(try dsimp only at hSw);simp only [List.getElem_toArray,List.getElem_cons_zero,List.getElem_cons_succ];go_simp;(first | done | with_reducible rfl))
 simp only [List.getElem_toArray,List.getElem_cons_zero,List.getElem_cons_succ,Act.put,List.setIfInBounds_toArray,List.set_cons_zero,List.set_cons_succ]
 refine wpAnyU_one (i:=8) (by kernel_rfl) rfl rfl (fun K hK=>?_)
 go_simp
 go_at_call 13
 refine (acopy_ok a LA A _ (HF.out.quiet kd).du.ar).mono ?_
 rintro e w1 ⟨a',rfl,k1,LA',ha,ba⟩
 have k1':=kd.trans k1
 refine hK.out _ _ ?_ (fun hHeld=>?_)
 ·exact (HPS.out _ k1')
 clear hK K
 try dsimp only [Act.put,List.setIfInBounds_toArray,List.set_cons_zero,List.set_cons_succ]
 refine wpAnyU_one (i:=13) (by kernel_rfl) rfl rfl (fun K hK=>?_)
 go_simp
 go_at_call 14
 refine (mcopy_ok m LM M _ (HF.out.quiet k1').du.mm).mono ?_
 rintro e w2 ⟨m',LM',rfl,k2,hm,bm⟩
 have k2':=k1'.trans k2
 refine hK.out _ _ ?_ (fun hHeld=>?_)
 ·exact (HPS.out _ k2')
 clear hK K
 try dsimp only [Act.put,List.setIfInBounds_toArray,List.set_cons_zero,List.set_cons_succ]
 refine wpAnyU_one (i:=18) (by kernel_rfl) rfl rfl (fun K hK=>?_)
 go_simp
 go_at_call 81
 obtain⟨LR,_,hr0,_⟩:=(HF.out.quiet k2').doc
 refine (copy18 hr0).mono ?_
 rintro e w3 ⟨x',LR',rfl,k3,lx,lhb,hr⟩
 have k3':=k2'.trans k3
 refine hK.out _ _ ?_ (fun hHeld=>?_)
 ·exact (HPS.out _ k3')
 clear hK K
 try dsimp only [Act.put,List.setIfInBounds_toArray,List.set_cons_zero,List.set_cons_succ]
 refine wpAnyU_one (i:=23) (by kernel_rfl) rfl rfl (fun K hK=>?_)
 go_simp
 go_at_call 82
 obtain⟨L0,hd0,_⟩:=(HF.out.quiet k3').d
 refine (copy24 hd0).mono ?_
 rintro e w4 ⟨y',rfl,k4,hd⟩
 have k4':=k3'.trans k4
 refine hK.out _ _ ?_ (fun hHeld=>?_)
 ·exact (HPS.out _ k4')
 clear hK K
 try dsimp only [Act.put,List.setIfInBounds_toArray,List.set_cons_zero,List.set_cons_succ]
 have q4:=block_keep HB.out k4' (fun h=>h)
 have f0:=frozen_block q4 0;have f1:=frozen_block q4 1;have f2:=frozen_block q4 2;have f3:=frozen_block q4 3
 have l4:=lt_block q4
 refine wpAnyU_takeW 24 (v:=?_) rfl (by kernel_rfl) (by kernel_rfl) (by kernel_rfl) (by kernel_rfl) (fun _ _ _ h=>h) (Or.inl ⟨by rfl,?_⟩) (by assumption) ?_
 rotate_left
 ·(intro w;simp only [List.getElem_toArray,List.getElem_cons_zero,List.getElem_cons_succ];go_simp;(first | done | with_reducible rfl))
 simp only [List.getElem_toArray,List.getElem_cons_zero,List.getElem_cons_succ,Act.put,List.setIfInBounds_toArray,List.set_cons_zero,List.set_cons_succ]
 refine wpAnyU_takeW 25 (v:=?_) rfl (by kernel_rfl) (by kernel_rfl) (by kernel_rfl) (by kernel_rfl) (fun _ _ _ h=>h) (Or.inl ⟨by rfl,?_⟩) (by assumption) ?_
 rotate_left
 ·(intro w;simp only [List.getElem_toArray,List.getElem_cons_zero,List.getElem_cons_succ];go_simp;(first | done | with_reducible rfl))
 simp only [List.getElem_toArray,List.getElem_cons_zero,List.getElem_cons_succ,Act.put,List.setIfInBounds_toArray,List.set_cons_zero,List.set_cons_succ]
 obtain⟨g0,g1,g2,g3⟩:=hHeld
 refine wpAnyU_turn (by kernel_rfl) rfl (fun K hK=>?_)
 go_simp
 refine hK.out _ _ ?_
 clear hK K
 refine wpAny_one (i:=27) (by kernel_rfl) rfl (fun K hK=>?_)
 go_simp
 refine hK.out _ _ ?_
 clear hK K
 refine wpAny_one (i:=28) (by kernel_rfl) rfl (fun K hK=>?_)
 go_simp
 refine hK.out _ _ ?_
 clear hK K
 refine wpAny_one (i:=29) (by kernel_rfl) rfl (fun K hK=>?_)
 go_simp
 refine hK.out _ _ ?_
 clear hK K
 refine wpAny_one (i:=30) (by kernel_rfl) rfl (fun K hK=>?_)
 go_simp
 refine hK.out _ _ ?_
 clear hK K
 refine wpAny_one (i:=31) (by kernel_rfl) rfl (fun K hK=>?_)
 go_simp
 refine hK.out _ _ ?_
 clear hK K
 refine wpAny_one (i:=32) (by kernel_rfl) rfl (fun K hK=>?_)
 go_simp
 refine hK.out _ _ ?_
 clear hK K
 refine wpAny_one (i:=33) (by kernel_rfl) rfl (fun K hK=>?_)
 go_simp
 refine hK.out _ _ ?_
 clear hK K
 refine wpAny_one (i:=34) (by kernel_rfl) rfl (fun K hK=>?_)
 go_simp
 refine hK.out _ _ ?_
 clear hK K
 refine wpAny_one (i:=35) (by kernel_rfl) rfl (fun K hK=>?_)
 go_simp
 refine hK.out _ _ ?_
 refine wpAny_last (by kernel_rfl) ?_
 refine NoPanic.normal ?_
 clear f0 f1 f2 f3 g0 g1 g2 g3 hS
 go_wp2_with fail
 go_ret
 obtain⟨s1,s2,s3⟩:=set4 (u0:=.pointer (some ⟨a',0,none⟩)) (u1:=.pointer (some ⟨m',0,none⟩)) (u2:=.pointer (some ⟨x',0,none⟩)) (u3:=.pointer (some ⟨y',0,none⟩)) q4
 obtain⟨t1,t2,t3⟩:=set4 (u0:=.pointer (some ⟨a',0,none⟩)) (u1:=.pointer (some ⟨m',0,none⟩)) (u2:=.pointer (some ⟨x',0,none⟩)) (u3:=.pointer (some ⟨y',0,none⟩)) HB.out
 obtain⟨wF,hwF⟩:∃ wF,(((w4.setCell ⟨p,0,none⟩ (.pointer (some ⟨a',0,none⟩))).setCell ⟨p,1,none⟩ (.pointer (some ⟨m',0,none⟩))).setCell ⟨p,2,none⟩ (.pointer (some ⟨x',0,none⟩))).setCell ⟨p,3,none⟩ (.pointer (some ⟨y',0,none⟩))=wF:=⟨_,rfl⟩
 obtain⟨wN,hwN⟩:∃ wN,(((wB.setCell ⟨p,0,none⟩ (.pointer (some ⟨a',0,none⟩))).setCell ⟨p,1,none⟩ (.pointer (some ⟨m',0,none⟩))).setCell ⟨p,2,none⟩ (.pointer (some ⟨x',0,none⟩))).setCell ⟨p,3,none⟩ (.pointer (some ⟨y',0,none⟩))=wN:=⟨_,rfl⟩
 rw [hwF] at s1 s2 s3 ⊢
 rw [hwN] at t1 t2 t3
 have pt:∀ {W:World} (hq:∃ c,W.heap[p]?=some (.cells c 63)) (z:Nat) (cs:Array Value) (t:TypeId),W.heap[z]?=some (.cells cs t)→z=p→t=63:=fun {W} hq z cs t hz e=>by
  obtain⟨c,hq⟩:=hq
  subst e;rw [hq] at hz;simp at hz;exact hz.2.symm
 have hkB:Keeps (fun z=>z=p) wB wF:=k4'.up.trans s1
 have z12:=k1.size;have z23:=k2.size;have z34:=k3.size;have z45:=k4.size
 have hz0:wB.drew.heap.size=wB.heap.size:=rfl
 refine⟨rfl,wN,a',m',LA',LM',x',y',by rw [t3];exact KB.out.size,⟨s2,⟨⟨?_,?_,hkB.re t1 t3 s2 t2,?_⟩,by omega,⟨LR',by omega,?_,fun _ _ _ _ h=>h⟩,?_⟩,HOK.out.1,HOK.out.2.1,HOK.out.2.2.1,HOK.out.2.2.2⟩,KB.out.up.trans hkB,fun m0 L0 M0 hm0=>?_⟩
 ·exact (((ha.keeps0 k2).keeps0 k3).keeps0 k4).othr s1 (fun z cs t hz e=>by rw [pt ⟨_,q4⟩ z cs t hz e];decide)
 ·exact ((hm.keeps0 k3).keeps0 k4).othr s1 (fun z cs t hz e=>by rw [pt ⟨_,q4⟩ z cs t hz e];decide)
 ·exact⟨_,_,_,_,(by omega),(by omega),.inl (Nat.le_refl _),ba,bm⟩
 ·exact (hr.k0 k4).keeps s1 (fun z c t hz ht e=>by rw [pt ⟨_,q4⟩ z c t hz e] at ht;revert ht;decide)
 ·exact (hd.lower (by omega)).other s1 (fun z cs t hz e=>by rw [pt ⟨_,q4⟩ z cs t hz e];decide)
 ·exact (hm0.keeps0 KB.out).othr t1 (fun z cs t hz e=>by rw [pt ⟨_,HB.out⟩ z cs t hz e];decide)
end
end Go.Proofs.YtnlkfbndlngjaaaGreat
