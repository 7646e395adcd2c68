import Derived.Test.YtnlkfbndlngjaaaGreatRfI
set_option maxHeartbeats 4000000
set_option maxRecDepth 100000
namespace Go.Proofs.YtnlkfbndlngjaaaGreat
open Go.RowKit
set_option linter.unusedVariables false
set_option linter.unusedSimpArgs false
theorem cp_done {w W:World} {x:Nat} {L:L18} {A:Ar} {b' r' g' cap' n k:Nat} {f0 f1 f2 f3 f4 f5 f6 f7:Rf} (h:R18 w x L A) (hn:A.many=n) (hk:A.H.T.n=k) (hgl:A.gl 0=f0∧A.gl 1=f1∧A.gl 2=f2∧A.gl 3=f3∧A.gl 4=f4∧A.gl 5=f5∧A.gl 6=f6∧A.gl 7=f7)
 (kW:Keeps (fun _=>False) w W) (h14:R14 W b' r' A.H) (hb:w.heap.size≤b') (hown:W.ownsRow w.heap.size 46 1 (.slice (some ⟨g',0,none⟩) n cap') n (slotsL (fun i=>[L.sv i]) n)):
 Keeps (fun _=>False) w (W.alloc (.cells #[.bool true,.int .i64 k,.pointer (some ⟨b',0,none⟩),.slice (some ⟨g',0,none⟩) n cap',.int .i64 f0.s,.int .u32 f0.g,.int .i64 f1.s,.int .u32 f1.g,.int .i64 f2.s,.int .u32 f2.g,.int .i64 f3.s,.int .u32 f3.g,.int .i64 f4.s,.int .u32 f4.g,.int .i64 f5.s,.int .u32 f5.g,.int .i64 f6.s,.int .u32 f6.g,.int .i64 f7.s,.int .u32 f7.g] 149))∧w.heap.size≤W.heap.size∧∃ L':L18,w.heap.size≤L'.hb∧
 R18 (W.alloc (.cells #[.bool true,.int .i64 k,.pointer (some ⟨b',0,none⟩),.slice (some ⟨g',0,none⟩) n cap',.int .i64 f0.s,.int .u32 f0.g,.int .i64 f1.s,.int .u32 f1.g,.int .i64 f2.s,.int .u32 f2.g,.int .i64 f3.s,.int .u32 f3.g,.int .i64 f4.s,.int .u32 f4.g,.int .i64 f5.s,.int .u32 f5.g,.int .i64 f6.s,.int .u32 f6.g,.int .i64 f7.s,.int .u32 f7.g] 149)) W.heap.size L' A:=by
 subst hn;subst hk
 obtain⟨rfl,rfl,rfl,rfl,rfl,rfl,rfl,rfl⟩:=hgl
 obtain⟨cur,hcur,k1,k2,k3,k4⟩:=rowS_of (svL_len L) hown
 refine⟨kW.alloc _,kW.size,⟨b',r',g',L.sv⟩,hb,⟨_,cap',alloc_new,rfl,rfl,rfl,rfl,rfl,?_,k1,k2⟩,h14.keeps ((Keeps.refl (fun _=>False) _).alloc _) (fun h=>h) (fun h=>h),⟨cur,alloc_old hcur,fun j hj=>?_⟩,fun j hj=>(h.st j hj).keeps (kW.alloc _) (fun _ _ h=>h),h.ok⟩
 ·intro i hi
  have:i=0∨i=1∨i=2∨i=3∨i=4∨i=5∨i=6∨i=7:=by omega
  rcases this with rfl | rfl | rfl | rfl | rfl | rfl | rfl | rfl <;> exact⟨rfl,rfl⟩
 ·have:=k4 j 0 hj (by omega)
  rw [Nat.mul_one,Nat.add_zero] at this
  rw [this];rfl
section
variable {w w':World} {x N:Nat} {L:L18} {A A':Ar}
theorem copy18 (h:R18 w x L A):
 Calls Tryz.prog 81 #[.pointer (some ⟨x,0,none⟩)] w fun e w'=>∃ x' L',e = .returned (.pointer (some ⟨x',0,none⟩))∧Keeps (fun _=>False) w w'∧w.heap.size≤x'∧w.heap.size≤L'.hb∧R18 w' x' L' A:=by
 have HVA:=hid (valid18 x w h.made)
 have HH:=hid h
 obtain⟨ri,hi1,hi2,hi3,hi4⟩:=rows_info
 have hmany:=h.ok.m4
 have hmany1:=h.ok.m1
 obtain⟨hlx,hls⟩:=h.lt
 have up:∀ {W:World},Keeps (fun y=>w.heap.size≤y) w W→Keeps (fun _=>False) w W:=fun hk=>Keeps.fresh hk
 have HNEWS:=hid (fun W (hk:Keeps (fun y=>w.heap.size≤y) w W)=>(h.k0 (up hk)).svs)
 have HONE:=hid (show ∀ u∈slotsL (fun i=>[L.sv i]) A.many,u.oneCell'=true by
  intro u hu
  obtain⟨i,hi,hu⟩:=List.mem_flatMap.1 hu
  have hi':i<A.many:=by simpa using hi
  obtain⟨p,c,e,_⟩:=h.sl hi'
  rw [List.mem_singleton.1 hu,e];rfl)
 have HCP:=hid (fun W (hk:Keeps (fun y=>w.heap.size≤y) w W)=>copy14 (h.k0 (up hk)).heap)
 have HOWN:=hid (fun (W:World) (B:Nat) (hB:W.heap[B]?=some (.cells #[] 46)) (hw:w.heap.size≤B)=>show W.ownsRow w.heap.size 46 1 (.slice (some ⟨B,0,none⟩) 0 0) 0 [] from⟨by simp,.inr ⟨B,0,#[],rfl,hw,hB,by simp,by simp,by simp,by simp⟩⟩)
 obtain⟨cx,cap,x1,x2,x3,x4,x5,x6,x7,x8,x9⟩:=h.own
 have g0:=x7 0 (by omega);have g1:=x7 1 (by omega);have g2:=x7 2 (by omega);have g3:=x7 3 (by omega)
 have g4:=x7 4 (by omega);have g5:=x7 5 (by omega);have g6:=x7 6 (by omega);have g7:=x7 7 (by omega)
 obtain⟨f0,e0⟩:∃ f,A.gl 0=f:=⟨_,rfl⟩
 obtain⟨f1,e1⟩:∃ f,A.gl 1=f:=⟨_,rfl⟩
 obtain⟨f2,e2⟩:∃ f,A.gl 2=f:=⟨_,rfl⟩
 obtain⟨f3,e3⟩:∃ f,A.gl 3=f:=⟨_,rfl⟩
 obtain⟨f4,e4⟩:∃ f,A.gl 4=f:=⟨_,rfl⟩
 obtain⟨f5,e5⟩:∃ f,A.gl 5=f:=⟨_,rfl⟩
 obtain⟨f6,e6⟩:∃ f,A.gl 6=f:=⟨_,rfl⟩
 obtain⟨f7,e7⟩:∃ f,A.gl 7=f:=⟨_,rfl⟩
 have HE:=hid (And.intro e0 (And.intro e1 (And.intro e2 (And.intro e3 (And.intro e4 (And.intro e5 (And.intro e6 e7)))))))
 rw [e0] at g0;rw [e1] at g1;rw [e2] at g2;rw [e3] at g3;rw [e4] at g4;rw [e5] at g5;rw [e6] at g6;rw [e7] at g7
 obtain⟨n,hn⟩:∃ n,A.many=n:=⟨_,rfl⟩
 obtain⟨hn',hhn⟩:∃ k,A.H.T.n=k:=⟨_,rfl⟩
 rw [hn] at x6 x8 HNEWS HONE hmany hmany1
 rw [hhn] at x4
 have HPS:=hid (fun W (hk:Keeps (fun y=>w.heap.size≤y) w W)=>show W.cell? ⟨x,1,none⟩=some (.int .i64 hn')∧W.cell? ⟨x,2,none⟩=some (.pointer (some ⟨L.hb,0,none⟩))∧W.cell? ⟨x,3,none⟩=some (.slice (some ⟨L.sr,0,none⟩) n cap)∧
  (W.cell? ⟨x,4,none⟩=some (.int .i64 f0.s)∧W.cell? ⟨x,5,none⟩=some (.int .u32 f0.g))∧(W.cell? ⟨x,6,none⟩=some (.int .i64 f1.s)∧W.cell? ⟨x,7,none⟩=some (.int .u32 f1.g))∧
  (W.cell? ⟨x,8,none⟩=some (.int .i64 f2.s)∧W.cell? ⟨x,9,none⟩=some (.int .u32 f2.g))∧(W.cell? ⟨x,10,none⟩=some (.int .i64 f3.s)∧W.cell? ⟨x,11,none⟩=some (.int .u32 f3.g))∧
  (W.cell? ⟨x,12,none⟩=some (.int .i64 f4.s)∧W.cell? ⟨x,13,none⟩=some (.int .u32 f4.g))∧(W.cell? ⟨x,14,none⟩=some (.int .i64 f5.s)∧W.cell? ⟨x,15,none⟩=some (.int .u32 f5.g))∧
  (W.cell? ⟨x,16,none⟩=some (.int .i64 f6.s)∧W.cell? ⟨x,17,none⟩=some (.int .u32 f6.g))∧(W.cell? ⟨x,18,none⟩=some (.int .i64 f7.s)∧W.cell? ⟨x,19,none⟩=some (.int .u32 f7.g)) from by
  have q:=block_keep x1 hk (by omega)
  exact⟨cell_at q x4,cell_at q x5,cell_at q x6,⟨cell_at q g0.1,cell_at q g0.2⟩,⟨cell_at q g1.1,cell_at q g1.2⟩,⟨cell_at q g2.1,cell_at q g2.2⟩,⟨cell_at q g3.1,cell_at q g3.2⟩,⟨cell_at q g4.1,cell_at q g4.2⟩,⟨cell_at q g5.1,cell_at q g5.2⟩,⟨cell_at q g6.1,cell_at q g6.2⟩,⟨cell_at q g7.1,cell_at q g7.2⟩⟩)
 have HN:=hid hn;have HHN:=hid hhn
 unfold maxLen at x9
 clear h up x1 x2 x3 x4 x5 x6 x7 g0 g1 g2 g3 g4 g5 g6 g7 e0 e1 e2 e3 e4 e5 e6 e7 hn hhn
 go_enter Tryz.func81,Tryz.ntmps81
 go_wp2_with fail
 refine (HVA.out).mono ?_
 rintro e w' ⟨rfl,h'⟩
 obtain rfl:=h'.symm
 go_upto_region 3 with (fail)
 refine wp_region_last 21 (fun W=>W.cell? ⟨x,1,none⟩=some (.int .i64 hn')∧W.cell? ⟨x,2,none⟩=some (.pointer (some ⟨L.hb,0,none⟩))∧W.cell? ⟨x,3,none⟩=some (.slice (some ⟨L.sr,0,none⟩) n cap)∧
  (W.cell? ⟨x,4,none⟩=some (.int .i64 f0.s)∧W.cell? ⟨x,5,none⟩=some (.int .u32 f0.g))∧(W.cell? ⟨x,6,none⟩=some (.int .i64 f1.s)∧W.cell? ⟨x,7,none⟩=some (.int .u32 f1.g))∧
  (W.cell? ⟨x,8,none⟩=some (.int .i64 f2.s)∧W.cell? ⟨x,9,none⟩=some (.int .u32 f2.g))∧(W.cell? ⟨x,10,none⟩=some (.int .i64 f3.s)∧W.cell? ⟨x,11,none⟩=some (.int .u32 f3.g))∧
  (W.cell? ⟨x,12,none⟩=some (.int .i64 f4.s)∧W.cell? ⟨x,13,none⟩=some (.int .u32 f4.g))∧(W.cell? ⟨x,14,none⟩=some (.int .i64 f5.s)∧W.cell? ⟨x,15,none⟩=some (.int .u32 f5.g))∧
  (W.cell? ⟨x,16,none⟩=some (.int .i64 f6.s)∧W.cell? ⟨x,17,none⟩=some (.int .u32 f6.g))∧(W.cell? ⟨x,18,none⟩=some (.int .i64 f7.s)∧W.cell? ⟨x,19,none⟩=some (.int .u32 f7.g))) (by kernel_rfl) (HPS.out _ (Keeps.refl _ _).drew) (fun hS=>?_)
 refine wpAnyT_take (i:=0) (v:=?_) rfl (by kernel_rfl) (by kernel_rfl) (by kernel_rfl) (by kernel_rfl) (fun _ _ _ h=>h) (Or.inl ⟨by rfl,?_⟩) (by assumption) ?_
 rotate_left
 ·(intro w hSw;(try dsimp only at hSw);simp only [List.getElem_toArray,List.getElem_cons_zero,List.getElem_cons_succ];go_simp;(first | done | with_reducible rfl))
 simp only [List.getElem_toArray,List.getElem_cons_zero,List.getElem_cons_succ,Act.put,List.setIfInBounds_toArray,List.set_cons_zero,List.set_cons_succ]
 refine wpAnyT_take (i:=1) (v:=?_) rfl (by kernel_rfl) (by kernel_rfl) (by kernel_rfl) (by kernel_rfl) (fun _ _ _ h=>h) (Or.inl ⟨by rfl,?_⟩) (by assumption) ?_
 rotate_left
 ·(intro w hSw;(try dsimp only at hSw);simp only [List.getElem_toArray,List.getElem_cons_zero,List.getElem_cons_succ];go_simp;(first | done | with_reducible rfl))
 simp only [List.getElem_toArray,List.getElem_cons_zero,List.getElem_cons_succ,Act.put,List.setIfInBounds_toArray,List.set_cons_zero,List.set_cons_succ]
 refine wpAnyT_take (i:=2) (v:=?_) rfl (by kernel_rfl) (by kernel_rfl) (by kernel_rfl) (by kernel_rfl) (fun _ _ _ h=>h) (Or.inl ⟨by rfl,?_⟩) (by assumption) ?_
 rotate_left
 ·(intro w hSw;(try dsimp only at hSw);simp only [List.getElem_toArray,List.getElem_cons_zero,List.getElem_cons_succ];go_simp;(first | done | with_reducible rfl))
 simp only [List.getElem_toArray,List.getElem_cons_zero,List.getElem_cons_succ,Act.put,List.setIfInBounds_toArray,List.set_cons_zero,List.set_cons_succ]
 refine wpAnyT_take (i:=3) (v:=?_) rfl (by kernel_rfl) (by kernel_rfl) (by kernel_rfl) (by kernel_rfl) (fun _ _ _ h=>h) (Or.inl ⟨by rfl,?_⟩) (by assumption) ?_
 rotate_left
 ·(intro w hSw;(try dsimp only at hSw);simp only [List.getElem_toArray,List.getElem_cons_zero,List.getElem_cons_succ];go_simp;(first | done | with_reducible rfl))
 simp only [List.getElem_toArray,List.getElem_cons_zero,List.getElem_cons_succ,Act.put,List.setIfInBounds_toArray,List.set_cons_zero,List.set_cons_succ]
 refine wpAnyT_take (i:=4) (v:=?_) rfl (by kernel_rfl) (by kernel_rfl) (by kernel_rfl) (by kernel_rfl) (fun _ _ _ h=>h) (Or.inl ⟨by rfl,?_⟩) (by assumption) ?_
 rotate_left
 ·(intro w hSw;(try dsimp only at hSw);simp only [List.getElem_toArray,List.getElem_cons_zero,List.getElem_cons_succ];go_simp;(first | done | with_reducible rfl))
 simp only [List.getElem_toArray,List.getElem_cons_zero,List.getElem_cons_succ,Act.put,List.setIfInBounds_toArray,List.set_cons_zero,List.set_cons_succ]
 refine wpAnyT_take (i:=5) (v:=?_) rfl (by kernel_rfl) (by kernel_rfl) (by kernel_rfl) (by kernel_rfl) (fun _ _ _ h=>h) (Or.inl ⟨by rfl,?_⟩) (by assumption) ?_
 rotate_left
 ·(intro w hSw;(try dsimp only at hSw);simp only [List.getElem_toArray,List.getElem_cons_zero,List.getElem_cons_succ];go_simp;(first | done | with_reducible rfl))
 simp only [List.getElem_toArray,List.getElem_cons_zero,List.getElem_cons_succ,Act.put,List.setIfInBounds_toArray,List.set_cons_zero,List.set_cons_succ]
 refine wpAnyT_take (i:=6) (v:=?_) rfl (by kernel_rfl) (by kernel_rfl) (by kernel_rfl) (by kernel_rfl) (fun _ _ _ h=>h) (Or.inl ⟨by rfl,?_⟩) (by assumption) ?_
 rotate_left
 ·(intro w hSw;(try dsimp only at hSw);simp only [List.getElem_toArray,List.getElem_cons_zero,List.getElem_cons_succ];go_simp;(first | done | with_reducible rfl))
 simp only [List.getElem_toArray,List.getElem_cons_zero,List.getElem_cons_succ,Act.put,List.setIfInBounds_toArray,List.set_cons_zero,List.set_cons_succ]
 refine wpAnyT_take (i:=7) (v:=?_) rfl (by kernel_rfl) (by kernel_rfl) (by kernel_rfl) (by kernel_rfl) (fun _ _ _ h=>h) (Or.inl ⟨by rfl,?_⟩) (by assumption) ?_
 rotate_left
 ·(intro w hSw;(try dsimp only at hSw);simp only [List.getElem_toArray,List.getElem_cons_zero,List.getElem_cons_succ];go_simp;(first | done | with_reducible rfl))
 simp only [List.getElem_toArray,List.getElem_cons_zero,List.getElem_cons_succ,Act.put,List.setIfInBounds_toArray,List.set_cons_zero,List.set_cons_succ]
 refine wpAnyT_take (i:=10) (v:=?_) rfl (by kernel_rfl) (by kernel_rfl) (by kernel_rfl) (by kernel_rfl) (fun _ _ _ h=>h) (Or.inl ⟨by rfl,?_⟩) (by assumption) ?_
 rotate_left
 ·(intro w hSw;(try dsimp only at hSw);simp only [List.getElem_toArray,List.getElem_cons_zero,List.getElem_cons_succ];go_simp;(first | done | with_reducible rfl))
 simp only [List.getElem_toArray,List.getElem_cons_zero,List.getElem_cons_succ,Act.put,List.setIfInBounds_toArray,List.set_cons_zero,List.set_cons_succ]
 refine wpAnyT_take (i:=11) (v:=?_) rfl (by kernel_rfl) (by kernel_rfl) (by kernel_rfl) (by kernel_rfl) (fun _ _ _ h=>h) (Or.inl ⟨by rfl,?_⟩) (by assumption) ?_
 rotate_left
 ·(intro w hSw;(try dsimp only at hSw);simp only [List.getElem_toArray,List.getElem_cons_zero,List.getElem_cons_succ];go_simp;(first | done | with_reducible rfl))
 simp only [List.getElem_toArray,List.getElem_cons_zero,List.getElem_cons_succ,Act.put,List.setIfInBounds_toArray,List.set_cons_zero,List.set_cons_succ]
 refine wpAnyT_take (i:=12) (v:=?_) rfl (by kernel_rfl) (by kernel_rfl) (by kernel_rfl) (by kernel_rfl) (fun _ _ _ h=>h) (Or.inl ⟨by rfl,?_⟩) (by assumption) ?_
 rotate_left
 ·(intro w hSw;(try dsimp only at hSw);simp only [List.getElem_toArray,List.getElem_cons_zero,List.getElem_cons_succ];go_simp;(first | done | with_reducible rfl))
 simp only [List.getElem_toArray,List.getElem_cons_zero,List.getElem_cons_succ,Act.put,List.setIfInBounds_toArray,List.set_cons_zero,List.set_cons_succ]
 refine wpAnyT_take (i:=13) (v:=?_) rfl (by kernel_rfl) (by kernel_rfl) (by kernel_rfl) (by kernel_rfl) (fun _ _ _ h=>h) (Or.inl ⟨by rfl,?_⟩) (by assumption) ?_
 rotate_left
 ·(intro w hSw;(try dsimp only at hSw);simp only [List.getElem_toArray,List.getElem_cons_zero,List.getElem_cons_succ];go_simp;(first | done | with_reducible rfl))
 simp only [List.getElem_toArray,List.getElem_cons_zero,List.getElem_cons_succ,Act.put,List.setIfInBounds_toArray,List.set_cons_zero,List.set_cons_succ]
 refine wpAnyT_take (i:=15) (v:=?_) rfl (by kernel_rfl) (by kernel_rfl) (by kernel_rfl) (by kernel_rfl) (fun _ _ _ h=>h) (Or.inl ⟨by rfl,?_⟩) (by assumption) ?_
 rotate_left
 ·(intro w hSw;(try dsimp only at hSw);simp only [List.getElem_toArray,List.getElem_cons_zero,List.getElem_cons_succ];go_simp;(first | done | with_reducible rfl))
 simp only [List.getElem_toArray,List.getElem_cons_zero,List.getElem_cons_succ,Act.put,List.setIfInBounds_toArray,List.set_cons_zero,List.set_cons_succ]
 refine wpAnyT_take (i:=16) (v:=?_) rfl (by kernel_rfl) (by kernel_rfl) (by kernel_rfl) (by kernel_rfl) (fun _ _ _ h=>h) (Or.inl ⟨by rfl,?_⟩) (by assumption) ?_
 rotate_left
 ·(intro w hSw;(try dsimp only at hSw);simp only [List.getElem_toArray,List.getElem_cons_zero,List.getElem_cons_succ];go_simp;(first | done | with_reducible rfl))
 simp only [List.getElem_toArray,List.getElem_cons_zero,List.getElem_cons_succ,Act.put,List.setIfInBounds_toArray,List.set_cons_zero,List.set_cons_succ]
 refine wpAnyT_take (i:=17) (v:=?_) rfl (by kernel_rfl) (by kernel_rfl) (by kernel_rfl) (by kernel_rfl) (fun _ _ _ h=>h) (Or.inl ⟨by rfl,?_⟩) (by assumption) ?_
 rotate_left
 ·(intro w hSw;(try dsimp only at hSw);simp only [List.getElem_toArray,List.getElem_cons_zero,List.getElem_cons_succ];go_simp;(first | done | with_reducible rfl))
 simp only [List.getElem_toArray,List.getElem_cons_zero,List.getElem_cons_succ,Act.put,List.setIfInBounds_toArray,List.set_cons_zero,List.set_cons_succ]
 refine wpAnyT_take (i:=18) (v:=?_) rfl (by kernel_rfl) (by kernel_rfl) (by kernel_rfl) (by kernel_rfl) (fun _ _ _ h=>h) (Or.inl ⟨by rfl,?_⟩) (by assumption) ?_
 rotate_left
 ·(intro w hSw;(try dsimp only at hSw);simp only [List.getElem_toArray,List.getElem_cons_zero,List.getElem_cons_succ];go_simp;(first | done | with_reducible rfl))
 simp only [List.getElem_toArray,List.getElem_cons_zero,List.getElem_cons_succ,Act.put,List.setIfInBounds_toArray,List.set_cons_zero,List.set_cons_succ]
 refine wpAnyT_ready (rs:=[8,9]) (by kernel_rfl) (by simp) ?_
 refine AllReadyT.cons rfl rfl (fun K hK=>?_) (AllReadyT.cons rfl rfl (fun K hK=>?_) AllReadyT.nil)
 ·go_simp
  go_at_call 158
  refine (HCP.out _ (by repeat (first | with_reducible exact Keeps.refl _ _ | with_reducible refine Keeps.alloc ?_ _ | with_reducible refine Keeps.drew ?_ | with_reducible refine Keeps.trans ?_ (by with_reducible assumption)))).mono ?_
  rintro e w5 ⟨b',r',rfl,k5,hb5,hr5,h5⟩
  have hs5:=k5.size
  simp only [World.size_alloc,World.size_drew] at hs5 hb5 hr5
  have k5':Keeps (fun y=>w.heap.size≤y) _ w5:=k5.up
  refine hK.out _ _ ?_ (fun hHeld=>?_)
  ·exact HPS.out _ (by repeat (first | with_reducible exact Keeps.refl _ _ | with_reducible refine Keeps.alloc ?_ _ | with_reducible refine Keeps.drew ?_ | with_reducible refine Keeps.trans ?_ (by with_reducible assumption)))
  clear hK K
  try dsimp only [Act.put,List.setIfInBounds_toArray,List.set_cons_zero,List.set_cons_succ]
  refine wpAnyT_ready (rs:=[9]) (by kernel_rfl) (by simp) ?_
  refine AllReadyT.cons rfl rfl (fun K hK=>?_) AllReadyT.nil
  go_simp
  refine hK.out _ _ ?_ (fun hHeld=>?_)
  ·exact HPS.out _ (by repeat (first | with_reducible exact Keeps.refl _ _ | with_reducible refine Keeps.alloc ?_ _ | with_reducible refine Keeps.drew ?_ | with_reducible refine Keeps.trans ?_ (by with_reducible assumption)))
  clear hK K
  try dsimp only [Act.put,List.setIfInBounds_toArray,List.set_cons_zero,List.set_cons_succ]
  refine wpAnyT_ready (rs:=[14]) (by kernel_rfl) (by simp) ?_
  refine AllReadyT.cons rfl rfl (fun K hK=>?_) AllReadyT.nil
  refine step_append_lies _ rfl _ _ 146 rfl w.heap.size 46 ri (.slice none 0 0) 1 24 Tryz.underlying146 hi1 hi2 hi3 hi4 rfl (by decide) (.slice (some ⟨_,0,none⟩) 0 0) 0 [] rfl (HOWN.out _ _ (by first | exact alloc_new | exact alloc_old alloc_new | exact alloc_new' (by simp) | assumption) (by first | omega | (simp;done) | (simp;omega))) ⟨L.sr,0,none⟩ n cap (slotsL (fun i=>[L.sv i]) n) rfl (by rw [slotsL_len (svL_len L)]) ?c1 ?c2 (by omega) ?c3 ?c4 ?c5 _ rfl ?_
  case c1=>exact HNEWS.out _ (by repeat (first | with_reducible exact Keeps.refl _ _ | with_reducible refine Keeps.alloc ?_ _ | with_reducible refine Keeps.drew ?_ | with_reducible refine Keeps.trans ?_ (by with_reducible assumption)))
  case c2=>exact HONE.out
  case c3=>simp [maxLen];omega
  case c4=>omega
  case c5=>first | omega | (simp;done) | (simp;omega)
  intro g' cap' w6 hown6 hgr6 hat6 hlt6
  have hk6:=grown_keeps hgr6
  have k6':Keeps (fun y=>w.heap.size≤y) _ w6:=hk6.mono (fun y _ hy=>by simp [Value.ownBlock] at hy;omega)
  have hf6:Keeps (fun _=>False) w5 w6:=Keeps.fresh (((Keeps.refl (fun y=>w5.heap.size≤y) w5).alloc _).trans' hk6 (fun _ _ h=>h) (fun y _ hy=>by simp [Value.ownBlock] at hy;omega))
  have H14:=h5.keeps hf6 (fun h=>h) (fun h=>h)
  have KF:Keeps (fun _=>False) w w6:=Keeps.fresh (by repeat (first | with_reducible exact Keeps.refl _ _ | with_reducible refine Keeps.alloc ?_ _ | with_reducible refine Keeps.drew ?_ | with_reducible refine Keeps.trans ?_ (by with_reducible assumption)))
  have hbb:w.heap.size≤b':=by omega
  have HRW:w6.ownsRow w.heap.size 46 1 (.slice (some ⟨g',0,none⟩) n cap') n (slotsL (fun i=>[L.sv i]) n):=by simpa using hown6
  refine hK.out _ _ ?_ (fun hHeld=>?_)
  ·exact HPS.out _ (by repeat (first | with_reducible exact Keeps.refl _ _ | with_reducible refine Keeps.alloc ?_ _ | with_reducible refine Keeps.drew ?_ | with_reducible refine Keeps.trans ?_ (by with_reducible assumption)))
  clear hK K
  try dsimp only [Act.put,List.setIfInBounds_toArray,List.set_cons_zero,List.set_cons_succ]
  refine wpAnyT_ready (rs:=[19]) (by kernel_rfl) (by simp) ?_
  refine AllReadyT.cons rfl rfl (fun K hK=>?_) AllReadyT.nil
  go_simp
  refine hK.out _ _ ?_ (fun hHeld=>?_)
  ·exact HPS.out _ (by repeat (first | with_reducible exact Keeps.refl _ _ | with_reducible refine Keeps.alloc ?_ _ | with_reducible refine Keeps.drew ?_ | with_reducible refine Keeps.trans ?_ (by with_reducible assumption)))
  clear hK K
  try dsimp only [Act.put,List.setIfInBounds_toArray,List.set_cons_zero,List.set_cons_succ]
  refine wpAnyT_ready (rs:=[20]) (by kernel_rfl) (by simp) ?_
  refine AllReadyT.cons rfl rfl (fun K hK=>?_) AllReadyT.nil
  go_simp
  refine hK.out _ _ ?_ (fun hHeld=>?_)
  ·exact HPS.out _ (by repeat (first | with_reducible exact Keeps.refl _ _ | with_reducible refine Keeps.alloc ?_ _ | with_reducible refine Keeps.drew ?_ | with_reducible refine Keeps.trans ?_ (by with_reducible assumption)))
  clear hK K
  try dsimp only [Act.put,List.setIfInBounds_toArray,List.set_cons_zero,List.set_cons_succ]
  refine wpAnyT_ready (rs:=[21]) (by kernel_rfl) (by simp) ?_
  refine AllReadyT.last rfl (by kernel_rfl) (fun K hK=>?_)
  go_simp
  refine hK.out _ _ ?_
  refine NoPanic.normal ?_
  go_wp2_with fail
  go_ret
  obtain⟨z1,z2,L',z3,z4⟩:=cp_done HH.out HN.out HHN.out HE.out KF H14 hbb HRW
  exact⟨_,L',rfl,z1,z2,z3,z4⟩
 ·go_simp
  refine hK.out _ _ ?_ (fun hHeld=>?_)
  ·exact HPS.out _ (by repeat (first | with_reducible exact Keeps.refl _ _ | with_reducible refine Keeps.alloc ?_ _ | with_reducible refine Keeps.drew ?_ | with_reducible refine Keeps.trans ?_ (by with_reducible assumption)))
  clear hK K
  try dsimp only [Act.put,List.setIfInBounds_toArray,List.set_cons_zero,List.set_cons_succ]
  refine wpAnyT_ready (rs:=[8]) (by kernel_rfl) (by simp) ?_
  refine AllReadyT.cons rfl rfl (fun K hK=>?_) AllReadyT.nil
  go_simp
  go_at_call 158
  refine (HCP.out _ (by repeat (first | with_reducible exact Keeps.refl _ _ | with_reducible refine Keeps.alloc ?_ _ | with_reducible refine Keeps.drew ?_ | with_reducible refine Keeps.trans ?_ (by with_reducible assumption)))).mono ?_
  rintro e w5 ⟨b',r',rfl,k5,hb5,hr5,h5⟩
  have hs5:=k5.size
  simp only [World.size_alloc,World.size_drew] at hs5 hb5 hr5
  have k5':Keeps (fun y=>w.heap.size≤y) _ w5:=k5.up
  have q5:=block_keep (alloc_new (w:=w.drew) (o:=.cells #[] 46)) k5 (fun h=>h)
  refine hK.out _ _ ?_ (fun hHeld=>?_)
  ·exact HPS.out _ (by repeat (first | with_reducible exact Keeps.refl _ _ | with_reducible refine Keeps.alloc ?_ _ | with_reducible refine Keeps.drew ?_ | with_reducible refine Keeps.trans ?_ (by with_reducible assumption)))
  clear hK K
  try dsimp only [Act.put,List.setIfInBounds_toArray,List.set_cons_zero,List.set_cons_succ]
  refine wpAnyT_ready (rs:=[14]) (by kernel_rfl) (by simp) ?_
  refine AllReadyT.cons rfl rfl (fun K hK=>?_) AllReadyT.nil
  refine step_append_lies _ rfl _ _ 146 rfl w.heap.size 46 ri (.slice none 0 0) 1 24 Tryz.underlying146 hi1 hi2 hi3 hi4 rfl (by decide) (.slice (some ⟨_,0,none⟩) 0 0) 0 [] rfl (HOWN.out _ _ (by first | exact alloc_new | exact alloc_old alloc_new | exact alloc_new' (by simp) | assumption) (by first | omega | (simp;done) | (simp;omega))) ⟨L.sr,0,none⟩ n cap (slotsL (fun i=>[L.sv i]) n) rfl (by rw [slotsL_len (svL_len L)]) ?c1 ?c2 (by omega) ?c3 ?c4 ?c5 _ rfl ?_
  case c1=>exact HNEWS.out _ (by repeat (first | with_reducible exact Keeps.refl _ _ | with_reducible refine Keeps.alloc ?_ _ | with_reducible refine Keeps.drew ?_ | with_reducible refine Keeps.trans ?_ (by with_reducible assumption)))
  case c2=>exact HONE.out
  case c3=>simp [maxLen];omega
  case c4=>omega
  case c5=>first | omega | (simp;done) | (simp;omega)
  intro g' cap' w6 hown6 hgr6 hat6 hlt6
  have hk6:=grown_keeps hgr6
  have k6':Keeps (fun y=>w.heap.size≤y) _ w6:=hk6.mono (fun y _ hy=>by simp [Value.ownBlock] at hy;omega)
  have H14:=h5.keeps hk6 (fun h=>by simp [Value.ownBlock] at h;omega) (fun h=>by simp [Value.ownBlock] at h;omega)
  have KF:Keeps (fun _=>False) w w6:=Keeps.fresh (by repeat (first | with_reducible exact Keeps.refl _ _ | with_reducible refine Keeps.alloc ?_ _ | with_reducible refine Keeps.drew ?_ | with_reducible refine Keeps.trans ?_ (by with_reducible assumption)))
  have hbb:w.heap.size≤b':=by omega
  have HRW:w6.ownsRow w.heap.size 46 1 (.slice (some ⟨g',0,none⟩) n cap') n (slotsL (fun i=>[L.sv i]) n):=by simpa using hown6
  refine hK.out _ _ ?_ (fun hHeld=>?_)
  ·exact HPS.out _ (by repeat (first | with_reducible exact Keeps.refl _ _ | with_reducible refine Keeps.alloc ?_ _ | with_reducible refine Keeps.drew ?_ | with_reducible refine Keeps.trans ?_ (by with_reducible assumption)))
  clear hK K
  try dsimp only [Act.put,List.setIfInBounds_toArray,List.set_cons_zero,List.set_cons_succ]
  refine wpAnyT_ready (rs:=[19]) (by kernel_rfl) (by simp) ?_
  refine AllReadyT.cons rfl rfl (fun K hK=>?_) AllReadyT.nil
  go_simp
  refine hK.out _ _ ?_ (fun hHeld=>?_)
  ·exact HPS.out _ (by repeat (first | with_reducible exact Keeps.refl _ _ | with_reducible refine Keeps.alloc ?_ _ | with_reducible refine Keeps.drew ?_ | with_reducible refine Keeps.trans ?_ (by with_reducible assumption)))
  clear hK K
  try dsimp only [Act.put,List.setIfInBounds_toArray,List.set_cons_zero,List.set_cons_succ]
  refine wpAnyT_ready (rs:=[20]) (by kernel_rfl) (by simp) ?_
  refine AllReadyT.cons rfl rfl (fun K hK=>?_) AllReadyT.nil
  go_simp
  refine hK.out _ _ ?_ (fun hHeld=>?_)
  ·exact HPS.out _ (by repeat (first | with_reducible exact Keeps.refl _ _ | with_reducible refine Keeps.alloc ?_ _ | with_reducible refine Keeps.drew ?_ | with_reducible refine Keeps.trans ?_ (by with_reducible assumption)))
  clear hK K
  try dsimp only [Act.put,List.setIfInBounds_toArray,List.set_cons_zero,List.set_cons_succ]
  refine wpAnyT_ready (rs:=[21]) (by kernel_rfl) (by simp) ?_
  refine AllReadyT.last rfl (by kernel_rfl) (fun K hK=>?_)
  go_simp
  refine hK.out _ _ ?_
  refine NoPanic.normal ?_
  go_wp2_with fail
  go_ret
  obtain⟨z1,z2,L',z3,z4⟩:=cp_done HH.out HN.out HHN.out HE.out KF H14 hbb HRW
  exact⟨_,L',rfl,z1,z2,z3,z4⟩
end
end Go.Proofs.YtnlkfbndlngjaaaGreat
