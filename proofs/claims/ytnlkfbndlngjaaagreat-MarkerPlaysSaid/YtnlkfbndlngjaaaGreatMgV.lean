import Derived.Test.YtnlkfbndlngjaaaGreatMgU
set_option maxHeartbeats 4000000
set_option maxRecDepth 100000
namespace Go.Proofs.YtnlkfbndlngjaaaGreat
open Go.RowKit
theorem amk1_bad (Bn Bh:Nat) (n:Int) (hd:Bool) (w:World) (hk:¬ okNew n hd) (q1:w.heap[Bn]?=some (.cells #[.int .i64 n] 3)) (q2:w.heap[Bh]?=some (.cells #[.bool hd] 4)):
 Calls Tryz.prog 104 #[.pointer (some ⟨Bn,0,none⟩),.pointer (some ⟨Bh,0,none⟩)] w fun e w'=>e = .returned (.int .i64 2)∧Keeps (fun _=>False) w w':=by
 obtain⟨c1,_,_⟩:=cells1 q1
 obtain⟨c2,_,_⟩:=cells1 q2
 have HN:=hid (fun w=>fnew_bad n hd w hk)
 clear q1 q2 hk
 go_enter Tryz.func104,Tryz.ntmps104
 go_wp2_with fail
 refine (HN.out _).mono ?_
 rintro e w1 ⟨rfl,hk1⟩
 dsimp only [Ob.arr,Ob.new,Rf.no]
 go_wp2_with fail
 go_ret
 exact⟨rfl,hk1.alloc _⟩
theorem amk2_full (a:Nat) (L:ArL) (A:Ar) (Ba Bn Bh:Nat) (n:Int) (hd:Bool) (w:World) (h:ArIn w a L A) (hk:okNew n hd) (hi:A.H.T.inn 0 A.H.T.n=[])
 (q0:w.heap[Ba]?=some (.cells #[.pointer (some ⟨a,0,none⟩)] 25)) (q1:w.heap[Bn]?=some (.cells #[.int .i64 n] 3)) (q2:w.heap[Bh]?=some (.cells #[.bool hd] 4)):
 Calls Tryz.prog 106 #[.pointer (some ⟨Ba,0,none⟩),.pointer (some ⟨Bn,0,none⟩),.pointer (some ⟨Bh,0,none⟩)] w
  fun e w'=>e = .returned (.tuple #[Rf.no.val,.int .i64 4])∧Keeps (fun y=>y=L.b∨y=L.t) w w'∧HpAt w' L.b L.t A.H:=by
 have no:∀ {x c' t'},w.heap[x]?=some (.cells c' t')→t'≠114→t'≠244→¬ (x=L.b∨x=L.t):=fun h1 h2 h3 h'=>by
  obtain⟨_,_,⟨⟨c2,hc2,_⟩,⟨c3,hc3,_⟩,_,_⟩,_⟩:=id h
  rcases h' with h' | h'
  ·exact type_ne h1 hc2 h2 h'
  ·exact type_ne h1 hc3 h3 h'
 obtain⟨⟨cc,hcc,hCC⟩,_⟩:=id h
 have HF:=hid (fun (w':World) (hk':Keeps (fun y=>(y=L.b∨y=L.t)∨w.heap.size≤y) w w')=>And.intro (cells1 (block_keep q0 hk' (fun h=>by have:=lt_block q0;rcases h with h | h;exact no q0 (by decide) (by decide) h;omega))).1 (And.intro (cells1 (block_keep q1 hk' (fun h=>by have:=lt_block q1;rcases h with h | h;exact no q1 (by decide) (by decide) h;omega))).1 (And.intro (cells1 (block_keep q2 hk' (fun h=>by have:=lt_block q2;rcases h with h | h;exact no q2 (by decide) (by decide) h;omega))).1 (And.intro (cell_at (block_keep hcc hk' (fun h=>by have:=lt_block hcc;rcases h with h | h;exact no hcc (by decide) (by decide) h;omega)) hCC.obj) ((cells1 (block_keep h.obj hk' (fun h'=>by have:=lt_block h.obj;rcases h' with h' | h';exact no h.obj (by decide) (by decide) h';omega))).1)))))
 clear hcc hCC
 have hbl:=h.heap.lt
 have htl:=h.heap.tab.lt
 have HM:=hid (fun (w':World) (hk':Keeps (fun _=>False) w w')=>hmake_ok L.b L.t A.H n hd w' (h.heap.keeps hk' (fun h=>h) (fun h=>h)) hk)
 have HI:=hid hi
 clear q0 q1 q2 h hk hi
 go_enter Tryz.func106,Tryz.ntmps106
 go_upto_region 1 with (fail)
 obtain⟨w0,hw0⟩:∃ w0,w.alloc (.cells #[.int .i64 0,.int .u32 0] 34)=w0:=⟨_,rfl⟩
 have k0:Keeps (fun _=>False) w w0:=by rw [← hw0];exact (Keeps.refl _ _).alloc _
 have q:w0.heap[w.heap.size]?=some (.cells #[.int .i64 0,.int .u32 0] 34):=by rw [← hw0];exact alloc_new
 have HQ:=hid q;have HK0:=hid (show Keeps (fun y=>(y=L.b∨y=L.t)∨w.heap.size≤y) w w0 from k0.up)
 obtain⟨c0,c1,c2,c3,c4⟩:=HF.out _ HK0.out
 have HK0':=hid k0
 rw [hw0]
 clear hw0 q k0 no
 go_region_held3 (fun W=>W.cell? ⟨Ba,0,none⟩=some (.pointer (some ⟨a,0,none⟩))∧W.cell? ⟨Bn,0,none⟩=some (.int .i64 n)∧W.cell? ⟨Bh,0,none⟩=some (.bool hd)∧W.cell? ⟨a,0,none⟩=some (.pointer (some ⟨L.o,0,none⟩))∧W.cell? ⟨L.o,0,none⟩=some (.pointer (some ⟨L.b,0,none⟩)))
  ((refine HF.out _ ?_;(repeat (first | with_reducible exact HK0.out | with_reducible refine Keeps.alloc ?_ _ | with_reducible refine Keeps.drew ?_ | with_reducible refine Keeps.setCell ?_ (.inl (.inr (Nat.le_refl _))) _ | with_reducible assumption | with_reducible refine Keeps.trans ?_ (Keeps.mono (by assumption) (fun _ _ h=>Or.inl h))))))
  (first | (go_at_call 107;refine (HM.out _ HK0'.out.drew).mono ?_;rintro e w1 ⟨hk1,hcase⟩;obtain⟨h0,rfl,hh⟩:=hcase.resolve_right (fun ⟨i',g',r',h0,_⟩=>by rw [HI.out] at h0;cases h0);dsimp only [Rf.val,Rf.no];have hkk:=HK0.out.drew.trans (hk1.mono (T:=fun y=>(y=L.b∨y=L.t)∨w.heap.size≤y) (fun _ _ h=>.inl h));obtain⟨a0,a1,af,al⟩:=cells2 (block_keep HQ.out (((Keeps.refl _ _).drew).trans hk1) (by omega));have f0:=af 0;have f1:=af 1))
 all_goals
  go_wp2_with fail
  have kk:∀ (W:World) (u v:Value),Keeps (fun y=>y=w.heap.size) W ((W.setCell ⟨w.heap.size,0,none⟩ u).setCell ⟨w.heap.size,1,none⟩ v):=fun W u v=>(keeps_set1 _ _ _ _).trans (keeps_set1 _ _ _ _)
  refine bodyPost_ret_by (v:=.tuple #[Rf.no.val,.int .i64 4]) (by simp [results,Tryz.results106,go_sem,Rf.val,Rf.no, *]) rfl ⟨rfl,?_,hh.keeps (kk _ _ _) (by omega) (by omega)⟩
  exact ((HK0'.out.up (T:=fun y=>y=L.b∨y=L.t)).drew.trans hk1).trans' (kk _ _ _) (U:=fun y=>(y=L.b∨y=L.t)∨w.heap.size≤y) (fun _ _ h=>.inl h) (fun y _ h=>.inr (by omega)) |>.mono (fun y hy h=>by rcases h with h | h;exact h;omega)
theorem amake_any (a:Nat) (L:ArL) (A:Ar) (m n:Int) (hd:Bool) (w:World) (h:ArIn w a L A) (hok:A.Ok):
 Calls Tryz.prog 50 #[.pointer (some ⟨a,0,none⟩),.int .i64 m,.int .i64 n,.bool hd] w
  fun e w'=>e = .returned (.tuple #[(A.makeR m n hd).now.val,.int .i64 (A.makeR m n hd).e])∧Keeps (fun y=>L.foot A.many y) w w'∧ArIn w' a L (A.makeR m n hd).A:=by
 obtain⟨R,hR⟩:∃ R,A.makeR m n hd=R:=⟨_,rfl⟩
 have HBT:=hid (show L.Btw a R.A.many 0 w.heap.size by rw [← hR,(A.makeR_n m n hd).2];exact h.btw)
 have HG:=hid (fun (w0:World) (Ba Bn Bh:Nat) (hk0:Keeps (fun _=>False) w w0) (q0:w0.heap[Ba]?=some (.cells #[.pointer (some ⟨a,0,none⟩)] 25)) (q1:w0.heap[Bn]?=some (.cells #[.int .i64 n] 3)) (q2:w0.heap[Bh]?=some (.cells #[.bool hd] 4))=>
  show Calls Tryz.prog 103 #[.pointer (some ⟨a,0,none⟩),.int .i64 m,.func (.func 104) #[] #[.pointer (some ⟨Bn,0,none⟩),.pointer (some ⟨Bh,0,none⟩)],.func (.func 106) #[] #[.pointer (some ⟨Ba,0,none⟩),.pointer (some ⟨Bn,0,none⟩),.pointer (some ⟨Bh,0,none⟩)]] w0
   (fun e w'=>e = .returned (.tuple #[R.now.val,.int .i64 R.e])∧Keeps (fun y=>L.foot A.many y) w0 w'∧ArIn w' a L R.A) from by
   have h0:=h.keeps0 hk0
   have e1:=enters_of Tryz.func104 (by kernel_rfl) rfl
   have e2:=enters_of Tryz.func106 (by kernel_rfl) rfl
   by_cases hm:m<0∨(A.many:Int)≤m
   ·have:R=⟨A,.no,.no,3⟩:=by rw [← hR];exact if_pos hm
    rw [this]
    exact (agive_m a L A m _ _ w0 h0 hm).mono fun e w' ⟨x1,x2⟩=>⟨x1,x2.up,h0.keeps0 x2⟩
   obtain⟨j,rfl⟩:∃ j:Nat,m=j:=⟨m.toNat,by omega⟩
   have hj:j<A.many:=by omega
   by_cases hk:¬ okNew n hd
   ·have:R=⟨A,.no,.no,2⟩:=by rw [← hR];unfold Ar.makeR;rw [if_neg hm,if_pos hk]
    rw [this]
    exact (agive_look a L A j 2 _ _ _ (fun _=>False) w0 h0 hj (by decide) (fun y hy=>hy.elim) e1 (fun w1 hk1=>amk1_bad Bn Bh n hd w1 hk (block_keep q1 hk1 (fun h=>h)) (block_keep q2 hk1 (fun h=>h)))).mono fun e w' ⟨x1,x2⟩=>⟨x1,x2.up,h0.keeps0 x2⟩
   have hk':okNew n hd:=Decidable.not_not.1 hk
   have H1:=fun w1 (hk1:Keeps (fun _=>False) w0 w1)=>amk1 Bn Bh n hd w1 hk' (block_keep q1 hk1 (fun h=>h)) (block_keep q2 hk1 (fun h=>h))
   by_cases hr:32≤(A.rt j).n
   ·have:R=⟨A,.no,.no,4⟩:=by rw [← hR];unfold Ar.makeR;rw [if_neg hm,if_neg hk,Int.toNat_natCast,if_pos hr]
    rw [this]
    exact (agive_full a L A j _ _ _ (fun _=>False) w0 h0 hj hr (fun y hy=>hy.elim) e1 H1).mono fun e w' ⟨x1,x2⟩=>⟨x1,x2.up,h0.keeps0 x2⟩
   rcases hx:A.H.T.inn 0 A.H.T.n with _ | ⟨⟨i,g⟩,r⟩
   ·have:R=⟨A,.no,.no,4⟩:=by rw [← hR];unfold Ar.makeR;rw [if_neg hm,if_neg hk,Int.toNat_natCast,if_neg hr,hx]
    rw [this]
    have hbl:=h0.heap.lt;have htl:=h0.heap.tab.lt
    refine (agive_none a L A j 4 _ _ _ _ (fun _=>False) (fun y=>y=L.b∨y=L.t) (fun _=>True) (fun W=>HpAt W L.b L.t A.H) w0 h0 hj (by omega) (by decide) (fun y hy=>hy.elim) (fun y hy=>by rcases hy with rfl | rfl <;> assumption) e1 e2
     (fun w1 hk1=>(H1 w1 hk1).mono fun e w2 ⟨x1,x2⟩=>⟨x1,x2,trivial⟩) (fun _ _ _ _=>trivial) (fun w1 w2 hh hk1=>hh.keeps hk1 (by omega) (by omega))
     (fun w1 hk1 _=>amk2_full a L A Ba Bn Bh n hd w1 (h0.keeps0 hk1) hk' hx (block_keep q0 hk1 (fun h=>h)) (block_keep q1 hk1 (fun h=>h)) (block_keep q2 hk1 (fun h=>h)))).mono fun e w' ⟨x1,x2,x3⟩=>⟨x1,?_,?_⟩
    ·exact x2.mono (fun y _ hy=>by rcases hy with hy | hy | hy;exact hy.elim;exact .inl hy;exact .inr (.inl hy))
    ·exact h0.setH (H:=A.H) rfl (x2.mono (fun y _ hy=>by rcases hy with hy | hy;exact hy.elim;exact hy)) x3
   ·have:R=⟨A.made j i g (Ob.new n hd),.no,⟨i,g⟩,0⟩:=by rw [← hR];unfold Ar.makeR;rw [if_neg hm,if_neg hk,Int.toNat_natCast,if_neg hr,hx]
    rw [this]
    obtain⟨_,hg,hi⟩:=Tb.inn_mem (T:=A.H.T) (s:=0) (k:=A.H.T.n) (i:=i) (g:=g) (by rw [hx];simp)
    have htb:=hok.tb i hi
    exact (agive1 a L A j Ba Bn Bh n hd i g r w0 h0 hj hk' hx (by omega) (by omega) (by omega) q0 q1 q2).mono fun e w' ⟨x1,x2,x3⟩=>⟨x1,x2.mono (fun y _ hy=>by rcases hy with hy | hy | hy;exact .inl hy;exact .inr (.inl hy);exact .inr (.inr (.inr ⟨j,hj,hy⟩))),x3⟩)
 have HFL:=hid h.footlt
 rw [hR]
 clear h hok hR
 go_enter Tryz.func50,Tryz.ntmps50
 go_wp2_with fail
 refine (HG.out _ _ _ _ (by repeat (first | exact Keeps.refl _ _ | apply Keeps.alloc | apply Keeps.drewN | apply Keeps.drew)) (alloc_old <| alloc_old <| alloc_old alloc_new) (alloc_old <| alloc_old <| alloc_new' (by simp)) (alloc_old <| alloc_new' (by simp))).mono ?_
 rintro e w1 ⟨rfl,hk1,ha1⟩
 dsimp only [Rf.val]
 obtain⟨a0,a1,af,al⟩:=cells2 (block_keep (b:=w.heap.size+1+1+1) (alloc_new' (by simp)) hk1 (fun h=>by have:=HFL.out _ h;omega))
 have f0:=af 0;have f1:=af 1
 have HK:=hid (((((Keeps.refl (fun y=>L.foot A.many y∨w.heap.size≤y) w).alloc _).alloc _ |>.alloc _ |>.alloc _)).trans' hk1 (U:=fun y=>L.foot A.many y∨w.heap.size≤y) (fun _ _ h=>h) (fun y _ h=>.inl h))
 have HA:=hid ha1
 clear hk1 ha1 af
 go_wp2_with fail
 have kk:∀ (W:World) (u v:Value),Keeps (fun y=>y=w.heap.size+1+1+1) W ((W.setCell ⟨w.heap.size+1+1+1,0,none⟩ u).setCell ⟨w.heap.size+1+1+1,1,none⟩ v):=fun W u v=>(keeps_set1 _ _ _ _).trans (keeps_set1 _ _ _ _)
 refine bodyPost_ret_by (v:=.tuple #[R.now.val,.int .i64 R.e]) (by simp [results,Tryz.results50,go_sem,Rf.val, *]) rfl ⟨rfl,?_,HA.out.keepsB HBT.out ((kk _ _ _).mono (fun y _ h=>by omega))⟩
 exact (HK.out.trans' (kk _ _ _) (U:=fun y=>L.foot A.many y∨w.heap.size≤y) (fun _ _ h=>h) (fun y _ h=>.inr (by omega))).mono (fun y hy h=>by rcases h with h | h;exact h;omega)
theorem afree_any (a:Nat) (L:ArL) (A:Ar) (r:Rf) (w:World) (h:ArIn w a L A) (hok:A.Ok):
 Calls Tryz.prog 35 #[.pointer (some ⟨a,0,none⟩),.agg #[.int .i64 r.s,.int .u32 r.g]] w
  fun e w'=>e = .returned (.int .i64 (A.freeR r).2)∧Keeps (fun y=>L.foot A.many y) w w'∧ArIn w' a L (A.freeR r).1:=by
 have HH:Hid (∀ w',Keeps (fun _=>False) w w'→Calls Tryz.prog 94 #[.pointer (some ⟨L.b,0,none⟩),.agg #[.int .i64 r.s,.int .u32 r.g]] w' fun e w2=>e = .returned (.int .i64 (A.freeR r).2)∧Keeps (fun y=>L.foot A.many y) w' w2∧ArIn w2 a L (A.freeR r).1):=hid (fun w' hk=>by
  have h0:=h.keeps0 hk
  unfold Ar.freeR Hp.freeR
  by_cases hc:ckV A.H.T r.s r.g≠0
  ·rw [if_pos hc]
   exact (hfree_bad L.b L.t A.H r w' h0.heap hc).mono fun e w2 ⟨x1,x2⟩=>⟨x1,x2.up,h0.keeps0 x2⟩
  ·rw [if_neg hc]
   have hc':ckV A.H.T r.s r.g=0:=Decidable.not_not.1 hc
   obtain⟨k,hk,_⟩:=ckV_ok hc'
   have hro:=ckV_Ok hok hc'
   obtain⟨rs,rg⟩:=r
   dsimp only at hk hc' ⊢
   subst hk
   rw [Int.toNat_natCast]
   exact (hfree_ok L.b L.t k A.H rg w' h0.heap hc' hro.g0).mono fun e w2 ⟨x1,x2,x3⟩=>⟨x1,x2.mono (fun y _ hy=>by rcases hy with hy | hy;exact .inl hy;exact .inr (.inl hy)),h0.setH (H:=A.H.free k) (Tb.give_n _ _) x2 x3⟩)
 obtain⟨x,hx⟩:∃ x,A.freeR r=x:=⟨_,rfl⟩
 rw [hx] at HH ⊢
 have HC:=hid (fun (w':World) (hk:Keeps (fun _=>False) w w')=>And.intro ((h.keeps0 hk).c0) (hobj_cell (h.keeps0 hk)))
 clear h hok hx
 go_enter Tryz.func35,Tryz.ntmps35
 go_wp2_with fail
 obtain⟨w1,hw1⟩:∃ w1,w.alloc (.cells #[.int .i64 r.s,.int .u32 r.g] 34)=w1:=⟨_,rfl⟩
 have k1:Keeps (fun _=>False) w w1:=by rw [← hw1];exact (Keeps.refl _ _).alloc _
 have q1:w1.heap[w.heap.size]?=some (.cells #[.int .i64 r.s,.int .u32 r.g] 34):=by rw [← hw1];exact alloc_new
 rw [hw1]
 obtain⟨c0,c1⟩:=HC.out _ k1
 obtain⟨p0,p1,_,_⟩:=cells2 q1
 have HK1:=hid k1
 clear hw1 k1 q1
 refine (avalid a L.o _ c0).mono ?_
 rintro e w' ⟨rfl,h'⟩
 obtain rfl:=h'.symm
 go_upto_region 3 with (fail)
 go_still_tail 8,(by kernel_rfl)
 change wpList _ _ _ _ _ (World.drew _)
 go_wp2_with fail
 refine (HH.out _ HK1.out.drew).mono ?_
 rintro e w2 ⟨rfl,hk2,ha2⟩
 go_wp2_with fail
 go_ret
 exact⟨rfl,HK1.out.drew.up.trans hk2,ha2⟩
end Go.Proofs.YtnlkfbndlngjaaaGreat
namespace Go.Proofs.YtnlkfbndlngjaaaGreat
open Go.RowKit
theorem Hp.storeR_err {H:Hp} {r:Rf} {i:Int} {v:Rf} (h:(H.storeR r i v).2.2≠0):(H.storeR r i v).1=H:=by
 unfold Hp.storeR at h ⊢
 split
 ·rfl
 ·rename_i h1
  rw [if_neg h1] at h
  split
  ·rfl
  ·rename_i h2
   rw [if_neg h2] at h
   split
   ·rfl
   ·rename_i h3
    rw [if_neg h3] at h
    exact absurd rfl h
theorem astore_e1 (a:Nat) (L:ArL) (A:Ar) (m i f j:Int) (w:World) (h:ArIn w a L A) (hk:(A.rootR m i).2≠0):
 Calls Tryz.prog 51 #[.pointer (some ⟨a,0,none⟩),.int .i64 m,.int .i64 i,.int .i64 f,.int .i64 j] w
  fun e w'=>e = .returned (.tuple #[Rf.no.val,Rf.no.val,.int .i64 (A.rootR m i).2])∧Keeps (fun _=>False) w w':=by
 have HR:=hid (fun (w':World) (hk:Keeps (fun _=>False) w w')=>aroot_any a L A m i w' (h.keeps0 hk))
 obtain⟨⟨r,k⟩,hr⟩:∃ x,A.rootR m i=x:=⟨_,rfl⟩
 rw [hr] at HR hk ⊢
 dsimp only at HR hk ⊢
 have hkb:(k != 0)=true:=by rw [bne_iff_ne];exact hk
 clear h hr hk
 go_enter Tryz.func51,Tryz.ntmps51
 go_wp2_with fail
 refine (HR.out _ (by repeat (first | exact Keeps.refl _ _ | apply Keeps.alloc | apply Keeps.drewN | apply Keeps.drew))).mono ?_
 rintro e w1 ⟨rfl,hk1⟩
 dsimp only [Rf.val]
 have HK1:=hid ((((Keeps.refl (fun _=>False) w).alloc _).alloc _).trans hk1)
 obtain⟨p0,p1,pf,pl⟩:=cells2 (block_keep (alloc_old (alloc_new (w:=w))) hk1 (fun h=>h))
 obtain⟨q0,q1,qf,ql⟩:=cells2 (block_keep (alloc_new' (w:=w.alloc _) (n:=w.heap.size+1) (by simp)) hk1 (fun h=>h))
 have pf0:=pf 0;have pf1:=pf 1;have qf0:=qf 0;have qf1:=qf 1
 clear hk1 pf qf
 go_wp2_with fail
 refine bodyPost_ret_by (v:=.tuple #[Rf.no.val,Rf.no.val,.int .i64 k]) (by simp [results,Tryz.results51,go_sem,Rf.val,Rf.no, *]) rfl ⟨rfl,Keeps.fresh ?_⟩
 repeat (first | (with_reducible exact HK1.out.up) | with_reducible refine Keeps.setCell ?_ ?_ _ | with_reducible refine Keeps.alloc ?_ _ | with_reducible refine Keeps.drewN ?_ _ | with_reducible refine Keeps.drew ?_)
 all_goals first | (left;simp;done) | (left;simp;omega) | (right;simp;done) | (right;simp;omega)
theorem astore_e2 (a:Nat) (L:ArL) (A:Ar) (m i f j:Int) (w:World) (h:ArIn w a L A) (hk0:(A.rootR m i).2=0) (hl:(A.valueR m j).2≠0):
 Calls Tryz.prog 51 #[.pointer (some ⟨a,0,none⟩),.int .i64 m,.int .i64 i,.int .i64 f,.int .i64 j] w
  fun e w'=>e = .returned (.tuple #[Rf.no.val,Rf.no.val,.int .i64 (A.valueR m j).2])∧Keeps (fun _=>False) w w':=by
 have HR:=hid (fun (w':World) (hk:Keeps (fun _=>False) w w')=>aroot_any a L A m i w' (h.keeps0 hk))
 have HV:=hid (fun (w':World) (hk:Keeps (fun _=>False) w w')=>avalue_any a L A m j w' (h.keeps0 hk))
 rw [hk0] at HR
 obtain⟨r,hr⟩:∃ x,(A.rootR m i).1=x:=⟨_,rfl⟩
 obtain⟨⟨v,k⟩,hv⟩:∃ x,A.valueR m j=x:=⟨_,rfl⟩
 rw [hv] at HV hl ⊢
 rw [hr] at HR
 dsimp only at HV hl ⊢
 have hkb:(k != 0)=true:=by rw [bne_iff_ne];exact hl
 clear h hr hk0 hv hl
 go_enter Tryz.func51,Tryz.ntmps51
 go_wp2_with fail
 refine (HR.out _ (by repeat (first | exact Keeps.refl _ _ | apply Keeps.alloc | apply Keeps.drewN | apply Keeps.drew))).mono ?_
 rintro e w1 ⟨rfl,hk1⟩
 dsimp only [Rf.val]
 have HK1:=hid ((((Keeps.refl (fun _=>False) w).alloc _).alloc _).trans hk1)
 have HP1:=hid (block_keep (alloc_old (alloc_new (w:=w))) hk1 (fun h=>h))
 have HQ1:=hid (block_keep (alloc_new' (w:=w.alloc _) (n:=w.heap.size+1) (by simp)) hk1 (fun h=>h))
 clear hk1
 go_wp2_with fail
 refine (HV.out _ (HK1.out.alloc _)).mono ?_
 rintro e w2 ⟨rfl,hk2⟩
 dsimp only [Rf.val]
 have HK2:=hid ((HK1.out.alloc _).trans hk2)
 obtain⟨p0,p1,pf,pl⟩:=cells2 (block_keep (alloc_old HP1.out) hk2 (fun h=>h))
 obtain⟨q0,q1,qf,ql⟩:=cells2 (block_keep (alloc_old HQ1.out) hk2 (fun h=>h))
 have pf0:=pf 0;have pf1:=pf 1;have qf0:=qf 0;have qf1:=qf 1
 clear hk2 pf qf
 go_wp2_with fail
 refine bodyPost_ret_by (v:=.tuple #[Rf.no.val,Rf.no.val,.int .i64 k]) (by simp [results,Tryz.results51,go_sem,Rf.val,Rf.no, *]) rfl ⟨rfl,Keeps.fresh ?_⟩
 repeat (first | (with_reducible exact HK2.out.up) | with_reducible refine Keeps.setCell ?_ ?_ _ | with_reducible refine Keeps.alloc ?_ _ | with_reducible refine Keeps.drewN ?_ _ | with_reducible refine Keeps.drew ?_)
 all_goals first | (left;simp;done) | (left;simp;omega) | (right;simp;done) | (right;simp;omega)
theorem astore_e3 (a:Nat) (L:ArL) (A:Ar) (m i f j:Int) (w:World) (h:ArIn w a L A) (hok:A.Ok) (hk0:(A.rootR m i).2=0) (hl0:(A.valueR m j).2=0) (R:Res)
 (hR:R=if (A.H.storeR (A.rootR m i).1 f (A.valueR m j).1).2.2≠0 then ⟨A,.no,.no,(A.H.storeR (A.rootR m i).1 f (A.valueR m j).1).2.2⟩ else ⟨{ A with H:=(A.H.storeR (A.rootR m i).1 f (A.valueR m j).1).1 },(A.H.storeR (A.rootR m i).1 f (A.valueR m j).1).2.1,(A.valueR m j).1,0⟩):
 Calls Tryz.prog 51 #[.pointer (some ⟨a,0,none⟩),.int .i64 m,.int .i64 i,.int .i64 f,.int .i64 j] w
  fun e w'=>e = .returned (.tuple #[R.was.val,R.now.val,.int .i64 R.e])∧Keeps (fun y=>y=L.b) w w'∧ArIn w' a L R.A:=by
 have hvf:=hok.value m j
 have HR:=hid (fun (w':World) (hk:Keeps (fun _=>False) w w')=>aroot_any a L A m i w' (h.keeps0 hk))
 have HV:=hid (fun (w':World) (hk:Keeps (fun _=>False) w w')=>avalue_any a L A m j w' (h.keeps0 hk))
 rw [hk0] at HR;rw [hl0] at HV
 obtain⟨r,hr⟩:∃ x,(A.rootR m i).1=x:=⟨_,rfl⟩
 obtain⟨v,hv⟩:∃ x,(A.valueR m j).1=x:=⟨_,rfl⟩
 rw [hr] at HR hR;rw [hv] at HV hR hvf
 have HS:=hid (fun (w':World) (hk:Keeps (fun _=>False) w w')=>hstore_any L.b L.t A.H r f v w' (h.heap.keeps hk (fun h=>h) (fun h=>h)) hvf.bad hvf.wf)
 have herr:=@Hp.storeR_err A.H r f v
 have hTn:=Hp.storeR_T A.H r f v
 obtain⟨⟨H',u,x⟩,hx⟩:∃ z,A.H.storeR r f v=z:=⟨_,rfl⟩
 rw [hx] at HS hR herr hTn
 dsimp only at HS hR herr hTn
 have HA:=hid (fun (w' w2:World) (k1:Keeps (fun _=>False) w w') (k2:Keeps (fun y=>y=L.b) w' w2) (hH:HpAt w2 L.b L.t H')=>(h.keeps0 k1).setH (H:=H') (by rw [hTn]) (k2.mono (fun _ _ h=>.inl h)) hH)
 have HBT:=hid h.btw
 have hbl:=h.heap.lt
 have htl:=h.heap.tab.lt
 obtain⟨⟨cx,hcx,hCx⟩,hox,⟨⟨cy,hcy,_⟩,_⟩,_⟩:=id h
 have n1:a≠L.b:=type_ne hcx hcy (by decide)
 have n2:L.o≠L.b:=type_ne hox hcy (by decide)
 have la:=lt_block hcx;have lo:=lt_block hox
 have HF:=hid (fun (w':World) (hk':Keeps (fun y=>y=L.b∨w.heap.size≤y) w w')=>And.intro (cell_at (block_keep hcx hk' (fun h=>by rcases h with h | h;exact n1 h;omega)) hCx.obj) (cells1 (block_keep hox hk' (fun h=>by rcases h with h | h;exact n2 h;omega))).1)
 have HRR:=hid hR;have HER:=hid herr
 clear h hok hr hv hvf hx hcx hCx hox hcy n1 n2 hk0 hl0 hR herr hTn
 go_enter Tryz.func51,Tryz.ntmps51
 go_wp2_with fail
 refine (HR.out _ (by repeat (first | exact Keeps.refl _ _ | apply Keeps.alloc | apply Keeps.drewN | apply Keeps.drew))).mono ?_
 rintro e w1 ⟨rfl,hk1⟩
 dsimp only [Rf.val]
 have HK1:=hid ((((Keeps.refl (fun _=>False) w).alloc _).alloc _).trans hk1)
 have HP1:=hid (block_keep (alloc_old (alloc_new (w:=w))) hk1 (fun h=>h))
 have HQ1:=hid (block_keep (alloc_new' (w:=w.alloc _) (n:=w.heap.size+1) (by simp)) hk1 (fun h=>h))
 clear hk1
 go_wp2_with fail
 refine (HV.out _ (HK1.out.alloc _)).mono ?_
 rintro e w2 ⟨rfl,hk2⟩
 dsimp only [Rf.val]
 have HK2:=hid ((HK1.out.alloc _).trans hk2)
 have HP2:=hid (block_keep (alloc_old HP1.out) hk2 (fun h=>h))
 have HQ2:=hid (block_keep (alloc_old HQ1.out) hk2 (fun h=>h))
 have HR2:=hid (block_keep (alloc_new (w:=w1)) hk2 (fun h=>h))
 clear hk2
 go_upto_region 7 with (fail)
 obtain⟨w3,hw3⟩:∃ w3,w2.alloc (.cells #[.int .i64 v.s,.int .u32 v.g] 34)=w3:=⟨_,rfl⟩
 have p3:w3.heap[w2.heap.size]?=some (.cells #[.int .i64 v.s,.int .u32 v.g] 34):=by rw [← hw3];exact alloc_new
 have k3:Keeps (fun _=>False) w2 w3:=by rw [← hw3];exact (Keeps.refl _ _).alloc _
 rw [hw3]
 have HV3:=hid p3;have HK3:=hid (HK2.out.trans k3)
 have HP3:=hid (block_keep HP2.out k3 (fun h=>h));have HQ3:=hid (block_keep HQ2.out k3 (fun h=>h));have HR3:=hid (block_keep HR2.out k3 (fun h=>h))
 have hz1:=lt_block HQ1.out
 have hz2:=lt_block HR2.out
 clear hw3 p3 k3 HK1 HK2 HP1 HP2 HQ1 HQ2 HR2
 go_cut [14,16] (fun s14 s16 wx=>∃ B,s14 = .int .i64 x∧s16 = .pointer (some ⟨B,0,none⟩)∧w3.heap.size≤B∧Keeps (fun y=>y=L.b) w3 wx∧HpAt wx L.b L.t H'∧wx.heap[B]?=some (.cells #[.int .i64 u.s,.int .u32 u.g] 34))
 case first=>
  have hz3:=HK3.out.size
  have HSK:=hid (fun (W:World) (hk:Keeps (fun y=>y=L.b∨w3.heap.size≤y) w3 W)=>
   And.intro (HF.out _ (HK3.out.up.trans' hk (U:=fun y=>y=L.b∨w.heap.size≤y) (fun _ _ h=>h) (fun y hy h=>by rcases h with h | h;exact .inl h;exact .inr (by omega)))).1
   (And.intro (HF.out _ (HK3.out.up.trans' hk (U:=fun y=>y=L.b∨w.heap.size≤y) (fun _ _ h=>h) (fun y hy h=>by rcases h with h | h;exact .inl h;exact .inr (by omega)))).2
   (And.intro (cells2 (block_keep HR3.out hk (fun h=>by have:=lt_block HR3.out;rcases h with h | h <;> omega))).1 (And.intro (cells2 (block_keep HR3.out hk (fun h=>by have:=lt_block HR3.out;rcases h with h | h <;> omega))).2.1
   (And.intro (cells2 (block_keep HV3.out hk (fun h=>by have:=lt_block HV3.out;rcases h with h | h <;> omega))).1 (cells2 (block_keep HV3.out hk (fun h=>by have:=lt_block HV3.out;rcases h with h | h <;> omega))).2.1)))))
  have hbl3:L.b<w3.heap.size:=by omega
  have htl3:L.t<w3.heap.size:=by omega
  go_region_held3 (fun W=>W.cell? ⟨a,0,none⟩=some (.pointer (some ⟨L.o,0,none⟩))∧W.cell? ⟨L.o,0,none⟩=some (.pointer (some ⟨L.b,0,none⟩))∧W.cell? ⟨w1.heap.size,0,none⟩=some (.int .i64 r.s)∧W.cell? ⟨w1.heap.size,1,none⟩=some (.int .u32 r.g)∧W.cell? ⟨w2.heap.size,0,none⟩=some (.int .i64 v.s)∧W.cell? ⟨w2.heap.size,1,none⟩=some (.int .u32 v.g))
   ((refine HSK.out _ ?_;(repeat (first | with_reducible exact Keeps.refl _ _ | with_reducible refine Keeps.alloc ?_ _ | with_reducible refine Keeps.drew ?_ | with_reducible refine Keeps.setCell ?_ (.inl (.inr ?_)) _ | with_reducible assumption | with_reducible refine Keeps.trans ?_ (Keeps.mono (by assumption) (fun _ _ h=>Or.inl h)))) <;> (dsimp only;omega)))
   (first | (go_at_call 110;refine (HS.out _ (by first | exact HK3.out.drew | exact (HK3.out.alloc _).drew)).mono ?_;rintro e w4 ⟨rfl,hk4,hh4⟩;dsimp only [Rf.val];have hsz4:=((Keeps.drew (Keeps.refl (fun y=>y=L.b) _)).trans hk4).size;(try simp only [World.size_alloc] at hsz4);(first | (have nab:=block_keep (alloc_new (w:=w3)) ((Keeps.drew (Keeps.refl (fun y=>y=L.b) _)).trans hk4) (fun h=>by omega);have nax:=cells2 nab;obtain⟨na0,na1,naf,nat⟩:=nax;have naf0:=naf 0;have naf1:=naf 1) | skip)))
  all_goals
   go_wp2_with fail
   go_meet
   refine⟨_,rfl,rfl,by omega,?_,?_,?_⟩
   ·refine Keeps.mono (S:=fun y=>y=L.b∨w3.heap.size≤y) ?_ (fun y hy h=>by rcases h with h | h;exact h;omega)
    (repeat (first | with_reducible exact Keeps.refl _ _ | with_reducible refine Keeps.alloc ?_ _ | with_reducible refine Keeps.drew ?_ | with_reducible refine Keeps.setCell ?_ (.inl (.inr ?_)) _ | with_reducible refine Keeps.trans ?_ (Keeps.mono hk4 (fun _ _ h=>Or.inl h)))) <;> (dsimp only;omega)
   ·refine hh4.keeps (S:=fun y=>w3.heap.size≤y) ?_ (by omega) (by omega)
    (repeat (first | with_reducible exact Keeps.refl _ _ | with_reducible refine Keeps.alloc ?_ _ | with_reducible refine Keeps.drew ?_ | with_reducible refine Keeps.setCell ?_ (.inl ?_) _)) <;> (dsimp only;omega)
   ·try dsimp only [Ob.arr]
    repeat (first | (with_reducible assumption) | (with_reducible refine alloc_new' ?_;simp;done) | (with_reducible refine alloc_old ?_) | (with_reducible apply fin10) | (with_reducible apply fin2) | (with_reducible refine set_oth2 ?_ ?_;focus (first | (simp;done) | (dsimp only;omega))))
 case rest=>
  obtain⟨B,rfl,rfl,hB,hk4,hh4,hq4⟩:=hcut
  obtain⟨b0,b1,_,bl⟩:=cells2 hq4
  obtain⟨p0,p1,pf,pl⟩:=cells2 (block_keep HP3.out hk4 (by omega))
  obtain⟨q0,q1,qf,ql⟩:=cells2 (block_keep HQ3.out hk4 (by omega))
  obtain⟨v0,v1,_,vl⟩:=cells2 (block_keep HV3.out hk4 (by have:=lt_block HV3.out;omega))
  have pf0:=pf 0;have pf1:=pf 1;have qf0:=qf 0;have qf1:=qf 1
  have HA4:=hid (HA.out _ _ HK3.out hk4 hh4)
  have HK4:=hid (HK3.out.up.trans hk4)
  have hz3:=HK3.out.size
  have hv3:=lt_block HV3.out
  have hr3:=lt_block HR3.out
  have e1:w2.heap.size≠w.heap.size:=by omega
  have e2:w2.heap.size≠w.heap.size+1:=by omega
  have e3:B≠w.heap.size:=by omega
  have e4:B≠w.heap.size+1:=by omega
  have e1':=e1.symm;have e2':=e2.symm;have e3':=e3.symm;have e4':=e4.symm
  have kk:∀ (W:World) (u0 u1 u2 u3:Value),Keeps (fun y=>y=w.heap.size∨y=w.heap.size+1) W ((((W.setCell ⟨w.heap.size,0,none⟩ u0).setCell ⟨w.heap.size,1,none⟩ u1).setCell ⟨w.heap.size+1,0,none⟩ u2).setCell ⟨w.heap.size+1,1,none⟩ u3):=fun W u0 u1 u2 u3=>
   ((((Keeps.refl _ _).setCell (p:=⟨w.heap.size,0,none⟩) (.inl (.inl rfl)) u0).setCell (p:=⟨w.heap.size,1,none⟩) (.inl (.inl rfl)) u1).setCell (p:=⟨w.heap.size+1,0,none⟩) (.inl (.inr rfl)) u2).setCell (p:=⟨w.heap.size+1,1,none⟩) (.inl (.inr rfl)) u3
  have KK:=hid kk
  clear hq4 hk4 hh4 pf qf kk
  by_cases hx:x=0
  ·subst hx
   have HRX:=hid (show R=⟨{ A with H:=H' },u,v,0⟩ by rw [HRR.out,if_neg (by decide)])
   go_upto_region 10 with (fail)
   go_region
   all_goals
    go_wp2_with fail
    have kd:=fun W u0 u1 u2 u3=>(KK.out W u0 u1 u2 u3).drew
    refine bodyPost_ret_by (v:=.tuple #[u.val,v.val,.int .i64 0]) (by simp [results,Tryz.results51,go_sem,Rf.val, *]) rfl ⟨by rw [HRX.out],?_,by rw [HRX.out];exact HA4.out.keepsB HBT.out ((kd _ _ _ _ _).mono (fun y _ h=>by rcases h with h | h <;> omega))⟩
    exact (HK4.out.trans' (kd _ _ _ _ _) (U:=fun y=>y=L.b∨w.heap.size≤y) (fun _ _ h=>.inl h) (fun y _ h=>.inr (by rcases h with h | h <;> omega))).mono (fun y hy h=>by rcases h with h | h;exact h;omega)
  ·have hxb:(x != 0)=true:=by rw [bne_iff_ne];exact hx
   have HRX:=hid (show R=⟨{ A with H:=H' },.no,.no,x⟩ by rw [HRR.out,if_pos hx,HER.out hx])
   clear hx
   go_wp2_with fail
   refine bodyPost_ret_by (v:=.tuple #[Rf.no.val,Rf.no.val,.int .i64 x]) (by simp [results,Tryz.results51,go_sem,Rf.val,Rf.no, *]) rfl ⟨by rw [HRX.out],?_,by rw [HRX.out];exact HA4.out.keepsB HBT.out ((KK.out _ _ _ _ _).mono (fun y _ h=>by rcases h with h | h <;> omega))⟩
   exact (HK4.out.trans' (KK.out _ _ _ _ _) (U:=fun y=>y=L.b∨w.heap.size≤y) (fun _ _ h=>.inl h) (fun y _ h=>.inr (by rcases h with h | h <;> omega))).mono (fun y hy h=>by rcases h with h | h;exact h;omega)
theorem astore_any (a:Nat) (L:ArL) (A:Ar) (m i f j:Int) (w:World) (h:ArIn w a L A) (hok:A.Ok):
 Calls Tryz.prog 51 #[.pointer (some ⟨a,0,none⟩),.int .i64 m,.int .i64 i,.int .i64 f,.int .i64 j] w
  fun e w'=>e = .returned (.tuple #[(A.storeR m i f j).was.val,(A.storeR m i f j).now.val,.int .i64 (A.storeR m i f j).e])∧Keeps (fun y=>L.foot A.many y) w w'∧ArIn w' a L (A.storeR m i f j).A:=by
 by_cases h1:(A.rootR m i).2≠0
 ·rw [show A.storeR m i f j=⟨A,.no,.no,(A.rootR m i).2⟩ from if_pos h1]
  exact (astore_e1 a L A m i f j w h h1).mono fun e w' ⟨x1,x2⟩=>⟨x1,x2.up,h.keeps0 x2⟩
 ·by_cases h2:(A.valueR m j).2≠0
  ·rw [show A.storeR m i f j=⟨A,.no,.no,(A.valueR m j).2⟩ from (if_neg h1).trans (if_pos h2)]
   exact (astore_e2 a L A m i f j w h (Decidable.not_not.1 h1) h2).mono fun e w' ⟨x1,x2⟩=>⟨x1,x2.up,h.keeps0 x2⟩
  ·exact (astore_e3 a L A m i f j w h hok (Decidable.not_not.1 h1) (Decidable.not_not.1 h2) (A.storeR m i f j) ((if_neg h1).trans (if_neg h2))).mono fun e w' ⟨x1,x2,x3⟩=>⟨x1,x2.mono (fun y _ h=>.inl h),x3⟩
end Go.Proofs.YtnlkfbndlngjaaaGreat
