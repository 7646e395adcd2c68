import Derived.Test.YtnlkfbndlngjaaaGreatMgD
set_option maxHeartbeats 1000000
set_option maxRecDepth 100000
namespace Go.Proofs.YtnlkfbndlngjaaaGreat
open Go.RowKit
theorem HpAt.obj {w:World} {b t:Nat} {H:Hp} (h:HpAt w b t H) {i:Nat} (hi:i<256) (j:Nat) (hj:j<10):w.cell? ⟨b,2+i * 10+j,none⟩=(H.ob i).arr[j]?:=by
 obtain⟨⟨c,hc,hC⟩,_⟩:=h
 rw [cell_block hc];exact hC.obj i hi j hj
theorem HpAt.frozen {w:World} {b t:Nat} {H:Hp} (h:HpAt w b t H) (i:Nat):w.frozen? ⟨b,i,none⟩=false:=by
 obtain⟨⟨c,hc,hC⟩,_⟩:=h
 exact frozen_block hc i
theorem ck_lt {w:World} {b t:Nat} {H:Hp} (h:HpAt w b t H) {i:Nat} {g:Int} (hc:ckV H.T i g=0):i<256:=by
 obtain⟨j,h1,h2,_⟩:=ckV_ok hc
 have:=h.tab.n12
 omega
theorem hhas1 (b o:Nat) (w:World):Calls Tryz.prog 246 #[.pointer (some ⟨b,o,none⟩)] w fun e w'=>e = .returned (.int .i64 0)∧w'=w:=by
 go_enter Tryz.func246,Tryz.ntmps246
 go_wp2
 go_ret
 exact⟨rfl,rfl⟩
theorem hhas_any (b t:Nat) (H:Hp) (s g:Int) (w:World) (h:HpAt w b t H):
 Calls Tryz.prog 191 #[.pointer (some ⟨b,0,none⟩),.agg #[.int .i64 s,.int .u32 g]] w fun e w'=>e = .returned (.bool (ckV H.T s g == 0))∧Keeps (fun _=>False) w w':=by
 rcases hc:(ckV H.T s g == 0) with _ | _
 ·have hc':ckV H.T s g≠0:=by simpa using hc
  have HW:=hid (fun f w' (hk:Keeps (fun _=>False) w w')=>hwith_bad b t H s g f w' (h.keeps hk (fun h=>h) (fun h=>h)) hc')
  have HC:=hid hc
  clear h hc hc'
  go_enter Tryz.func191,Tryz.ntmps191
  go_wp2_with fail
  refine (HW.out _ _ (by repeat (first | exact Keeps.refl _ _ | apply Keeps.alloc | apply Keeps.drewN | apply Keeps.drew))).mono ?_
  rintro e w' ⟨rfl,hk⟩
  have hc:=HC.out
  have HK:=hid (((Keeps.refl (fun _=>False) w).alloc _).trans hk)
  clear hk
  go_wp2_with fail
  go_ret
  exact⟨rfl,HK.out⟩
 ·have hc':ckV H.T s g=0:=by simpa using hc
  obtain⟨i,rfl,_⟩:=ckV_ok hc'
  have HW:=hid (fun w0 (hk0:Keeps (fun _=>False) w w0)=>hwith_ok b t H i g 246 #[] (fun k w'=>k=0∧Keeps (fun _=>False) w0 w') w0 (h.keeps hk0 (fun h=>h) (fun h=>h)) hc' (enters_of Tryz.func246 (by kernel_rfl) rfl)
   (fun w' hk _=>(hhas1 b (2+i * 10) w').mono (by rintro e w2 ⟨rfl,h2⟩;exact⟨0,rfl,rfl,by rw [h2];exact hk⟩)) (fun k w h=>⟨h.1,h.2.drew⟩))
  clear h hc hc'
  go_enter Tryz.func191,Tryz.ntmps191
  go_wp2_with fail
  refine (HW.out _ (by repeat (first | exact Keeps.refl _ _ | apply Keeps.alloc | apply Keeps.drewN | apply Keeps.drew))).mono ?_
  rintro e w' ⟨k,rfl,rfl,hk⟩
  have HK:=hid (((Keeps.refl (fun _=>False) w).alloc _).trans hk)
  clear hk
  go_wp2_with fail
  go_ret
  exact⟨rfl,HK.out⟩
theorem ten {w:World} {b o:Nat} {O:Ob} (hc:∀ j,j<10→w.cell? ⟨b,o+j,none⟩=O.arr[j]?):
 w.cell? ⟨b,o,none⟩=some (.int .i64 O.n)∧w.cell? ⟨b,o+1,none⟩=some (.int .i64 O.f0.s)∧w.cell? ⟨b,o+2,none⟩=some (.int .u32 O.f0.g)∧w.cell? ⟨b,o+3,none⟩=some (.int .i64 O.f1.s)∧
 w.cell? ⟨b,o+4,none⟩=some (.int .u32 O.f1.g)∧w.cell? ⟨b,o+5,none⟩=some (.int .i64 O.f2.s)∧w.cell? ⟨b,o+6,none⟩=some (.int .u32 O.f2.g)∧w.cell? ⟨b,o+7,none⟩=some (.int .i64 O.f3.s)∧
 w.cell? ⟨b,o+8,none⟩=some (.int .u32 O.f3.g)∧w.cell? ⟨b,o+9,none⟩=some (.bool O.h):=
 ⟨hc 0 (by omega),hc 1 (by omega),hc 2 (by omega),hc 3 (by omega),hc 4 (by omega),hc 5 (by omega),hc 6 (by omega),hc 7 (by omega),hc 8 (by omega),hc 9 (by omega)⟩
theorem hobj1 (b o B:Nat) (O:Ob) (w:World) (hc:∀ j,j<10→w.cell? ⟨b,o+j,none⟩=O.arr[j]?) (hB:w.heap[B]?=some (.cells (Ob.new 0 false).arr 111)):
 Calls Tryz.prog 283 #[.pointer (some ⟨b,o,none⟩),.pointer (some ⟨B,0,none⟩)] w fun e w'=>e = .returned (.int .i64 0)∧Keeps (·=B) w w'∧w'.heap[B]?=some (.cells O.arr 111):=by
 obtain⟨c0,c1,c2,c3,c4,c5,c6,c7,c8,c9⟩:=ten hc
 obtain⟨d0,d1,d2,d3,d4,d5,d6,d7,d8,d9,df,dl⟩:=cells10 hB
 have HB:=hid hB
 have f0:=df 0;have f1:=df 1;have f2:=df 2;have f3:=df 3;have f4:=df 4;have f5:=df 5;have f6:=df 6;have f7:=df 7;have f8:=df 8;have f9:=df 9
 clear hc hB df
 go_enter Tryz.func283,Tryz.ntmps283
 go_wp2_with fail
 go_ret
 refine⟨rfl,?_,?_⟩
 ·with_reducible exact keeps10_0 (Keeps.refl (fun y=>y=B) w) (b:=B) (.inl rfl) _ _ _ _ _ _ _ _ _ _
 ·have h:=set10_block0 HB.out (.int .i64 O.n) (.int .i64 O.f0.s) (.int .u32 O.f0.g) (.int .i64 O.f1.s) (.int .u32 O.f1.g) (.int .i64 O.f2.s) (.int .u32 O.f2.g) (.int .i64 O.f3.s) (.int .u32 O.f3.g) (.bool O.h)
  rw [Ob.arr,set10_all] at h
  exact h
theorem hobject_ok (b t:Nat) (H:Hp) (i:Nat) (g:Int) (w:World) (h:HpAt w b t H) (hc:ckV H.T i g=0):
 Calls Tryz.prog 277 #[.pointer (some ⟨b,0,none⟩),.agg #[.int .i64 i,.int .u32 g]] w fun e w'=>e = .returned (.tuple #[.agg (H.ob i).arr,.int .i64 0])∧Keeps (fun _=>False) w w':=by
 have hi:=ck_lt h hc
 have HW:=hid (fun w0 B (hk0:Keeps (fun _=>False) w w0) (hq:w0.heap[B]?=some (.cells (Ob.new 0 false).arr 111))=>
  hwith_ok b t H i g 283 #[.pointer (some ⟨B,0,none⟩)] (fun k w'=>k=0∧Keeps (fun y=>y=B) w0 w'∧w'.heap[B]?=some (.cells (H.ob i).arr 111)) w0
   (h.keeps hk0 (fun h=>h) (fun h=>h)) hc (enters_of Tryz.func283 (by kernel_rfl) rfl)
   (fun w' hk _=>(hobj1 b (2+i * 10) B (H.ob i) w' ((h.keeps (hk0.trans hk) (fun h=>h) (fun h=>h)).obj hi) (block_keep hq hk (fun h=>h))).mono (by
    rintro e w2 ⟨rfl,h2,h3⟩
    exact⟨0,rfl,rfl,hk.trans' h2 (fun _ _ h=>h.elim) (fun _ _ h=>h),h3⟩)) (fun k w h=>⟨h.1,h.2.1.drew,h.2.2⟩))
 clear h hc
 go_enter Tryz.func277,Tryz.ntmps277
 go_wp2_with fail
 refine (HW.out _ _ (((Keeps.refl _ _).alloc _).alloc _ |>.alloc _) (alloc_new' (by simp))).mono ?_
 rintro e w1 ⟨k,rfl,rfl,hk,hq⟩
 obtain⟨d0,d1,d2,d3,d4,d5,d6,d7,d8,d9,df,dl⟩:=cells10 hq
 obtain⟨e0,e1,e2,e3,e4,e5,e6,e7,e8,e9,ef,el⟩:=cells10 (block_keep (alloc_old (alloc_new' (w:=w.alloc _) (n:=w.heap.size+1) (by simp))) hk (by simp))
 have f0:=ef 0;have f1:=ef 1;have f2:=ef 2;have f3:=ef 3;have f4:=ef 4;have f5:=ef 5;have f6:=ef 6;have f7:=ef 7;have f8:=ef 8;have f9:=ef 9
 have el':w.heap.size<w1.heap.size:=by omega
 have HK:=hid ((((Keeps.refl (fun y=>w.heap.size≤y) w).alloc _).alloc _ |>.alloc _).trans' hk (U:=fun y=>w.heap.size≤y) (fun _ _ h=>h) (fun y _ h=>by omega))
 clear hk hq df ef
 go_wp2_with fail
 refine bodyPost_ret_by (v:=.tuple #[.agg (H.ob i).arr,.int .i64 0]) (by simp [results,Tryz.results277,go_sem,Ob.arr, *]) rfl ⟨rfl,?_⟩
 refine Keeps.fresh ?_
 with_reducible exact keeps10_0 HK.out (b:=w.heap.size+1) (.inl (by omega)) _ _ _ _ _ _ _ _ _ _
end Go.Proofs.YtnlkfbndlngjaaaGreat
namespace Go.Proofs.YtnlkfbndlngjaaaGreat
open Go.RowKit
theorem Ob.arr_one (o:Ob) (j:Nat) (hj:j<10):∃ v,o.arr[j]?=some v∧v.oneCell'=true:=by
 match j,hj with
 | 0,_=>exact⟨_,rfl,rfl⟩
 | 1,_=>exact⟨_,rfl,rfl⟩
 | 2,_=>exact⟨_,rfl,rfl⟩
 | 3,_=>exact⟨_,rfl,rfl⟩
 | 4,_=>exact⟨_,rfl,rfl⟩
 | 5,_=>exact⟨_,rfl,rfl⟩
 | 6,_=>exact⟨_,rfl,rfl⟩
 | 7,_=>exact⟨_,rfl,rfl⟩
 | 8,_=>exact⟨_,rfl,rfl⟩
 | 9,_=>exact⟨_,rfl,rfl⟩
theorem HpC.one {c:Array Value} {t n:Nat} {ob:Nat→Ob} (h:HpC c t n ob):c.all (·.oneCell')=true:=by
 rw [Array.all_eq_true]
 intro i hi
 rw [h.size] at hi
 have key:∃ v,c[i]?=some v∧v.oneCell'=true:=by
  by_cases h0:i=0
  ·subst h0;exact⟨_,h.tab,rfl⟩
  ·by_cases h1:i=1
   ·subst h1;exact⟨_,h.len,rfl⟩
   ·obtain⟨q,r,hr,hq,rfl⟩:∃ q r,r<10∧q<256∧i=2+q * 10+r:=⟨(i - 2) / 10,(i - 2) % 10,by omega,by omega,by omega⟩
    rw [h.obj q hq r hr]
    exact Ob.arr_one _ _ hr
 obtain⟨v,hv,h1⟩:=key
 obtain⟨_,hx'⟩:=Array.getElem?_eq_some_iff.1 hv
 rw [hx'];exact h1
theorem HpC.retab {c:Array Value} {t n:Nat} {ob:Nat→Ob} (h:HpC c t n ob) (t':Nat):HpC (c.setIfInBounds 0 (.pointer (some ⟨t',0,none⟩))) t' n ob:=by
 refine⟨by simpa using h.size,?_,?_,?_⟩
 ·rw [Array.getElem?_setIfInBounds_self_of_lt (by have:=h.size;omega)]
 ·rw [Array.getElem?_setIfInBounds_ne (by omega)];exact h.len
 ·intro i hi j hj
  rw [Array.getElem?_setIfInBounds_ne (by omega)];exact h.obj i hi j hj
theorem hcopy_ok (b t:Nat) (H:Hp) (w:World) (h:HpAt w b t H):
 Calls Tryz.prog 40 #[.pointer (some ⟨b,0,none⟩)] w fun e w'=>∃ b' t',e = .returned (.pointer (some ⟨b',0,none⟩))∧Keeps (fun _=>False) w w'∧w.heap.size≤b'∧w.heap.size≤t'∧HpAt w' b' t' H:=by
 have HV:=hid (hvalid_ok b t H w h)
 have HH:=hid h
 have HCP:=hid (fun (w':World) (hk:Keeps (fun _=>False) w w')=>scopy_ok t H.T w' (h.keeps hk (fun h=>h) (fun h=>h)).tab)
 obtain⟨⟨c,hb,hc⟩,ht,hne,hg⟩:=h
 have hs:=hc.size
 have c0:=cell_at hb hc.tab
 have hbl:=lt_block hb
 have HB:=hid hb;clear hb
 have HI:=hid (show (Tryz.prog.info? 114).map (·.size)=some c.size by rw [hs];kernel_rfl)
 have hst:∀ w':World,Sem.run Tryz.prog (storeCells ⟨w'.heap.size,0,none⟩ c.toList) (w'.alloc (.cells Tryz.zeroCells114 114)) = .ok () (w'.alloc (.cells c 114)):=
  fun w'=>run_storeCells_new w' _ _ c HI.out (by rw [Tryz.zeroCells114_size,hs]) hc.one
 have HC:=hid hc;clear hc
 have HS:=hid hs;clear hs
 have HG:=hid hg;clear hg ht
 go_enter Tryz.func40,Tryz.ntmps40
 go_wp2_with fail
 refine HV.out.mono ?_
 rintro e w' ⟨rfl,h'⟩
 obtain rfl:=h'.symm
 go_wp2_with (with_reducible refine wpList_load_row rfl _ _ rfl b rfl _ c _ _ HB.out Tryz.underlying114 rfl HI.out ?_)
 refine (HCP.out _ ((Keeps.refl _ _).alloc _)).mono ?_
 rintro e w1 ⟨rfl,hk,ht1⟩
 have q:=block_keep (alloc_new (w:=w)) hk (fun h=>h)
 have q0:=cell_at q HC.out.tab
 have qf:=frozen_block q 0
 have ql:=lt_block q
 have HQ:=hid q;have HK:=hid hk;have HT1:=hid ht1
 clear q hk ht1
 go_wp2_with fail
 go_ret
 have kk:Keeps (fun y=>w.heap.size≤y) w w1:=((Keeps.refl (fun y=>w.heap.size≤y) w).alloc _).trans HK.out.up
 have hT:=HT1.out
 rw [World.size_alloc] at hT
 refine⟨_,_,rfl,(kk.setCell (p:=⟨_,0,none⟩) (.inl (Nat.le_refl _)) _).fresh,Nat.le_refl _,by simp,⟨_,set_block HQ.out 0 _,HC.out.retab _⟩,hT.keeps (S:=fun k=>k=w.heap.size) (keeps_set1 _ _ _ _) (by simp),by simp,HG.out⟩
theorem hall_ok (b t:Nat) (H:Hp) (w:World) (h:HpAt w b t H):
 Calls Tryz.prog 19 #[.pointer (some ⟨b,0,none⟩)] w fun e w'=>∃ v,e = .returned v∧Row w' w.heap.size v H.T.tk∧Keeps (fun _=>False) w w':=by
 have HV:=hid (hvalid_ok b t H w h)
 have HT:=hid (staken_ok t H.T w h.tab)
 obtain⟨⟨c,hb,hc⟩,ht,hne,hg⟩:=h
 have c0:=cell_at hb hc.tab
 clear hb hc ht hg
 go_enter Tryz.func19,Tryz.ntmps19
 go_wp2_with fail
 refine HV.out.mono ?_
 rintro e w' ⟨rfl,h'⟩
 obtain rfl:=h'.symm
 go_wp2_with fail
 refine HT.out.mono ?_
 rintro e w1 ⟨v,rfl,hr,hk⟩
 go_wp2_with fail
 go_ret
 exact⟨v,rfl,hr,hk⟩
end Go.Proofs.YtnlkfbndlngjaaaGreat
namespace Go.Proofs.YtnlkfbndlngjaaaGreat
open Go.RowKit
def Hp.mk1 (H:Hp) (i:Nat) (g:Int) (o:Ob):Hp:=⟨H.T.put i 1 g,updf H.ob i o⟩
def setOb (c:Array Value) (i:Nat) (o:Ob):Array Value:=
 set10 c (2+i * 10) (.int .i64 o.n) (.int .i64 o.f0.s) (.int .u32 o.f0.g) (.int .i64 o.f1.s) (.int .u32 o.f1.g) (.int .i64 o.f2.s) (.int .u32 o.f2.g) (.int .i64 o.f3.s) (.int .u32 o.f3.g) (.bool o.h)
theorem HpC.setOb {c:Array Value} {t n:Nat} {ob:Nat→Ob} (h:HpC c t n ob) (i:Nat) (hi:i<256) (o:Ob):HpC (setOb c i o) t n (updf ob i o):=by
 have hs:=h.size
 refine⟨by rw [YtnlkfbndlngjaaaGreat.setOb,set10_size,hs],?_,?_,?_⟩
 ·rw [YtnlkfbndlngjaaaGreat.setOb,set10_out _ _ _ _ _ _ _ _ _ _ _ _ _ (by omega)];exact h.tab
 ·rw [YtnlkfbndlngjaaaGreat.setOb,set10_out _ _ _ _ _ _ _ _ _ _ _ _ _ (by omega)];exact h.len
 ·intro k hk j hj
  by_cases e:k=i
  ·subst e
   rw [updf_same,YtnlkfbndlngjaaaGreat.setOb,set10_in _ _ _ _ _ _ _ _ _ _ _ _ _ hj (by omega)];rfl
  ·rw [updf_ne _ _ e,YtnlkfbndlngjaaaGreat.setOb,set10_out _ _ _ _ _ _ _ _ _ _ _ _ _ (by omega)];exact h.obj k hk j hj
theorem hmake_ok (b t:Nat) (H:Hp) (n:Int) (hd:Bool) (w:World) (h:HpAt w b t H) (hk:okNew n hd):
 Calls Tryz.prog 107 #[.pointer (some ⟨b,0,none⟩),.int .i64 n,.bool hd] w fun e w'=>Keeps (fun y=>y=b∨y=t) w w'∧
  ((H.T.inn 0 H.T.n=[]∧e = .returned (.tuple #[Rf.no.val,.int .i64 4])∧HpAt w' b t H)∨
   (∃ i g r,H.T.inn 0 H.T.n=(i,g) :: r∧i<256∧e = .returned (.tuple #[.agg #[.int .i64 i,.int .u32 g],.int .i64 0])∧HpAt w' b t (H.mk1 i g (Ob.new n hd)))):=by
 have HN:=hid (fun w=>fnew_ok n hd w hk)
 have HG:=hid (Ob.new_good hk)
 have HT:=hid (fun (w':World) (hk:Keeps (fun _=>False) w w')=>stake_ok t H.T w' (h.keeps hk (fun h=>h) (fun h=>h)).tab)
 have HV:=hid (fun o=>hvalid_ok b t H _ (h.keeps ((Keeps.refl (fun _=>False) w).alloc o) (fun h=>h) (fun h=>h)))
 have hbl:=h.lt
 obtain⟨⟨c,hc,hC⟩,ht,hne,hg⟩:=h
 have c0:=cell_at hc hC.tab
 have n12:=ht.n12
 have HTL:=hid ht.lt;have HNE:=hid hne
 have HB:=hid hc;have HC:=hid hC
 have HGG:=hid hg
 clear hc hC hg hk ht
 go_enter Tryz.func107,Tryz.ntmps107
 go_wp2_with fail
 refine (HV.out _).mono ?_
 rintro e w' ⟨rfl,h'⟩
 obtain rfl:=h'.symm
 go_wp2_with fail
 refine (HN.out _).mono ?_
 rintro e w1 ⟨rfl,hk1⟩
 dsimp only [Ob.arr,Ob.new,Rf.no]
 have hsz:=hk1.size
 simp only [World.size_alloc] at hsz
 have hlt:w.heap.size<w1.heap.size:=by omega
 have q0:=block_keep (alloc_new (w:=w)) hk1 (fun h=>h)
 obtain⟨a0,a1,af,al⟩:=cells2 q0
 have hbb:b<w1.heap.size:=by omega
 have HK1:=hid (((Keeps.refl (fun _=>False) w).alloc _).trans hk1)
 have d0:=(cell_at (block_keep HB.out HK1.out (fun h=>h)) HC.out.tab)
 have HQ:=hid q0
 clear hk1 q0
 have htl:=HTL.out
 go_wp2_with fail
 refine (HT.out _ (HK1.out.alloc _)).mono ?_
 rintro e w2 ⟨hk2,⟨hi0,rfl,ht2⟩ | ⟨i,g,r,hir,rfl,ht2⟩⟩
 ·obtain⟨a0,a1,af,al⟩:=cells2 (block_keep (alloc_old HQ.out) hk2 (by omega))
  have f0:=af 0;have f1:=af 1
  have d2:=block_keep (alloc_old (block_keep HB.out HK1.out (fun h=>h))) hk2 HNE.out
  have HK2:=hid ((HK1.out.alloc _).trans' hk2 (U:=fun y=>y=b∨y=t) (fun _ _ h=>h.elim) (fun _ _ h=>.inr h))
  have H0:=hid hi0;have HT2:=hid ht2;have HD:=hid d2
  clear hk2 af hi0 ht2 d2
  go_wp2_with fail
  refine bodyPost_ret_by (v:=.tuple #[Rf.no.val,.int .i64 4]) (by simp [results,Tryz.results107,go_sem,Rf.no,Rf.val, *]) rfl ⟨?_,?_⟩
  ·refine Keeps.mono (S:=fun y=>(y=b∨y=t)∨w.heap.size≤y) ?_ (fun y hy h=>by rcases h with h | h;exact h;omega)
   have hk:=HK2.out.mono (T:=fun y=>(y=b∨y=t)∨w.heap.size≤y) (fun _ _ h=>.inl h)
   exact ((hk.setCell (p:=⟨_,0,none⟩) (.inr (Nat.le_refl _)) _).setCell (p:=⟨_,1,none⟩) (.inr (Nat.le_refl _)) _).alloc _
  ·refine .inl ⟨H0.out,rfl,?_⟩
   have kk:Keeps (fun y=>y=w.heap.size) w2 (((w2.setCell ⟨w.heap.size,0,none⟩ (.int .i64 0)).setCell ⟨w.heap.size,1,none⟩ (.int .u32 0)).alloc (.cells #[.int .i64 0,.int .u32 0] 34)):=
    ((keeps_set1 _ _ _ _).trans (keeps_set1 _ _ _ _)).alloc _
   exact⟨⟨c,block_keep HD.out kk (by omega),HC.out⟩,HT2.out.keeps kk (by omega),HNE.out,HGG.out⟩
 ·have q2:=block_keep (alloc_old HQ.out) hk2 (by omega)
  obtain⟨a0,a1,af,al⟩:=cells2 q2
  have f0:=af 0;have f1:=af 1
  have hsz2:=hk2.size
  simp only [World.size_alloc] at hsz2
  have p2:=block_keep (alloc_new (w:=w1)) hk2 (by omega)
  obtain⟨e0,e1,e2,e3,e4,e5,e6,e7,e8,e9,ef,el⟩:=cells10 p2
  have d2:=block_keep (alloc_old (block_keep HB.out HK1.out (fun h=>h))) hk2 HNE.out
  have HK2:=hid ((HK1.out.alloc _).trans' hk2 (U:=fun y=>y=b∨y=t) (fun _ _ h=>h.elim) (fun _ _ h=>.inr h))
  have hi:i<256:=by
   have:=(Tb.inn_mem (T:=H.T) (s:=0) (k:=H.T.n) (i:=i) (g:=g) (by rw [hir];simp)).2.2
   omega
  have hi0:(0:Int)≤i:=by omega
  have hi2:(i:Int)<256:=by omega
  have hoj:∀ j,j<10→w2.cell? ⟨b,2+i * 10+j,none⟩=(H.ob i).arr[j]?:=fun j hj=>by rw [cell_block d2];exact HC.out.obj i hi j hj
  obtain⟨o0,o1,o2,o3,o4,o5,o6,o7,o8,o9⟩:=ten hoj
  have df:=frozen_block d2
  have g0:=df (2+i * 10);have g1:=df (2+i * 10+1);have g2:=df (2+i * 10+2);have g3:=df (2+i * 10+3);have g4:=df (2+i * 10+4)
  have g5:=df (2+i * 10+5);have g6:=df (2+i * 10+6);have g7:=df (2+i * 10+7);have g8:=df (2+i * 10+8);have g9:=df (2+i * 10+9)
  have bl2:=lt_block d2
  have hsz3:w1.heap.size<w2.heap.size:=by omega
  have hsz4:w.heap.size<w2.heap.size:=by omega
  have H0:=hid hir;have HT2:=hid ht2;have HD:=hid d2;have HHI:=hid hi
  clear hk2 af hir ht2 d2 hoj df ef q2 p2
  go_wp2_with fail
  go_region
  go_wp2_with fail
  refine bodyPost_ret_by (v:=.tuple #[.agg #[.int .i64 i,.int .u32 g],.int .i64 0]) (by simp [results,Tryz.results107,go_sem, *]) rfl ⟨?_,.inr ⟨i,g,r,H0.out,HHI.out,rfl,?_⟩⟩
  ·refine Keeps.mono (S:=fun y=>(y=b∨y=t)∨w.heap.size≤y) ?_ (fun y hy h=>by rcases h with h | h;exact h;omega)
   have hk:=HK2.out.mono (T:=fun y=>(y=b∨y=t)∨w.heap.size≤y) (fun _ _ h=>.inl h)
   repeat (first | (with_reducible exact hk) | with_reducible refine Keeps.setCell ?_ ?_ _ | with_reducible refine Keeps.alloc ?_ _ | with_reducible refine Keeps.drewN ?_ _ | with_reducible refine Keeps.drew ?_)
   all_goals first | (left;simp;done) | (left;simp;omega) | (right;simp;done) | (right;simp;omega)
  ·have kk:∀ W:World,Keeps (fun y=>y=w.heap.size) W (((W.setCell ⟨w.heap.size,0,none⟩ (.int .i64 i)).setCell ⟨w.heap.size,1,none⟩ (.int .u32 g)).alloc (.cells #[.int .i64 i,.int .u32 g] 34)).drew:=
    fun W=>(((keeps_set1 _ _ _ _).trans (keeps_set1 _ _ _ _)).alloc _).drew
   have q:=set10_block HD.out (2+i * 10) (.int .i64 n) (.int .i64 0) (.int .u32 0) (.int .i64 0) (.int .u32 0) (.int .i64 0) (.int .u32 0) (.int .i64 0) (.int .u32 0) (.bool hd)
   have k10:=keeps10 (Keeps.refl (fun y=>y=b) w2) (b:=b) (.inl rfl) (2+i * 10) (.int .i64 n) (.int .i64 0) (.int .u32 0) (.int .i64 0) (.int .u32 0) (.int .i64 0) (.int .u32 0) (.int .i64 0) (.int .u32 0) (.bool hd)
   refine⟨⟨_,block_keep q (kk _) (by omega),HC.out.setOb i HHI.out (Ob.new n hd)⟩,(HT2.out.keeps k10 (fun h=>HNE.out h.symm)).keeps (kk _) (by omega),HNE.out,fun k=>?_⟩
   simp only [Hp.mk1,updf]
   split
   ·exact HG.out
   ·exact HGG.out k
end Go.Proofs.YtnlkfbndlngjaaaGreat
