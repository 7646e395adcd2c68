import Derived.Test.YtnlkfbndlngjaaaGreatMgR
set_option maxHeartbeats 1000000
set_option maxRecDepth 100000
namespace Go.Proofs.YtnlkfbndlngjaaaGreat
theorem Pt.gr_mem (P:Pt) (k:Nat) {i:Nat} (h:i∈P.gr k):P.c i=1∧i<k:=by
 induction k with
 | zero=>cases h
 | succ k ih=>
  unfold Pt.gr at h
  rcases List.mem_append.1 h with h | h
  ·have:=ih h;exact⟨this.1,by omega⟩
  ·split at h
   ·rename_i hc
    rcases List.mem_singleton.1 h with rfl
    exact⟨hc,by omega⟩
   ·cases h
theorem Mk.wroteR_K (M:Mk) (i:Int) (r q:Rf):(M.wroteR i r q).1.K=M.K∧(M.wroteR i r q).1.P.n=M.P.n:=by
 unfold Mk.wroteR
 split
 ·exact⟨rfl,rfl⟩
 split
 ·exact⟨rfl,rfl⟩
 split
 ·exact⟨((M.note1 _ r).note1_K _ q).1.trans (M.note1_K _ r).1,((M.note1 _ r).note1_K _ q).2.trans (M.note1_K _ r).2⟩
 ·exact⟨rfl,rfl⟩
theorem Mk.madeR_K (M:Mk) (r:Rf):(M.madeR r).1.K=M.K∧(M.madeR r).1.P.n=M.P.n:=by
 unfold Mk.madeR
 split
 ·exact⟨rfl,rfl⟩
 split
 ·refine⟨rfl,?_⟩
  show (M.P.born _).n=_
  unfold Pt.born;split <;> rfl
 ·exact⟨rfl,rfl⟩
end Go.Proofs.YtnlkfbndlngjaaaGreat
namespace Go.Proofs.YtnlkfbndlngjaaaGreat
structure Sys where
 A:Ar
 M:Mk
theorem Ar.makeR_n (A:Ar) (m n:Int) (h:Bool):(A.makeR m n h).A.H.T.n=A.H.T.n∧(A.makeR m n h).A.many=A.many:=by
 unfold Ar.makeR
 split
 ·exact⟨rfl,rfl⟩
 split
 ·exact⟨rfl,rfl⟩
 split
 ·exact⟨rfl,rfl⟩
 split <;> exact⟨rfl,rfl⟩
theorem Ar.pushR_n (A:Ar) (m:Nat) (v:Rf):(A.pushR m v).A.H.T.n=A.H.T.n∧(A.pushR m v).A.many=A.many:=by
 unfold Ar.pushR;split <;> exact⟨rfl,rfl⟩
theorem Ar.loadR_n (A:Ar) (m i f:Int):(A.loadR m i f).A.H.T.n=A.H.T.n∧(A.loadR m i f).A.many=A.many:=by
 unfold Ar.loadR
 split
 ·exact⟨rfl,rfl⟩
 split
 ·exact⟨rfl,rfl⟩
 split
 ·exact⟨rfl,rfl⟩
 split
 ·exact⟨rfl,rfl⟩
 ·exact Ar.pushR_n _ _ _
theorem Ar.getR_n (A:Ar) (m k:Int):(A.getR m k).A.H.T.n=A.H.T.n∧(A.getR m k).A.many=A.many:=by
 unfold Ar.getR
 split
 ·exact⟨rfl,rfl⟩
 split
 ·exact⟨rfl,rfl⟩
 split
 ·exact⟨rfl,rfl⟩
 ·exact Ar.pushR_n _ _ _
theorem Ar.storeR_n (A:Ar) (m i f j:Int):(A.storeR m i f j).A.H.T.n=A.H.T.n∧(A.storeR m i f j).A.many=A.many:=by
 unfold Ar.storeR
 split
 ·exact⟨rfl,rfl⟩
 split
 ·exact⟨rfl,rfl⟩
 split
 ·exact⟨rfl,rfl⟩
 ·exact⟨congrArg Tb.n (Hp.storeR_T _ _ _ _),rfl⟩
theorem Ar.dropR_n (A:Ar) (m i:Int):(A.dropR m i).A.H.T.n=A.H.T.n∧(A.dropR m i).A.many=A.many:=by
 unfold Ar.dropR
 split
 ·exact⟨rfl,rfl⟩
 split <;> exact⟨rfl,rfl⟩
theorem Ar.putR_n (A:Ar) (m i k:Int):(A.putR m i k).A.H.T.n=A.H.T.n∧(A.putR m i k).A.many=A.many:=by
 unfold Ar.putR
 split
 ·exact⟨rfl,rfl⟩
 split <;> exact⟨rfl,rfl⟩
end Go.Proofs.YtnlkfbndlngjaaaGreat
namespace Go.Proofs.YtnlkfbndlngjaaaGreat
open Go.RowKit
theorem rget_bad (b:Nat) (S:Sk) (i:Int) (w:World) (h:StAt w b S) (hi:i<0∨(S.n:Int)≤i):
 Calls Tryz.prog 181 #[.pointer (some ⟨b,0,none⟩),.int .i64 i] w fun e w'=>e = .returned (.tuple #[Rf.no.val,.int .i64 3])∧Keeps (fun _=>False) w w':=by
 obtain⟨c,hc,hC⟩:=h
 have c0:=cell_at hc hC.made
 have c1:=cell_at hc hC.len
 have h32:=hC.n32
 have hb:=lt_block hc
 have HV:=hid (fun o=>rvalid b _ (cell_at (block_keep hc ((Keeps.refl (fun _=>False) w).alloc o) (fun h=>h)) hC.made))
 clear hc hC
 rcases hi with hi | hi
 ·go_enter Tryz.func181,Tryz.ntmps181
  go_wp2_with fail
  refine (HV.out _).mono ?_
  rintro e w' ⟨rfl,h'⟩
  obtain rfl:=h'.symm
  go_wp2_with fail
  refine bodyPost_ret_by (v:=.tuple #[Rf.no.val,.int .i64 3]) (by simp [results,Tryz.results181,go_sem,Rf.val,Rf.no, *]) rfl ⟨rfl,?_⟩
  refine Keeps.fresh ?_
  repeat (first | (with_reducible exact (Keeps.refl _ _)) | with_reducible refine Keeps.setCell ?_ ?_ _ | with_reducible refine Keeps.alloc ?_ _ | with_reducible refine Keeps.drewN ?_ _ | with_reducible refine Keeps.drew ?_)
  all_goals first | (left;simp;done) | (left;simp;omega) | (right;simp;done) | (right;simp;omega)
 ·have hi0:¬ i<0:=by omega
  go_enter Tryz.func181,Tryz.ntmps181
  go_wp2_with fail
  refine (HV.out _).mono ?_
  rintro e w' ⟨rfl,h'⟩
  obtain rfl:=h'.symm
  go_wp2_with fail
  refine bodyPost_ret_by (v:=.tuple #[Rf.no.val,.int .i64 3]) (by simp [results,Tryz.results181,go_sem,Rf.val,Rf.no, *]) rfl ⟨rfl,?_⟩
  refine Keeps.fresh ?_
  repeat (first | (with_reducible exact (Keeps.refl _ _)) | with_reducible refine Keeps.setCell ?_ ?_ _ | with_reducible refine Keeps.alloc ?_ _ | with_reducible refine Keeps.drewN ?_ _ | with_reducible refine Keeps.drew ?_)
  all_goals first | (left;simp;done) | (left;simp;omega) | (right;simp;done) | (right;simp;omega)
def Sk.getR (S:Sk) (i:Int):Rf × Int:=if i<0∨(S.n:Int)≤i then (.no,3) else (S.f i.toNat,0)
theorem rget_any (b:Nat) (S:Sk) (i:Int) (w:World) (h:StAt w b S):
 Calls Tryz.prog 181 #[.pointer (some ⟨b,0,none⟩),.int .i64 i] w fun e w'=>e = .returned (.tuple #[(S.getR i).1.val,.int .i64 (S.getR i).2])∧Keeps (fun _=>False) w w':=by
 unfold Sk.getR
 split
 ·rename_i hi;exact rget_bad b S i w h hi
 ·obtain⟨j,rfl⟩:∃ j:Nat,i=j:=⟨i.toNat,by omega⟩
  exact rget_ok b S j w h (by omega)
theorem rdrop_bad (b:Nat) (S:Sk) (i:Int) (w:World) (h:StAt w b S) (hi:i<0∨(S.n:Int)≤i):
 Calls Tryz.prog 112 #[.pointer (some ⟨b,0,none⟩),.int .i64 i] w fun e w'=>e = .returned (.tuple #[Rf.no.val,.int .i64 3])∧Keeps (fun _=>False) w w':=by
 have HG:=hid (fun (w':World) (hk:Keeps (fun _=>False) w w')=>rget_bad b S i w' (h.keeps hk (fun h=>h)) hi)
 clear h hi
 go_enter Tryz.func112,Tryz.ntmps112
 go_wp2_with fail
 refine (HG.out _ (by repeat (first | exact Keeps.refl _ _ | apply Keeps.alloc | apply Keeps.drewN | apply Keeps.drew))).mono ?_
 rintro e w1 ⟨rfl,hk1⟩
 dsimp only [Rf.val,Rf.no]
 have hsz:=hk1.size
 simp only [World.size_alloc] at hsz
 have hlt:w.heap.size<w1.heap.size:=by omega
 obtain⟨a0,a1,af,al⟩:=cells2 (block_keep (alloc_new (w:=w)) hk1 (fun h=>h))
 have f0:=af 0;have f1:=af 1
 have HK1:=hid (((Keeps.refl (fun _=>False) w).alloc _).trans hk1)
 clear hk1 af
 go_wp2_with fail
 refine bodyPost_ret_by (v:=.tuple #[Rf.no.val,.int .i64 3]) (by simp [results,Tryz.results112,go_sem,Rf.val,Rf.no, *]) rfl ⟨rfl,?_⟩
 refine Keeps.fresh ?_
 repeat (first | (with_reducible exact HK1.out.up) | with_reducible refine Keeps.setCell ?_ ?_ _ | with_reducible refine Keeps.alloc ?_ _ | with_reducible refine Keeps.drewN ?_ _ | with_reducible refine Keeps.drew ?_)
 all_goals first | (left;simp;done) | (left;simp;omega) | (right;simp;done) | (right;simp;omega)
end Go.Proofs.YtnlkfbndlngjaaaGreat
namespace Go.Proofs.YtnlkfbndlngjaaaGreat
open Go.RowKit
theorem glcheck_ok (g:Nat) (f:Nat→Rf) (i:Nat) (w:World) (h:GlAt w g f) (hi:i<8):
 Calls Tryz.prog 253 #[.pointer (some ⟨g,0,none⟩),.int .i64 i] w fun e w'=>e = .returned (.int .i64 0)∧w'=w:=by
 obtain⟨c,hc,hC⟩:=h
 have c0:=cell_at hc hC.made
 have hI:(i:Int)<8:=by omega
 have hI0:(0:Int)≤i:=by omega
 clear hc hC
 go_enter Tryz.func253,Tryz.ntmps253
 go_wp2
 go_ret
 exact⟨rfl,rfl⟩
theorem glcheck_bad (g:Nat) (f:Nat→Rf) (i:Int) (w:World) (h:GlAt w g f) (hi:i<0∨8≤i):
 Calls Tryz.prog 253 #[.pointer (some ⟨g,0,none⟩),.int .i64 i] w fun e w'=>e = .returned (.int .i64 3)∧w'=w:=by
 obtain⟨c,hc,hC⟩:=h
 have c0:=cell_at hc hC.made
 clear hc hC
 rcases hi with hi | hi
 ·go_enter Tryz.func253,Tryz.ntmps253
  go_wp2
  go_ret
  exact⟨rfl,rfl⟩
 ·have hi0:¬ i<0:=by omega
  go_enter Tryz.func253,Tryz.ntmps253
  go_wp2
  go_ret
  exact⟨rfl,rfl⟩
theorem glget_bad (g:Nat) (f:Nat→Rf) (i:Int) (w:World) (h:GlAt w g f) (hi:i<0∨8≤i):
 Calls Tryz.prog 211 #[.pointer (some ⟨g,0,none⟩),.int .i64 i] w fun e w'=>e = .returned (.tuple #[Rf.no.val,.int .i64 3])∧Keeps (fun _=>False) w w':=by
 have HC:=hid (fun (w':World) (hk:Keeps (fun _=>False) w w')=>glcheck_bad g f i w' (h.keeps hk (fun h=>h)) hi)
 clear h hi
 go_enter Tryz.func211,Tryz.ntmps211
 go_wp2_with fail
 refine (HC.out _ (by repeat (first | exact Keeps.refl _ _ | apply Keeps.alloc | apply Keeps.drewN | apply Keeps.drew))).mono ?_
 rintro e w' ⟨rfl,h'⟩
 obtain rfl:=h'.symm
 go_wp2_with fail
 refine bodyPost_ret_by (v:=.tuple #[Rf.no.val,.int .i64 3]) (by simp [results,Tryz.results211,go_sem,Rf.val,Rf.no, *]) rfl ⟨rfl,Keeps.fresh ?_⟩
 repeat (first | (with_reducible exact (Keeps.refl _ _)) | with_reducible refine Keeps.setCell ?_ ?_ _ | with_reducible refine Keeps.alloc ?_ _ | with_reducible refine Keeps.drewN ?_ _ | with_reducible refine Keeps.drew ?_)
 all_goals first | (left;simp;done) | (left;simp;omega) | (right;simp;done) | (right;simp;omega)
theorem glget_ok (g:Nat) (f:Nat→Rf) (i:Nat) (w:World) (h:GlAt w g f) (hi:i<8):
 Calls Tryz.prog 211 #[.pointer (some ⟨g,0,none⟩),.int .i64 i] w fun e w'=>e = .returned (.tuple #[(f i).val,.int .i64 0])∧Keeps (fun _=>False) w w':=by
 have HC:=hid (fun (w':World) (hk:Keeps (fun _=>False) w w')=>glcheck_ok g f i w' (h.keeps hk (fun h=>h)) hi)
 obtain⟨c,hc,hC⟩:=h
 have c1:=cell_at hc (hC.row i hi).1
 have c2:=cell_at hc (hC.row i hi).2
 have hl:=lt_block hc
 have hI:(i:Int)<8:=by omega
 have hI0:(0:Int)≤i:=by omega
 clear hc hC
 go_enter Tryz.func211,Tryz.ntmps211
 go_wp2_with fail
 refine (HC.out _ (by repeat (first | exact Keeps.refl _ _ | apply Keeps.alloc | apply Keeps.drewN | apply Keeps.drew))).mono ?_
 rintro e w' ⟨rfl,h'⟩
 obtain rfl:=h'.symm
 go_wp2_with fail
 refine bodyPost_ret_by (v:=.tuple #[(f i).val,.int .i64 0]) (by simp [results,Tryz.results211,go_sem,Rf.val, *]) rfl ⟨rfl,Keeps.fresh ?_⟩
 repeat (first | (with_reducible exact (Keeps.refl _ _)) | with_reducible refine Keeps.setCell ?_ ?_ _ | with_reducible refine Keeps.alloc ?_ _ | with_reducible refine Keeps.drewN ?_ _ | with_reducible refine Keeps.drew ?_)
 all_goals first | (left;simp;done) | (left;simp;omega) | (right;simp;done) | (right;simp;omega)
theorem GlC.put {c:Array Value} {f:Nat→Rf} (h:GlC c f) (i:Nat) (hi:i<8) {r:Rf} (hr:r.Wf):GlC ((c.setIfInBounds (1+i * 2) (.int .i64 r.s)).setIfInBounds (1+i * 2+1) (.int .u32 r.g)) (updf f i r):=by
 have hs:=h.size
 refine⟨by simp [hs],?_,h.row.set i hi (by omega) r,fun j=>?_⟩
 ·rw [Array.getElem?_setIfInBounds_ne (by omega),Array.getElem?_setIfInBounds_ne (by omega)];exact h.made
 ·by_cases e:j=i
  ·rw [e,updf_same];exact hr
  ·rw [updf_ne _ _ e];exact h.wf j
theorem one_good {r:Rf} (hr:r.Fine):(⟨1,r,.no,.no,.no,false⟩:Ob).Good:=by
 refine⟨show (0:Int)≤1 by decide,show (1:Int)≤4 by decide,fun h=>(by cases h),fun i=>?_,fun i hi hn=>?_⟩
 ·match i with
  | 0=>exact hr.wf
  | 1=>exact Rf.no_wf
  | 2=>exact Rf.no_wf
  | n+3=>exact Rf.no_wf
 ·match i,hi with
  | 0,_=>exact⟨show (0:Int)<1 by decide,hr.bad⟩
  | 1,_=>cases hn
  | 2,_=>cases hn
  | 3,_=>cases hn
theorem glput_bad (g:Nat) (f:Nat→Rf) (i:Int) (r:Rf) (w:World) (h:GlAt w g f) (hi:i<0∨8≤i) (hr:r.Fine):
 Calls Tryz.prog 209 #[.pointer (some ⟨g,0,none⟩),.int .i64 i,.agg #[.int .i64 r.s,.int .u32 r.g]] w fun e w'=>e = .returned (.tuple #[Rf.no.val,.int .i64 3])∧Keeps (fun _=>False) w w':=by
 have HC:=hid (fun (w':World) (hk:Keeps (fun _=>False) w w')=>glcheck_bad g f i w' (h.keeps hk (fun h=>h)) hi)
 have HF:∀ w,_:=fun w=>fcheck_good ⟨1,r,.no,.no,.no,false⟩ w (one_good hr)
 simp only [Ob.arr,Rf.no] at HF
 have HFF:=hid HF
 clear h hi HF
 go_enter Tryz.func209,Tryz.ntmps209
 go_wp2_with fail
 refine (HC.out _ (by repeat (first | exact Keeps.refl _ _ | apply Keeps.alloc | apply Keeps.drewN | apply Keeps.drew))).mono ?_
 rintro e w' ⟨rfl,h'⟩
 obtain rfl:=h'.symm
 go_wp2_with fail
 refine (HFF.out _).mono ?_
 rintro e w1 ⟨rfl,hk1⟩
 obtain⟨a0,a1,af,al⟩:=cells2 (block_keep (alloc_new' (w:=w.alloc _) (n:=w.heap.size+1) (by simp)) hk1 (fun h=>h))
 have f0:=af 0;have f1:=af 1
 have HK1:=hid ((((Keeps.refl (fun _=>False) w).alloc _).alloc _).trans hk1)
 clear hk1 af
 go_wp2_with fail
 refine bodyPost_ret_by (v:=.tuple #[Rf.no.val,.int .i64 3]) (by simp [results,Tryz.results209,go_sem,Rf.val,Rf.no, *]) rfl ⟨rfl,Keeps.fresh ?_⟩
 repeat (first | (with_reducible exact HK1.out.up) | with_reducible refine Keeps.setCell ?_ ?_ _ | with_reducible refine Keeps.alloc ?_ _ | with_reducible refine Keeps.drewN ?_ _ | with_reducible refine Keeps.drew ?_)
 all_goals first | (left;simp;done) | (left;simp;omega) | (right;simp;done) | (right;simp;omega)
theorem glput_ok (g:Nat) (f:Nat→Rf) (i:Nat) (r:Rf) (w:World) (h:GlAt w g f) (hi:i<8) (hr:r.Fine):
 Calls Tryz.prog 209 #[.pointer (some ⟨g,0,none⟩),.int .i64 i,.agg #[.int .i64 r.s,.int .u32 r.g]] w fun e w'=>e = .returned (.tuple #[(f i).val,.int .i64 0])∧Keeps (fun y=>y=g) w w'∧GlAt w' g (updf f i r):=by
 have HC:=hid (fun (w':World) (hk:Keeps (fun _=>False) w w')=>glcheck_ok g f i w' (h.keeps hk (fun h=>h)) hi)
 have HF:∀ w,_:=fun w=>fcheck_good ⟨1,r,.no,.no,.no,false⟩ w (one_good hr)
 simp only [Ob.arr,Rf.no] at HF
 have HFF:=hid HF
 obtain⟨c,hc,hG⟩:=h
 have hl:=lt_block hc
 have HB:=hid hc;have HG:=hid (hG.put i hi hr.wf)
 have HCC:=hid (fun (w':World) (hk:Keeps (fun _=>False) w w')=>And.intro (cell_at (block_keep hc hk (fun h=>h)) (hG.row i hi).1) (And.intro (cell_at (block_keep hc hk (fun h=>h)) (hG.row i hi).2) (frozen_block (block_keep hc hk (fun h=>h)))))
 obtain⟨v,hv⟩:∃ v,f i=v:=⟨_,rfl⟩
 rw [hv] at HCC
 have HV:=hid hv
 have hI:(i:Int)<8:=by omega
 have hI0:(0:Int)≤i:=by omega
 clear hc hG HF hv hr
 go_enter Tryz.func209,Tryz.ntmps209
 go_wp2_with fail
 refine (HC.out _ (by repeat (first | exact Keeps.refl _ _ | apply Keeps.alloc | apply Keeps.drewN | apply Keeps.drew))).mono ?_
 rintro e w' ⟨rfl,h'⟩
 obtain rfl:=h'.symm
 go_wp2_with fail
 refine (HFF.out _).mono ?_
 rintro e w1 ⟨rfl,hk1⟩
 have HK1:=hid ((((Keeps.refl (fun _=>False) w).alloc _).alloc _).trans hk1)
 obtain⟨a0,a1,af,al⟩:=cells2 (block_keep (alloc_new' (w:=w.alloc _) (n:=w.heap.size+1) (by simp)) hk1 (fun h=>h))
 obtain⟨b0,b1,_,bl⟩:=cells2 (block_keep (alloc_old (alloc_new (w:=w))) hk1 (fun h=>h))
 have f0:=af 0;have f1:=af 1
 obtain⟨c1,c2,cf⟩:=HCC.out _ HK1.out
 have g0:=cf (1+i * 2);have g1:=cf (1+i * 2+1)
 have hg1:g<w1.heap.size:=by have:=HK1.out.size;omega
 have HB1:=hid (block_keep HB.out HK1.out (fun h=>h))
 clear hk1 af cf
 go_wp2_with fail
 go_region
 go_wp2_with fail
 have hgn:g≠w.heap.size+1:=by omega
 refine bodyPost_ret_by (v:=.tuple #[(f i).val,.int .i64 0]) (by rw [HV.out];simp [results,Tryz.results209,go_sem,Rf.val, *]) rfl ⟨rfl,?_,?_⟩
 ·refine Keeps.mono (S:=fun y=>y=g∨w.heap.size≤y) ?_ (fun y hy h=>by rcases h with h | h;exact h;omega)
  have hk:=HK1.out.up (T:=fun y=>y=g∨w.heap.size≤y)
  repeat (first | (with_reducible exact hk) | with_reducible refine Keeps.setCell ?_ ?_ _ | with_reducible refine Keeps.alloc ?_ _ | with_reducible refine Keeps.drewN ?_ _ | with_reducible refine Keeps.drew ?_)
  all_goals first | (left;simp;done) | (left;simp;omega) | (right;simp;done) | (right;simp;omega)
 ·have q:=set_block (set_block HB1.out (1+i * 2) (.int .i64 r.s)) (1+i * 2+1) (.int .u32 r.g)
  have k3:∀ (W:World) (u v:Value) (o:Obj),Keeps (fun y=>y=w.heap.size+1) W (((W.setCell ⟨w.heap.size+1,0,none⟩ u).setCell ⟨w.heap.size+1,1,none⟩ v).alloc o).drew:=fun W u v o=>(((keeps_set1 _ _ _ _).trans (keeps_set1 _ _ _ _)).alloc _).drew
  exact⟨_,block_keep q (k3 _ _ _ _) hgn,HG.out⟩
end Go.Proofs.YtnlkfbndlngjaaaGreat
