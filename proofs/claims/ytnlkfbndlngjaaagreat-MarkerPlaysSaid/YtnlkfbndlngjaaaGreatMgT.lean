import Derived.Test.YtnlkfbndlngjaaaGreatMgS
namespace Go.Proofs.YtnlkfbndlngjaaaGreat
open Go.RowKit
theorem astack_bad (a:Nat) (L:ArL) (A:Ar) (m:Int) (w:World) (h:ArIn w a L A) (hm:m<0∨(A.many:Int)≤m):
 Calls Tryz.prog 111 #[.pointer (some ⟨a,0,none⟩),.int .i64 m] w fun e w'=>e = .returned (.tuple #[.pointer none,.int .i64 3])∧Keeps (fun _=>False) w w':=by
 have c0:=h.c0;have c2:=h.c2
 clear h
 rcases hm with hm | hm
 ·go_enter Tryz.func111,Tryz.ntmps111
  go_wp2_with fail
  refine (avalid a L.o _ c0).mono ?_
  rintro e w' ⟨rfl,h'⟩
  obtain rfl:=h'.symm
  go_wp2_with fail
  go_ret2
  exact⟨rfl,Keeps.refl _ _⟩
 ·have hm0:¬ m<0:=by omega
  go_enter Tryz.func111,Tryz.ntmps111
  go_wp2_with fail
  refine (avalid a L.o _ c0).mono ?_
  rintro e w' ⟨rfl,h'⟩
  obtain rfl:=h'.symm
  go_wp2_with fail
  go_ret2
  exact⟨rfl,Keeps.refl _ _⟩
theorem Ar.rootR_eq (A:Ar) {m:Nat} (hm:m<A.many) (i:Int):A.rootR m i=(A.rt m).getR i:=by
 unfold Ar.rootR Sk.getR
 rw [if_neg (by omega),Int.toNat_natCast]
theorem Ar.rootR_bad (A:Ar) {m:Int} (hm:m<0∨(A.many:Int)≤m) (i:Int):A.rootR m i=(.no,3):=if_pos hm
theorem aroot_any (a:Nat) (L:ArL) (A:Ar) (m i:Int) (w:World) (h:ArIn w a L A):
 Calls Tryz.prog 108 #[.pointer (some ⟨a,0,none⟩),.int .i64 m,.int .i64 i] w fun e w'=>e = .returned (.tuple #[(A.rootR m i).1.val,.int .i64 (A.rootR m i).2])∧Keeps (fun _=>False) w w':=by
 by_cases hm:m<0∨(A.many:Int)≤m
 ·rw [A.rootR_bad hm i]
  have HS:=hid (fun (w':World) (hk:Keeps (fun _=>False) w w')=>astack_bad a L A m w' (h.keeps0 hk) hm)
  clear h hm
  go_enter Tryz.func108,Tryz.ntmps108
  go_wp2_with fail
  refine (HS.out _ (by repeat (first | exact Keeps.refl _ _ | apply Keeps.alloc | apply Keeps.drewN | apply Keeps.drew))).mono ?_
  rintro e w1 ⟨rfl,hk1⟩
  have HK1:=hid (((Keeps.refl (fun _=>False) w).alloc _).trans hk1)
  obtain⟨a0,a1,af,al⟩:=cells2 (block_keep (alloc_new (w:=w)) hk1 (fun h=>h))
  have f0:=af 0;have f1:=af 1
  clear hk1 af
  go_wp2_with fail
  refine bodyPost_ret_by (v:=.tuple #[Rf.no.val,.int .i64 3]) (by simp [results,Tryz.results108,go_sem,Rf.val,Rf.no, *]) rfl ⟨rfl,Keeps.fresh ?_⟩
  repeat (first | (with_reducible exact HK1.out.up) | with_reducible refine Keeps.setCell ?_ ?_ _ | with_reducible refine Keeps.alloc ?_ _ | with_reducible refine Keeps.drewN ?_ _ | with_reducible refine Keeps.drew ?_)
  all_goals first | (left;simp;done) | (left;simp;omega) | (right;simp;done) | (right;simp;omega)
 ·obtain⟨m,rfl⟩:∃ j:Nat,m=j:=⟨m.toNat,by omega⟩
  have hm:m<A.many:=by omega
  rw [A.rootR_eq hm i]
  have HS:=hid (fun (w':World) (hk:Keeps (fun _=>False) w w')=>astack_ok a L A m w' (h.keeps0 hk) hm)
  have HR:=hid (fun (w':World) (hk:Keeps (fun _=>False) w w')=>rget_any (L.ss m) (A.rt m) i w' ((h.st m hm).keeps hk (fun h=>h)))
  obtain⟨⟨r,k⟩,hx⟩:∃ x,(A.rt m).getR i=x:=⟨_,rfl⟩
  rw [hx] at HR ⊢
  clear h hm hx
  dsimp only at HR ⊢
  go_enter Tryz.func108,Tryz.ntmps108
  go_wp2_with fail
  refine (HS.out _ (by repeat (first | exact Keeps.refl _ _ | apply Keeps.alloc | apply Keeps.drewN | apply Keeps.drew))).mono ?_
  rintro e w1 ⟨rfl,hk1⟩
  have HK1:=hid (((Keeps.refl (fun _=>False) w).alloc _).trans hk1)
  have HQ1:=hid (block_keep (alloc_new (w:=w)) hk1 (fun h=>h))
  clear hk1
  go_wp2_with fail
  refine (HR.out _ HK1.out).mono ?_
  rintro e w2 ⟨rfl,hk2⟩
  dsimp only [Rf.val]
  obtain⟨a0,a1,af,al⟩:=cells2 (block_keep HQ1.out hk2 (fun h=>h))
  have f0:=af 0;have f1:=af 1
  have HK2:=hid (HK1.out.trans hk2)
  clear hk2 af
  go_wp2_with fail
  refine bodyPost_ret_by (v:=.tuple #[r.val,.int .i64 k]) (by simp [results,Tryz.results108,go_sem,Rf.val, *]) rfl ⟨rfl,Keeps.fresh ?_⟩
  exact (HK2.out.up.setCell (p:=⟨_,0,none⟩) (.inl (Nat.le_refl _)) _).setCell (p:=⟨_,1,none⟩) (.inl (Nat.le_refl _)) _
theorem avalue_any (a:Nat) (L:ArL) (A:Ar) (m i:Int) (w:World) (h:ArIn w a L A):
 Calls Tryz.prog 109 #[.pointer (some ⟨a,0,none⟩),.int .i64 m,.int .i64 i] w fun e w'=>e = .returned (.tuple #[(A.valueR m i).1.val,.int .i64 (A.valueR m i).2])∧Keeps (fun _=>False) w w':=by
 by_cases hm:m<0∨(A.many:Int)≤m
 ·rw [show A.valueR m i=(.no,3) from if_pos hm]
  have HS:=hid (fun (w':World) (hk:Keeps (fun _=>False) w w')=>astack_bad a L A m w' (h.keeps0 hk) hm)
  clear h hm
  go_enter Tryz.func109,Tryz.ntmps109
  go_wp2_with fail
  refine (HS.out _ (by repeat (first | exact Keeps.refl _ _ | apply Keeps.alloc | apply Keeps.drewN | apply Keeps.drew))).mono ?_
  rintro e w1 ⟨rfl,hk1⟩
  have HK1:=hid (((Keeps.refl (fun _=>False) w).alloc _).trans hk1)
  obtain⟨a0,a1,af,al⟩:=cells2 (block_keep (alloc_new (w:=w)) hk1 (fun h=>h))
  have f0:=af 0;have f1:=af 1
  clear hk1 af
  go_wp2_with fail
  refine bodyPost_ret_by (v:=.tuple #[Rf.no.val,.int .i64 3]) (by simp [results,Tryz.results109,go_sem,Rf.val,Rf.no, *]) rfl ⟨rfl,Keeps.fresh ?_⟩
  repeat (first | (with_reducible exact HK1.out.up) | with_reducible refine Keeps.setCell ?_ ?_ _ | with_reducible refine Keeps.alloc ?_ _ | with_reducible refine Keeps.drewN ?_ _ | with_reducible refine Keeps.drew ?_)
  all_goals first | (left;simp;done) | (left;simp;omega) | (right;simp;done) | (right;simp;omega)
 ·obtain⟨m,rfl⟩:∃ j:Nat,m=j:=⟨m.toNat,by omega⟩
  have HS:=hid (fun (w':World) (hk:Keeps (fun _=>False) w w')=>astack_ok a L A m w' (h.keeps0 hk) (by omega))
  by_cases hi:i=-1
  ·subst hi
   rw [show A.valueR m (-1)=(.no,0) from (if_neg hm).trans (if_pos rfl)]
   clear h hm
   go_enter Tryz.func109,Tryz.ntmps109
   go_wp2_with fail
   refine (HS.out _ (by repeat (first | exact Keeps.refl _ _ | apply Keeps.alloc | apply Keeps.drewN | apply Keeps.drew))).mono ?_
   rintro e w1 ⟨rfl,hk1⟩
   have HK1:=hid (((Keeps.refl (fun _=>False) w).alloc _).trans hk1)
   obtain⟨a0,a1,af,al⟩:=cells2 (block_keep (alloc_new (w:=w)) hk1 (fun h=>h))
   have f0:=af 0;have f1:=af 1
   clear hk1 af
   go_wp2_with fail
   refine bodyPost_ret_by (v:=.tuple #[Rf.no.val,.int .i64 0]) (by simp [results,Tryz.results109,go_sem,Rf.val,Rf.no, *]) rfl ⟨rfl,Keeps.fresh ?_⟩
   repeat (first | (with_reducible exact HK1.out.up) | with_reducible refine Keeps.setCell ?_ ?_ _ | with_reducible refine Keeps.alloc ?_ _ | with_reducible refine Keeps.drewN ?_ _ | with_reducible refine Keeps.drew ?_)
   all_goals first | (left;simp;done) | (left;simp;omega) | (right;simp;done) | (right;simp;omega)
  ·rw [show A.valueR m i=A.rootR m i from (if_neg hm).trans (if_neg hi)]
   have HR:=hid (fun (w':World) (hk:Keeps (fun _=>False) w w')=>aroot_any a L A m i w' (h.keeps0 hk))
   have hi1:(i == -1)=false:=by simpa using hi
   obtain⟨⟨r,k⟩,hx⟩:∃ x,A.rootR m i=x:=⟨_,rfl⟩
   rw [hx] at HR ⊢
   clear h hm hx hi
   dsimp only at HR ⊢
   go_enter Tryz.func109,Tryz.ntmps109
   go_wp2_with fail
   refine (HS.out _ (by repeat (first | exact Keeps.refl _ _ | apply Keeps.alloc | apply Keeps.drewN | apply Keeps.drew))).mono ?_
   rintro e w1 ⟨rfl,hk1⟩
   have HK1:=hid (((Keeps.refl (fun _=>False) w).alloc _).trans hk1)
   have HQ1:=hid (block_keep (alloc_new (w:=w)) hk1 (fun h=>h))
   clear hk1
   go_wp2_with fail
   refine (HR.out _ HK1.out).mono ?_
   rintro e w2 ⟨rfl,hk2⟩
   dsimp only [Rf.val]
   obtain⟨a0,a1,af,al⟩:=cells2 (block_keep HQ1.out hk2 (fun h=>h))
   have f0:=af 0;have f1:=af 1
   have HK2:=hid (HK1.out.trans hk2)
   clear hk2 af
   go_wp2_with fail
   refine bodyPost_ret_by (v:=.tuple #[r.val,.int .i64 k]) (by simp [results,Tryz.results109,go_sem,Rf.val, *]) rfl ⟨rfl,Keeps.fresh ?_⟩
   exact (HK2.out.up.setCell (p:=⟨_,0,none⟩) (.inl (Nat.le_refl _)) _).setCell (p:=⟨_,1,none⟩) (.inl (Nat.le_refl _)) _
theorem adrop_bad (a:Nat) (L:ArL) (A:Ar) (m i:Int) (w:World) (h:ArIn w a L A) (hb:(m<0∨(A.many:Int)≤m)∨i<0∨((A.rt m.toNat).n:Int)≤i):
 Calls Tryz.prog 52 #[.pointer (some ⟨a,0,none⟩),.int .i64 m,.int .i64 i] w fun e w'=>e = .returned (.tuple #[Rf.no.val,.int .i64 3])∧Keeps (fun _=>False) w w':=by
 by_cases hm:m<0∨(A.many:Int)≤m
 ·have HS:=hid (fun (w':World) (hk:Keeps (fun _=>False) w w')=>astack_bad a L A m w' (h.keeps0 hk) hm)
  clear h hm hb
  go_enter Tryz.func52,Tryz.ntmps52
  go_wp2_with fail
  refine (HS.out _ (by repeat (first | exact Keeps.refl _ _ | apply Keeps.alloc | apply Keeps.drewN | apply Keeps.drew))).mono ?_
  rintro e w1 ⟨rfl,hk1⟩
  have HK1:=hid (((Keeps.refl (fun _=>False) w).alloc _).trans hk1)
  obtain⟨a0,a1,af,al⟩:=cells2 (block_keep (alloc_new (w:=w)) hk1 (fun h=>h))
  have f0:=af 0;have f1:=af 1
  clear hk1 af
  go_wp2_with fail
  refine bodyPost_ret_by (v:=.tuple #[Rf.no.val,.int .i64 3]) (by simp [results,Tryz.results52,go_sem,Rf.val,Rf.no, *]) rfl ⟨rfl,Keeps.fresh ?_⟩
  repeat (first | (with_reducible exact HK1.out.up) | with_reducible refine Keeps.setCell ?_ ?_ _ | with_reducible refine Keeps.alloc ?_ _ | with_reducible refine Keeps.drewN ?_ _ | with_reducible refine Keeps.drew ?_)
  all_goals first | (left;simp;done) | (left;simp;omega) | (right;simp;done) | (right;simp;omega)
 ·obtain⟨m,rfl⟩:∃ j:Nat,m=j:=⟨m.toNat,by omega⟩
  have hi:=hb.resolve_left hm
  rw [Int.toNat_natCast] at hi
  have HS:=hid (fun (w':World) (hk:Keeps (fun _=>False) w w')=>astack_ok a L A m w' (h.keeps0 hk) (by omega))
  have HR:=hid (fun (w':World) (hk:Keeps (fun _=>False) w w')=>rdrop_bad (L.ss m) (A.rt m) i w' ((h.st m (by omega)).keeps hk (fun h=>h)) hi)
  clear h hm hb hi
  go_enter Tryz.func52,Tryz.ntmps52
  go_wp2_with fail
  refine (HS.out _ (by repeat (first | exact Keeps.refl _ _ | apply Keeps.alloc | apply Keeps.drewN | apply Keeps.drew))).mono ?_
  rintro e w1 ⟨rfl,hk1⟩
  have HK1:=hid (((Keeps.refl (fun _=>False) w).alloc _).trans hk1)
  have HQ1:=hid (block_keep (alloc_new (w:=w)) hk1 (fun h=>h))
  clear hk1
  go_wp2_with fail
  refine (HR.out _ HK1.out).mono ?_
  rintro e w2 ⟨rfl,hk2⟩
  dsimp only [Rf.val,Rf.no]
  obtain⟨a0,a1,af,al⟩:=cells2 (block_keep HQ1.out hk2 (fun h=>h))
  have f0:=af 0;have f1:=af 1
  have HK2:=hid (HK1.out.trans hk2)
  clear hk2 af
  go_wp2_with fail
  refine bodyPost_ret_by (v:=.tuple #[Rf.no.val,.int .i64 3]) (by simp [results,Tryz.results52,go_sem,Rf.val,Rf.no, *]) rfl ⟨rfl,Keeps.fresh ?_⟩
  repeat (first | (with_reducible exact HK2.out.up) | with_reducible refine Keeps.setCell ?_ ?_ _ | with_reducible refine Keeps.alloc ?_ _ | with_reducible refine Keeps.drewN ?_ _ | with_reducible refine Keeps.drew ?_)
  all_goals first | (left;simp;done) | (left;simp;omega) | (right;simp;done) | (right;simp;omega)
def ArL.foot (L:ArL) (many y:Nat):Prop:=y=L.b∨y=L.t∨y=L.g∨∃ k,k<many∧y=L.ss k
theorem adrop_any (a:Nat) (L:ArL) (A:Ar) (m i:Int) (w:World) (h:ArIn w a L A):
 Calls Tryz.prog 52 #[.pointer (some ⟨a,0,none⟩),.int .i64 m,.int .i64 i] w fun e w'=>e = .returned (.tuple #[(A.dropR m i).now.val,.int .i64 (A.dropR m i).e])∧Keeps (fun y=>L.foot A.many y) w w'∧ArIn w' a L (A.dropR m i).A:=by
 by_cases hb:(m<0∨(A.many:Int)≤m)∨i<0∨((A.rt m.toNat).n:Int)≤i
 ·have he:A.dropR m i=⟨A,.no,.no,3⟩:=by
   unfold Ar.dropR
   by_cases hm:m<0∨(A.many:Int)≤m
   ·exact if_pos hm
   ·rw [if_neg hm];exact if_pos (hb.resolve_left hm)
  rw [he]
  exact (adrop_bad a L A m i w h hb).mono fun e w' ⟨h1,h2⟩=>⟨h1,h2.up,h.keeps0 h2⟩
 ·have hm:¬ (m<0∨(A.many:Int)≤m):=fun h=>hb (.inl h)
  have hi:¬ (i<0∨((A.rt m.toNat).n:Int)≤i):=fun h=>hb (.inr h)
  rw [show A.dropR m i=⟨A.setRt m.toNat ((A.rt m.toNat).drop i.toNat),.no,(A.rt m.toNat).f i.toNat,0⟩ from (if_neg hm).trans (if_neg hi)]
  obtain⟨m,rfl⟩:∃ j:Nat,m=j:=⟨m.toNat,by omega⟩
  obtain⟨i,rfl⟩:∃ j:Nat,i=j:=⟨i.toNat,by omega⟩
  simp only [Int.toNat_natCast] at hi ⊢
  exact (adrop_ok a L A m i w h (by omega) (by omega)).mono fun e w' ⟨h1,h2,h3⟩=>⟨h1,h2.mono (fun y _ h=>.inr (.inr (.inr ⟨m,by omega,h⟩))),h3⟩
end Go.Proofs.YtnlkfbndlngjaaaGreat
namespace Go.Proofs.YtnlkfbndlngjaaaGreat
open Go.RowKit
theorem agive_m (a:Nat) (L:ArL) (A:Ar) (m:Int) (v1 v2:Value) (w:World) (h:ArIn w a L A) (hm:m<0∨(A.many:Int)≤m):
 Calls Tryz.prog 103 #[.pointer (some ⟨a,0,none⟩),.int .i64 m,v1,v2] w fun e w'=>e = .returned (.tuple #[Rf.no.val,.int .i64 3])∧Keeps (fun _=>False) w w':=by
 have HS:=hid (fun (w':World) (hk:Keeps (fun _=>False) w w')=>astack_bad a L A m w' (h.keeps0 hk) hm)
 clear h hm
 go_enter Tryz.func103,Tryz.ntmps103
 go_wp2_with fail
 refine (HS.out _ (by repeat (first | exact Keeps.refl _ _ | apply Keeps.alloc | apply Keeps.drewN | apply Keeps.drew))).mono ?_
 rintro e w1 ⟨rfl,hk1⟩
 have HK1:=hid (((Keeps.refl (fun _=>False) w).alloc _).trans hk1)
 obtain⟨a0,a1,af,al⟩:=cells2 (block_keep (alloc_new (w:=w)) hk1 (fun h=>h))
 have f0:=af 0;have f1:=af 1
 clear hk1 af
 go_wp2_with fail
 refine bodyPost_ret_by (v:=.tuple #[Rf.no.val,.int .i64 3]) (by simp [results,Tryz.results103,go_sem,Rf.val,Rf.no, *]) rfl ⟨rfl,Keeps.fresh ?_⟩
 repeat (first | (with_reducible exact HK1.out.up) | with_reducible refine Keeps.setCell ?_ ?_ _ | with_reducible refine Keeps.alloc ?_ _ | with_reducible refine Keeps.drewN ?_ _ | with_reducible refine Keeps.drew ?_)
 all_goals first | (left;simp;done) | (left;simp;omega) | (right;simp;done) | (right;simp;omega)
theorem agive_look (a:Nat) (L:ArL) (A:Ar) (m:Nat) (k:Int) (f1:Nat) (c1:Array Value) (v2:Value) (S:Nat→Prop) (w:World) (h:ArIn w a L A) (hm:m<A.many) (hk0:k≠0) (hS:∀ y,S y→y<w.heap.size)
 (e1:∀ args w,(callFunc f1 args).run Tryz.prog w = .ok (.enter f1 args) w)
 (h1:∀ w1,Keeps (fun _=>False) w w1→Calls Tryz.prog f1 c1 w1 fun e w2=>e = .returned (.int .i64 k)∧Keeps S w1 w2):
 Calls Tryz.prog 103 #[.pointer (some ⟨a,0,none⟩),.int .i64 m,.func (.func f1) #[] c1,v2] w fun e w'=>e = .returned (.tuple #[Rf.no.val,.int .i64 k])∧Keeps S w w':=by
 have HS:=hid (fun (w':World) (hk:Keeps (fun _=>False) w w')=>astack_ok a L A m w' (h.keeps0 hk) hm)
 have H1:=hid h1
 have hkb:(k != 0)=true:=by rw [bne_iff_ne];exact hk0
 have HSS:=hid hS
 clear h h1 hk0 hS hm
 go_enter Tryz.func103,Tryz.ntmps103
 go_wp2_with fail
 refine (HS.out _ (by repeat (first | exact Keeps.refl _ _ | apply Keeps.alloc | apply Keeps.drewN | apply Keeps.drew))).mono ?_
 rintro e w1 ⟨rfl,hk1⟩
 have HK1:=hid (((Keeps.refl (fun _=>False) w).alloc _).trans hk1)
 have HQ1:=hid (block_keep (alloc_new (w:=w)) hk1 (fun h=>h))
 clear hk1
 go_wp2_with fail
 refine (H1.out _ HK1.out).mono ?_
 rintro e w2 ⟨rfl,hk2⟩
 obtain⟨a0,a1,af,al⟩:=cells2 (block_keep HQ1.out hk2 (fun h=>by have:=HSS.out _ h;omega))
 have f0:=af 0;have f1:=af 1
 have HK2:=hid (HK1.out.up.trans hk2)
 clear hk2 af
 go_wp2_with fail
 have kk:∀ (W:World) (u v:Value),Keeps (fun y=>y=w.heap.size) W ((W.setCell ⟨w.heap.size,0,none⟩ u).setCell ⟨w.heap.size,1,none⟩ v):=fun W u v=>(keeps_set1 _ _ _ _).trans (keeps_set1 _ _ _ _)
 refine bodyPost_ret_by (v:=.tuple #[Rf.no.val,.int .i64 k]) (by simp [results,Tryz.results103,go_sem,Rf.val,Rf.no, *]) rfl ⟨rfl,?_⟩
 refine Keeps.mono (S:=fun y=>S y∨w.heap.size≤y) ?_ (fun y hy h=>by rcases h with h | h;exact h;omega)
 have hk:=HK2.out.mono (T:=fun y=>S y∨w.heap.size≤y) (fun _ _ h=>.inl h)
 repeat (first | (with_reducible exact hk) | with_reducible refine Keeps.setCell ?_ ?_ _ | with_reducible refine Keeps.alloc ?_ _ | with_reducible refine Keeps.drewN ?_ _ | with_reducible refine Keeps.drew ?_)
 all_goals first | (left;simp;done) | (left;simp;omega) | (right;simp;done) | (right;simp;omega)
theorem agive_full (a:Nat) (L:ArL) (A:Ar) (m:Nat) (f1:Nat) (c1:Array Value) (v2:Value) (S:Nat→Prop) (w:World) (h:ArIn w a L A) (hm:m<A.many) (hr:32≤(A.rt m).n) (hS:∀ y,S y→y<w.heap.size∧y≠L.ss m)
 (e1:∀ args w,(callFunc f1 args).run Tryz.prog w = .ok (.enter f1 args) w)
 (h1:∀ w1,Keeps (fun _=>False) w w1→Calls Tryz.prog f1 c1 w1 fun e w2=>e = .returned (.int .i64 0)∧Keeps S w1 w2):
 Calls Tryz.prog 103 #[.pointer (some ⟨a,0,none⟩),.int .i64 m,.func (.func f1) #[] c1,v2] w fun e w'=>e = .returned (.tuple #[Rf.no.val,.int .i64 4])∧Keeps S w w':=by
 have HS:=hid (fun (w':World) (hk:Keeps (fun _=>False) w w')=>astack_ok a L A m w' (h.keeps0 hk) hm)
 have H1:=hid h1
 have hI:decide (32≤(A.rt m).n)=true:=by simpa using hr
 have HL:=hid (fun (w':World) (hk':Keeps S w w')=>rlen (L.ss m) (A.rt m) w' ((h.st m hm).keeps hk' (fun h=>(hS _ h).2 rfl)))
 have HSS:=hid hS
 clear h h1 hS hm
 go_enter Tryz.func103,Tryz.ntmps103
 go_wp2_with fail
 refine (HS.out _ (by repeat (first | exact Keeps.refl _ _ | apply Keeps.alloc | apply Keeps.drewN | apply Keeps.drew))).mono ?_
 rintro e w1 ⟨rfl,hk1⟩
 have HK1:=hid (((Keeps.refl (fun _=>False) w).alloc _).trans hk1)
 have HQ1:=hid (block_keep (alloc_new (w:=w)) hk1 (fun h=>h))
 clear hk1
 go_wp2_with fail
 refine (H1.out _ HK1.out).mono ?_
 rintro e w2 ⟨rfl,hk2⟩
 have HQ2:=hid (block_keep HQ1.out hk2 (fun h=>by have:=(HSS.out _ h).1;omega))
 have HK2:=hid (HK1.out.up.trans hk2)
 clear hk2
 go_wp2_with fail
 refine (HL.out _ HK2.out).mono ?_
 rintro e w3 ⟨rfl,hk3⟩
 obtain⟨a0,a1,af,al⟩:=cells2 (block_keep HQ2.out hk3 (fun h=>h))
 have f0:=af 0;have f1:=af 1
 have HK3:=hid (HK2.out.trans hk3.up)
 clear hk3 af
 go_wp2_with fail
 refine bodyPost_ret_by (v:=.tuple #[Rf.no.val,.int .i64 4]) (by simp [results,Tryz.results103,go_sem,Rf.val,Rf.no, *]) rfl ⟨rfl,?_⟩
 refine Keeps.mono (S:=fun y=>S y∨w.heap.size≤y) ?_ (fun y hy h=>by rcases h with h | h;exact h;omega)
 have hk:=HK3.out.mono (T:=fun y=>S y∨w.heap.size≤y) (fun _ _ h=>.inl h)
 repeat (first | (with_reducible exact hk) | with_reducible refine Keeps.setCell ?_ ?_ _ | with_reducible refine Keeps.alloc ?_ _ | with_reducible refine Keeps.drewN ?_ _ | with_reducible refine Keeps.drew ?_)
 all_goals first | (left;simp;done) | (left;simp;omega) | (right;simp;done) | (right;simp;omega)
theorem agive_none (a:Nat) (L:ArL) (A:Ar) (m:Nat) (k:Int) (f1 f2:Nat) (c1 c2:Array Value) (S S2:Nat→Prop) (R R2:World→Prop) (w:World) (h:ArIn w a L A) (hm:m<A.many) (hr:(A.rt m).n<32) (hk0:k≠0) (hS:∀ y,S y→y<w.heap.size∧y≠L.ss m) (hS2:∀ y,S2 y→y<w.heap.size)
 (e1:∀ args w,(callFunc f1 args).run Tryz.prog w = .ok (.enter f1 args) w) (e2:∀ args w,(callFunc f2 args).run Tryz.prog w = .ok (.enter f2 args) w)
 (h1:∀ w1,Keeps (fun _=>False) w w1→Calls Tryz.prog f1 c1 w1 fun e w2=>e = .returned (.int .i64 0)∧Keeps S w1 w2∧R w2) (hR:∀ w1 w2,R w1→Keeps (fun _=>False) w1 w2→R w2) (hR2:∀ w1 w2,R2 w1→Keeps (fun y=>w.heap.size≤y) w1 w2→R2 w2)
 (h2:∀ w1,Keeps S w w1→R w1→Calls Tryz.prog f2 c2 w1 fun e w2=>e = .returned (.tuple #[Rf.no.val,.int .i64 k])∧Keeps S2 w1 w2∧R2 w2):
 Calls Tryz.prog 103 #[.pointer (some ⟨a,0,none⟩),.int .i64 m,.func (.func f1) #[] c1,.func (.func f2) #[] c2] w fun e w'=>e = .returned (.tuple #[Rf.no.val,.int .i64 k])∧Keeps (fun y=>S y∨S2 y) w w'∧R2 w':=by
 have HS:=hid (fun (w':World) (hk:Keeps (fun _=>False) w w')=>astack_ok a L A m w' (h.keeps0 hk) hm)
 have H1:=hid h1;have H2:=hid h2;have HR:=hid hR;have HRT:=hid hR2
 have hI:decide (32≤(A.rt m).n)=false:=by simp;omega
 have hkb:(k == 0)=false:=by simpa using hk0
 have hkb':(k != 0)=true:=by rw [bne_iff_ne];exact hk0
 have HL:=hid (fun (w':World) (hk':Keeps S w w')=>rlen (L.ss m) (A.rt m) w' ((h.st m hm).keeps hk' (fun h=>(hS _ h).2 rfl)))
 have HSS:=hid hS;have HSS2:=hid hS2
 clear h h1 h2 hR hR2 hS hS2 hm hk0
 go_enter Tryz.func103,Tryz.ntmps103
 go_wp2_with fail
 refine (HS.out _ (by repeat (first | exact Keeps.refl _ _ | apply Keeps.alloc | apply Keeps.drewN | apply Keeps.drew))).mono ?_
 rintro e w1 ⟨rfl,hk1⟩
 have HK1:=hid (((Keeps.refl (fun _=>False) w).alloc _).trans hk1)
 have HQ1:=hid (block_keep (alloc_new (w:=w)) hk1 (fun h=>h))
 clear hk1
 go_wp2_with fail
 refine (H1.out _ HK1.out).mono ?_
 rintro e w2 ⟨rfl,hk2,hr2⟩
 have HQ2:=hid (block_keep HQ1.out hk2 (fun h=>by have:=(HSS.out _ h).1;omega))
 have HK2:=hid (HK1.out.up.trans hk2)
 have HR2:=hid hr2
 clear hk2 hr2
 go_wp2_with fail
 refine (HL.out _ HK2.out).mono ?_
 rintro e w3 ⟨rfl,hk3⟩
 have HQ3:=hid (block_keep HQ2.out hk3 (fun h=>h))
 have HR3:=hid (HR.out _ _ HR2.out hk3)
 have HK3:=hid (HK2.out.trans hk3.up)
 clear hk3
 go_wp2_with fail
 refine (H2.out _ HK3.out HR3.out).mono ?_
 rintro e w4 ⟨rfl,hk4,hr4⟩
 have HR4:=hid hr4
 clear hr4
 dsimp only [Rf.val,Rf.no]
 have lw3:=HK3.out.size
 obtain⟨a0,a1,af,al⟩:=cells2 (block_keep HQ3.out hk4 (fun h=>by have:=HSS2.out _ h;omega))
 have f0:=af 0;have f1:=af 1
 have HK4:=hid (HK3.out.trans' hk4 (U:=fun y=>S y∨S2 y) (fun _ _ h=>.inl h) (fun _ _ h=>.inr h))
 clear hk4 af
 go_wp2_with fail
 refine bodyPost_ret_by (v:=.tuple #[Rf.no.val,.int .i64 k]) (by simp [results,Tryz.results103,go_sem,Rf.val,Rf.no, *]) rfl ⟨rfl,?_,HRT.out _ _ HR4.out ?_⟩
 ·refine Keeps.mono (S:=fun y=>(S y∨S2 y)∨w.heap.size≤y) ?_ (fun y hy h=>by rcases h with h | h;exact h;omega)
  have hk:=HK4.out.mono (T:=fun y=>(S y∨S2 y)∨w.heap.size≤y) (fun _ _ h=>.inl h)
  repeat (first | (with_reducible exact hk) | with_reducible refine Keeps.setCell ?_ ?_ _ | with_reducible refine Keeps.alloc ?_ _ | with_reducible refine Keeps.drewN ?_ _ | with_reducible refine Keeps.drew ?_)
  all_goals first | (left;simp;done) | (left;simp;omega) | (right;simp;done) | (right;simp;omega)
 ·have hk:=Keeps.refl (fun y=>w.heap.size≤y) w4
  repeat (first | (with_reducible exact hk) | with_reducible refine Keeps.setCell ?_ ?_ _ | with_reducible refine Keeps.alloc ?_ _ | with_reducible refine Keeps.drewN ?_ _ | with_reducible refine Keeps.drew ?_)
  all_goals first | (left;simp;done) | (left;simp;omega) | (right;simp;done) | (right;simp;omega)
theorem agive_ok (a:Nat) (L:ArL) (A A1:Ar) (m:Nat) (r:Rf) (f1 f2:Nat) (c1 c2:Array Value) (S S2:Nat→Prop) (R:World→Prop) (w:World) (h:ArIn w a L A) (hm:m<A.many) (hr:(A.rt m).n<32) (ht:A1.rt m=A.rt m) (hmm:A1.many=A.many) (hro:r.Ok) (hS:∀ y,S y→y<w.heap.size∧y≠L.ss m) (hS2:∀ y,S2 y→y<w.heap.size)
 (e1:∀ args w,(callFunc f1 args).run Tryz.prog w = .ok (.enter f1 args) w) (e2:∀ args w,(callFunc f2 args).run Tryz.prog w = .ok (.enter f2 args) w)
 (h1:∀ w1,Keeps (fun _=>False) w w1→Calls Tryz.prog f1 c1 w1 fun e w2=>e = .returned (.int .i64 0)∧Keeps S w1 w2∧R w2) (hR:∀ w1 w2,R w1→Keeps (fun _=>False) w1 w2→R w2)
 (h2:∀ w1,Keeps S w w1→R w1→Calls Tryz.prog f2 c2 w1 fun e w2=>e = .returned (.tuple #[r.val,.int .i64 0])∧Keeps S2 w1 w2∧ArIn w2 a L A1):
 Calls Tryz.prog 103 #[.pointer (some ⟨a,0,none⟩),.int .i64 m,.func (.func f1) #[] c1,.func (.func f2) #[] c2] w fun e w'=>e = .returned (.tuple #[r.val,.int .i64 0])∧Keeps (fun y=>(S y∨S2 y)∨y=L.ss m) w w'∧ArIn w' a L (A1.setRt m ((A.rt m).push r)):=by
 have HS:=hid (fun (w':World) (hk:Keeps (fun _=>False) w w')=>astack_ok a L A m w' (h.keeps0 hk) hm)
 have H1:=hid h1;have H2:=hid h2;have HR:=hid hR
 have hI:decide (32≤(A.rt m).n)=false:=by simp;omega
 have HL:=hid (fun (w':World) (hk':Keeps S w w')=>rlen (L.ss m) (A.rt m) w' ((h.st m hm).keeps hk' (fun h=>(hS _ h).2 rfl)))
 have HSS:=hid hS;have HSS2:=hid hS2
 have hsl:=(h.st m hm).lt
 have HM:=hid (show m<A1.many by rw [hmm];exact hm)
 have HBT:=hid (show L.Btw a A1.many 0 w.heap.size by rw [hmm];exact h.btw)
 have HRO:=hid hro;have HRN:=hid hr;have HT:=hid ht
 clear h h1 h2 hR hS hS2 hm hro ht hmm
 go_enter Tryz.func103,Tryz.ntmps103
 go_wp2_with fail
 refine (HS.out _ (by repeat (first | exact Keeps.refl _ _ | apply Keeps.alloc | apply Keeps.drewN | apply Keeps.drew))).mono ?_
 rintro e w1 ⟨rfl,hk1⟩
 have HK1:=hid (((Keeps.refl (fun _=>False) w).alloc _).trans hk1)
 have HQ1:=hid (block_keep (alloc_new (w:=w)) hk1 (fun h=>h))
 clear hk1
 go_wp2_with fail
 refine (H1.out _ HK1.out).mono ?_
 rintro e w2 ⟨rfl,hk2,hr2⟩
 have HQ2:=hid (block_keep HQ1.out hk2 (fun h=>by have:=(HSS.out _ h).1;omega))
 have HK2:=hid (HK1.out.up.trans hk2)
 have HR2:=hid hr2
 clear hk2 hr2
 go_wp2_with fail
 refine (HL.out _ HK2.out).mono ?_
 rintro e w3 ⟨rfl,hk3⟩
 have HQ3:=hid (block_keep HQ2.out hk3 (fun h=>h))
 have HR3:=hid (HR.out _ _ HR2.out hk3)
 have HK3:=hid (HK2.out.trans hk3.up)
 clear hk3
 go_wp2_with fail
 refine (H2.out _ HK3.out HR3.out).mono ?_
 rintro e w4 ⟨rfl,hk4,ha4⟩
 dsimp only [Rf.val]
 have lw3:=HK3.out.size
 have HQ4:=hid (block_keep HQ3.out hk4 (fun h=>by have:=HSS2.out _ h;omega))
 have HK4:=hid (HK3.out.trans' hk4 (U:=fun y=>S y∨S2 y) (fun _ _ h=>.inl h) (fun _ _ h=>.inr h))
 have hsz4:=HK4.out.size
 have lq4:=lt_block HQ4.out
 have HA4:=hid ha4
 have HP:=hid (fun o=>rpush_ok (L.ss m) (A.rt m) r (w4.alloc o) (by have:=HA4.out.st m HM.out;rw [HT.out] at this;exact this.keeps (S:=fun _=>False) ((Keeps.refl _ _).alloc _) (fun h=>h)) HRN.out HRO.out.s0 HRO.out.s1 HRO.out.g0 HRO.out.g1)
 clear hk4 ha4
 go_wp2_with fail
 refine (HP.out _).mono ?_
 rintro e w5 ⟨rfl,hk5,hs5⟩
 obtain⟨a0,a1,af,al⟩:=cells2 (block_keep (alloc_old HQ4.out) hk5 (by omega))
 obtain⟨b0,b1,_,_⟩:=cells2 (block_keep (alloc_new (w:=w4)) hk5 (by omega))
 have f0:=af 0;have f1:=af 1
 have HA5:=hid ((HA4.out.keeps0 ((Keeps.refl _ _).alloc _)).setRt HM.out hk5 hs5)
 have HK5:=hid (((HK4.out.mono (T:=fun y=>(S y∨S2 y)∨y=L.ss m) (fun _ _ h=>.inl h)).alloc _).trans' hk5 (U:=fun y=>(S y∨S2 y)∨y=L.ss m) (fun _ _ h=>h) (fun _ _ h=>.inr h))
 clear hk5 hs5 af
 go_wp2_with fail
 have kk:∀ (W:World) (u v:Value),Keeps (fun y=>y=w.heap.size) W ((W.setCell ⟨w.heap.size,0,none⟩ u).setCell ⟨w.heap.size,1,none⟩ v):=fun W u v=>(keeps_set1 _ _ _ _).trans (keeps_set1 _ _ _ _)
 refine bodyPost_ret_by (v:=.tuple #[r.val,.int .i64 0]) (by simp [results,Tryz.results103,go_sem,Rf.val, *]) rfl ⟨rfl,?_,?_⟩
 ·exact (HK5.out.trans' (kk _ _ _) (U:=fun y=>((S y∨S2 y)∨y=L.ss m)∨w.heap.size≤y) (fun _ _ h=>.inl h) (fun y _ h=>.inr (by omega))).mono (fun y hy h=>by rcases h with h | h;exact h;omega)
 ·exact HA5.out.keepsB HBT.out ((kk _ _ _).mono (fun y _ h=>by omega))
end Go.Proofs.YtnlkfbndlngjaaaGreat
