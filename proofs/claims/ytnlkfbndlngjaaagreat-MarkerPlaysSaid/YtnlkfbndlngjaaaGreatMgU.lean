import Derived.Test.YtnlkfbndlngjaaaGreatMgT
set_option maxHeartbeats 2000000
set_option maxRecDepth 100000
namespace Go.Proofs.YtnlkfbndlngjaaaGreat
open Go.RowKit
theorem Hp.loadR_eq (H:Hp) (r:Rf) (i:Int):H.loadR r i=if ckV H.T r.s r.g≠0 then (Rf.no,ckV H.T r.s r.g) else (H.ob r.s.toNat).getC i:=rfl
def Ar.lookR (A:Ar) (m i f:Int):Int:=
 if (A.rootR m i).2≠0 then (A.rootR m i).2 else if (A.H.loadR (A.rootR m i).1 f).2≠0 then (A.H.loadR (A.rootR m i).1 f).2 else if (A.H.loadR (A.rootR m i).1 f).1.nz=false then 5 else 0
theorem aload1 (a:Nat) (L:ArL) (A:Ar) (m i f:Int) (Ba Bm Bi Bf Bv:Nat) (w:World) (h:ArIn w a L A)
 (q0:w.heap[Ba]?=some (.cells #[.pointer (some ⟨a,0,none⟩)] 25)) (q1:w.heap[Bm]?=some (.cells #[.int .i64 m] 3)) (q2:w.heap[Bi]?=some (.cells #[.int .i64 i] 3)) (q3:w.heap[Bf]?=some (.cells #[.int .i64 f] 3))
 (q4:w.heap[Bv]?=some (.cells #[.int .i64 0,.int .u32 0] 34)):
 Calls Tryz.prog 201 #[.pointer (some ⟨Ba,0,none⟩),.pointer (some ⟨Bm,0,none⟩),.pointer (some ⟨Bi,0,none⟩),.pointer (some ⟨Bf,0,none⟩),.pointer (some ⟨Bv,0,none⟩)] w
  fun e w'=>e = .returned (.int .i64 (A.lookR m i f))∧Keeps (fun y=>y=Bv) w w'∧(A.lookR m i f=0→w'.heap[Bv]?=some (.cells #[.int .i64 (A.H.loadR (A.rootR m i).1 f).1.s,.int .u32 (A.H.loadR (A.rootR m i).1 f).1.g] 34)):=by
 have HR:=hid (fun (w':World) (hk:Keeps (fun _=>False) w w')=>aroot_any a L A m i w' (h.keeps0 hk))
 have HL:=hid (fun (r:Rf) (w':World) (hk:Keeps (fun _=>False) w w')=>hload_any L.b L.t A.H r f w' (h.heap.keeps hk (fun h=>h) (fun h=>h)))
 simp only [← Hp.loadR_eq] at HL
 obtain⟨⟨cx,hcx,hCx⟩,hox,_⟩:=id h
 have n0:Ba≠Bv:=type_ne q0 q4 (by decide)
 have n1:Bm≠Bv:=type_ne q1 q4 (by decide)
 have n2:Bi≠Bv:=type_ne q2 q4 (by decide)
 have n3:Bf≠Bv:=type_ne q3 q4 (by decide)
 have n4:a≠Bv:=type_ne hcx q4 (by decide)
 have n5:L.o≠Bv:=type_ne hox q4 (by decide)
 have HF:=hid (fun (w':World) (hk:Keeps (fun y=>y=Bv) w w')=>And.intro (cells1 (block_keep q0 hk n0)).1 (And.intro (cells1 (block_keep q1 hk n1)).1 (And.intro (cells1 (block_keep q2 hk n2)).1 (And.intro (cells1 (block_keep q3 hk n3)).1 (And.intro (cell_at (block_keep hcx hk n4) hCx.obj) (cells1 (block_keep hox hk n5)).1)))))
 have HV:=hid q4
 have lv:=lt_block q4
 unfold Ar.lookR
 obtain⟨⟨r,y⟩,hr⟩:∃ x,A.rootR m i=x:=⟨_,rfl⟩
 rw [hr] at HR ⊢
 dsimp only at HR ⊢
 obtain⟨c0,c1,c2,c3,c4,c5⟩:=HF.out _ (Keeps.refl _ _)
 clear h q0 q1 q2 q3 q4 hcx hCx hox hr n0 n1 n2 n3 n4 n5
 by_cases hy:y≠0
 ·rw [if_pos hy]
  have hyb:(y != 0)=true:=by rw [bne_iff_ne];exact hy
  have HY:=hid hy
  clear hy
  go_enter Tryz.func201,Tryz.ntmps201
  go_wp2_with fail
  refine (HR.out _ (Keeps.refl _ _)).mono ?_
  rintro e w1 ⟨rfl,hk1⟩
  dsimp only [Rf.val]
  have HK1:=hid hk1
  clear hk1
  go_wp2_with fail
  go_ret
  refine⟨rfl,?_,fun h=>absurd h HY.out⟩
  exact (HK1.out.alloc _).up
 ·have hy0:y=0:=Decidable.not_not.1 hy
  subst hy0
  rw [if_neg hy]
  have HL:=hid (fun (w':World) (hk:Keeps (fun _=>False) w w')=>HL.out r w' hk)
  obtain⟨⟨v,x⟩,hv⟩:∃ z,A.H.loadR r f=z:=⟨_,rfl⟩
  rw [hv] at HL ⊢
  dsimp only [Rf.val] at HL ⊢
  clear hy hv
  obtain⟨k,hkk⟩:∃ k,(if x≠0 then x else if v.nz=false then 5 else 0)=k:=⟨_,rfl⟩
  have HX:=hid hkk
  rw [hkk]
  clear hkk
  go_enter Tryz.func201,Tryz.ntmps201
  go_wp2_with fail
  refine (HR.out _ (Keeps.refl _ _)).mono ?_
  rintro e w1 ⟨rfl,hk1⟩
  dsimp only [Rf.val]
  go_upto_region 4 with (fail)
  obtain⟨w3,hw3⟩:∃ w3,w1.alloc (.cells #[.int .i64 r.s,.int .u32 r.g] 34)=w3:=⟨_,rfl⟩
  have k3:Keeps (fun _=>False) w1 w3:=by rw [← hw3];exact (Keeps.refl _ _).alloc _
  have p3:w3.heap[w1.heap.size]?=some (.cells #[.int .i64 r.s,.int .u32 r.g] 34):=by rw [← hw3];exact alloc_new
  rw [hw3]
  have HK3:=hid (hk1.trans k3)
  have HP3:=hid p3
  have l13:=hk1.size
  clear hk1 k3 p3 hw3 c0 c1 c2 c3 c4 c5
  have hw13:=lt_block HP3.out
  have hv3:=block_keep HV.out HK3.out (fun h=>h)
  have HV3:=hid hv3
  have HFF:=hid (fun (W:World) (hk:Keeps (fun y=>y=Bv) w3 W)=>show (W.cell? ⟨Ba,0,none⟩=some (.pointer (some ⟨a,0,none⟩))∧W.cell? ⟨a,0,none⟩=some (.pointer (some ⟨L.o,0,none⟩))∧W.cell? ⟨L.o,0,none⟩=some (.pointer (some ⟨L.b,0,none⟩))∧W.cell? ⟨w1.heap.size,0,none⟩=some (.int .i64 r.s)∧W.cell? ⟨w1.heap.size,1,none⟩=some (.int .u32 r.g)∧W.cell? ⟨Bf,0,none⟩=some (.int .i64 f)) from by
   obtain⟨c0,c1,c2,c3,c4,c5⟩:=HF.out _ (HK3.out.up.trans hk)
   obtain⟨p0,p1,_,_⟩:=cells2 (block_keep HP3.out hk (by omega))
   exact⟨c0,c4,c5,p0,p1,c3⟩)
  clear hv3
  obtain⟨c0,c1,c2,c3,c4,c5⟩:=HFF.out _ (Keeps.refl _ _)
  go_region_held3 (fun W=>W.cell? ⟨Ba,0,none⟩=some (.pointer (some ⟨a,0,none⟩))∧W.cell? ⟨a,0,none⟩=some (.pointer (some ⟨L.o,0,none⟩))∧W.cell? ⟨L.o,0,none⟩=some (.pointer (some ⟨L.b,0,none⟩))∧W.cell? ⟨w1.heap.size,0,none⟩=some (.int .i64 r.s)∧W.cell? ⟨w1.heap.size,1,none⟩=some (.int .u32 r.g)∧W.cell? ⟨Bf,0,none⟩=some (.int .i64 f))
   ((refine HFF.out _ ?_;(repeat (first | with_reducible exact Keeps.refl _ _ | with_reducible refine Keeps.alloc ?_ _ | with_reducible refine Keeps.drew ?_ | with_reducible refine Keeps.setCell ?_ (.inl ?_) _ | with_reducible refine Keeps.trans ?_ (Keeps.up (by with_reducible assumption)))) <;> rfl))
   (first | (go_at_call 202;refine (HL.out _ HK3.out.drew).mono ?_;rintro e w4 ⟨rfl,hk4⟩;have hk5:=(Keeps.drew (Keeps.refl (fun _=>False) w3)).trans hk4;have q5:=block_keep HV3.out hk5 (fun h=>h);obtain⟨a0,a1,af,al⟩:=cells2 q5;have f0:=af 0;have f1:=af 1;have Q5:=hid q5;clear q5))
  all_goals
   have HK5:=hid hk5
   clear hk4 hk5 c0 c1 c2 c3 c4 c5
   have kk:∀ (W:World) (u v:Value),Keeps (fun y=>y=Bv) W ((W.setCell ⟨Bv,0,none⟩ u).setCell ⟨Bv,1,none⟩ v):=fun W u v=>(keeps_set1 _ _ _ _).trans (keeps_set1 _ _ _ _)
   have HKK:=hid kk
   clear kk
   by_cases hx:x=0
   ·subst hx
    rcases hn:v.nz with _ | _
    ·have ez:∀ w,Sem.run Tryz.prog (binOp .eql 34 (.agg #[.int .i64 v.s,.int .u32 v.g]) (.agg #[.int .i64 0,.int .u32 0])) w = .ok (.bool true) w:=fun w=>(eql_no v w).trans (by rw [hn];rfl)
     have HE:=hid (show k=5 by rw [← HX.out,if_neg (by decide),if_pos hn])
     clear hn
     go_wp2_with fail
     go_ret
     refine⟨ret_int HE.out.symm,(HK3.out.up.trans HK5.out.up).trans (HKK.out _ _ _),fun h=>?_⟩
     rw [HE.out] at h;cases h
    ·have ez:∀ w,Sem.run Tryz.prog (binOp .eql 34 (.agg #[.int .i64 v.s,.int .u32 v.g]) (.agg #[.int .i64 0,.int .u32 0])) w = .ok (.bool false) w:=fun w=>(eql_no v w).trans (by rw [hn];rfl)
     have HE:=hid (show k=0 by rw [← HX.out,if_neg (by decide),if_neg (by rw [hn];decide)])
     clear hn
     go_wp2_with fail
     go_ret
     exact⟨ret_int HE.out.symm,(HK3.out.up.trans HK5.out.up).trans (HKK.out _ _ _),fun _=>fin2 Q5.out⟩
   ·have hxb:(x == 0)=false:=by simpa using hx
    have HE:=hid (show k=x by rw [← HX.out,if_pos hx])
    have HXX:=hid hx
    clear hx
    go_wp2_with fail
    go_ret
    refine⟨ret_int HE.out.symm,(HK3.out.up.trans HK5.out.up).trans (HKK.out _ _ _),fun h=>?_⟩
    rw [HE.out] at h;exact absurd h HXX.out
end Go.Proofs.YtnlkfbndlngjaaaGreat
namespace Go.Proofs.YtnlkfbndlngjaaaGreat
open Go.RowKit
theorem Ar.loadR_bad {A:Ar} {m i f:Int} (hm:¬ (m<0∨(A.many:Int)≤m)) (hk:A.lookR m i f≠0):A.loadR m i f=⟨A,.no,.no,A.lookR m i f⟩:=by
 unfold Ar.lookR at hk ⊢
 unfold Ar.loadR
 rw [if_neg hm]
 split
 ·rfl
 ·rename_i h1
  rw [if_neg h1] at hk
  split
  ·rfl
  ·rename_i h2
   rw [if_neg h2] at hk
   split
   ·rfl
   ·rename_i h3
    rw [if_neg h3] at hk
    exact absurd rfl hk
theorem Ar.loadR_ok {A:Ar} {m i f:Int} (hm:¬ (m<0∨(A.many:Int)≤m)) (hk:A.lookR m i f=0):A.loadR m i f=A.pushR m.toNat (A.H.loadR (A.rootR m i).1 f).1∧(A.H.loadR (A.rootR m i).1 f).1.nz=true:=by
 unfold Ar.lookR at hk
 unfold Ar.loadR
 rw [if_neg hm]
 split at hk
 ·rename_i h;exact absurd hk h
 ·rename_i h1
  rw [if_neg h1]
  split at hk
  ·rename_i h;exact absurd hk h
  ·rename_i h2
   rw [if_neg h2]
   split at hk
   ·cases hk
   ·rename_i h3
    rw [if_neg h3]
    exact⟨rfl,by simpa using h3⟩
theorem aload2 (Bv:Nat) (v:Rf) (w:World) (q:w.heap[Bv]?=some (.cells #[.int .i64 v.s,.int .u32 v.g] 34)):
 Calls Tryz.prog 203 #[.pointer (some ⟨Bv,0,none⟩)] w fun e w'=>e = .returned (.tuple #[v.val,.int .i64 0])∧Keeps (fun _=>False) w w':=by
 obtain⟨a0,a1,_,al⟩:=cells2 q
 clear q
 go_enter Tryz.func203,Tryz.ntmps203
 go_wp2_with fail
 refine bodyPost_ret_by (v:=.tuple #[v.val,.int .i64 0]) (by simp [results,Tryz.results203,go_sem,Rf.val, *]) rfl ⟨rfl,Keeps.fresh ?_⟩
 repeat (first | (with_reducible exact (Keeps.refl _ _)) | with_reducible refine Keeps.setCell ?_ ?_ _ | with_reducible refine Keeps.alloc ?_ _ | with_reducible refine Keeps.drewN ?_ _ | with_reducible refine Keeps.drew ?_)
 all_goals first | (left;simp;done) | (left;simp;omega) | (right;simp;done) | (right;simp;omega)
theorem aget2 (Bv:Nat) (v:Rf) (w:World) (q:w.heap[Bv]?=some (.cells #[.int .i64 v.s,.int .u32 v.g] 34)):
 Calls Tryz.prog 212 #[.pointer (some ⟨Bv,0,none⟩)] w fun e w'=>e = .returned (.tuple #[v.val,.int .i64 0])∧Keeps (fun _=>False) w w':=by
 obtain⟨a0,a1,_,al⟩:=cells2 q
 clear q
 go_enter Tryz.func212,Tryz.ntmps212
 go_wp2_with fail
 refine bodyPost_ret_by (v:=.tuple #[v.val,.int .i64 0]) (by simp [results,Tryz.results212,go_sem,Rf.val, *]) rfl ⟨rfl,Keeps.fresh ?_⟩
 repeat (first | (with_reducible exact (Keeps.refl _ _)) | with_reducible refine Keeps.setCell ?_ ?_ _ | with_reducible refine Keeps.alloc ?_ _ | with_reducible refine Keeps.drewN ?_ _ | with_reducible refine Keeps.drew ?_)
 all_goals first | (left;simp;done) | (left;simp;omega) | (right;simp;done) | (right;simp;omega)
theorem agive_name (a:Nat) (L:ArL) (A:Ar) (m:Nat) (k:Int) (v:Rf) (Bv f1 f2:Nat) (c1 c2:Array Value) (w:World) (h:ArIn w a L A) (hm:m<A.many) (hv:k=0→v.Ok) (hB:Bv<w.heap.size∧Bv≠L.ss m∧∀ {W W'},ArIn W a L A→Keeps (fun y=>y=Bv) W W'→ArIn W' a L A)
 (e1:∀ args w,(callFunc f1 args).run Tryz.prog w = .ok (.enter f1 args) w) (e2:∀ args w,(callFunc f2 args).run Tryz.prog w = .ok (.enter f2 args) w)
 (h1:∀ w1,Keeps (fun _=>False) w w1→Calls Tryz.prog f1 c1 w1 fun e w2=>e = .returned (.int .i64 k)∧Keeps (fun y=>y=Bv) w1 w2∧(k=0→w2.heap[Bv]?=some (.cells #[.int .i64 v.s,.int .u32 v.g] 34)))
 (h2:∀ w1,w1.heap[Bv]?=some (.cells #[.int .i64 v.s,.int .u32 v.g] 34)→Calls Tryz.prog f2 c2 w1 fun e w2=>e = .returned (.tuple #[v.val,.int .i64 0])∧Keeps (fun _=>False) w1 w2) (R:Res) (hR:R=if k≠0 then ⟨A,.no,.no,k⟩ else A.pushR m v):
 Calls Tryz.prog 103 #[.pointer (some ⟨a,0,none⟩),.int .i64 m,.func (.func f1) #[] c1,.func (.func f2) #[] c2] w fun e w'=>e = .returned (.tuple #[R.now.val,.int .i64 R.e])∧Keeps (fun y=>y=Bv∨y=L.ss m) w w'∧ArIn w' a L R.A:=by
 subst hR
 by_cases hk:k≠0
 ·rw [if_pos hk]
  refine (agive_look a L A m k f1 c1 _ (fun y=>y=Bv) w h hm hk (fun y hy=>by rw [hy];exact hB.1) e1 (fun w1 hk1=>(h1 w1 hk1).mono fun e w2 ⟨x1,x2,_⟩=>⟨x1,x2⟩)).mono ?_
  rintro e w' ⟨rfl,hk1⟩
  exact⟨rfl,hk1.mono (fun _ _ h=>.inl h),hB.2.2 h hk1⟩
 ·have hk0:k=0:=Decidable.not_not.1 hk
  rw [if_neg hk]
  subst hk0
  unfold Ar.pushR
  by_cases hr:32≤(A.rt m).n
  ·rw [if_pos hr]
   refine (agive_full a L A m f1 c1 _ (fun y=>y=Bv) w h hm hr (fun y hy=>by rw [hy];exact⟨hB.1,hB.2.1⟩) e1 (fun w1 hk1=>(h1 w1 hk1).mono fun e w2 ⟨x1,x2,_⟩=>⟨x1,x2⟩)).mono ?_
   rintro e w' ⟨rfl,hk1⟩
   exact⟨rfl,hk1.mono (fun _ _ h=>.inl h),hB.2.2 h hk1⟩
  ·rw [if_neg hr]
   refine (agive_ok a L A A m v f1 f2 c1 c2 (fun y=>y=Bv) (fun _=>False) (fun W=>W.heap[Bv]?=some (.cells #[.int .i64 v.s,.int .u32 v.g] 34)) w h hm (by omega) rfl rfl (hv rfl)
    (fun y hy=>by rw [hy];exact⟨hB.1,hB.2.1⟩) (fun y hy=>hy.elim) e1 e2 (fun w1 hk1=>(h1 w1 hk1).mono fun e w2 ⟨x1,x2,x3⟩=>⟨x1,x2,x3 rfl⟩) (fun w1 w2 q hk=>block_keep q hk (fun h=>h))
    (fun w1 hk1 q=>(h2 w1 q).mono fun e w2 ⟨x1,x2⟩=>⟨x1,x2,(hB.2.2 h hk1).keeps0 x2⟩)).mono ?_
   rintro e w' ⟨rfl,hk1,ha1⟩
   exact⟨rfl,hk1.mono (fun y _ h=>by rcases h with (h | h) | h;exact .inl h;exact h.elim;exact .inr h),ha1⟩
theorem ArIn.other {w:World} {a:Nat} {L:ArL} {A:Ar} (h:ArIn w a L A) {B:Nat} {c:Array Value} (hB:w.heap[B]?=some (.cells c 34)):(∀ m,m<A.many→B≠L.ss m)∧∀ {W W'},ArIn W a L A→Keeps (fun y=>y=B) W W'→ArIn W' a L A:=by
 obtain⟨⟨cx,hcx,_⟩,hox,⟨⟨cy,hcy,_⟩,⟨cz,hcz,_⟩,_,_⟩,⟨cg,hcg,_⟩,hst,_⟩:=id h
 refine⟨fun m hm=>?_,fun {W W'} hW hk=>hW.keeps hk ?_ ?_ ?_ ?_ ?_ ?_⟩
 ·obtain⟨cs,hcs,_⟩:=hst m hm
  exact type_ne hB hcs (by decide)
 ·exact type_ne hcx hB (by decide)
 ·exact type_ne hox hB (by decide)
 ·exact type_ne hcy hB (by decide)
 ·exact type_ne hcz hB (by decide)
 ·exact type_ne hcg hB (by decide)
 ·intro m hm
  obtain⟨cs,hcs,_⟩:=hst m hm
  exact type_ne hcs hB (by decide)
theorem aload_any (a:Nat) (L:ArL) (A:Ar) (m i f:Int) (w:World) (h:ArIn w a L A) (hok:A.Ok):
 Calls Tryz.prog 126 #[.pointer (some ⟨a,0,none⟩),.int .i64 m,.int .i64 i,.int .i64 f] w
  fun e w'=>e = .returned (.tuple #[(A.loadR m i f).now.val,.int .i64 (A.loadR m i f).e])∧Keeps (fun y=>L.foot A.many y) w w'∧ArIn w' a L (A.loadR m i f).A:=by
 obtain⟨R,hR⟩:∃ R,A.loadR m i f=R:=⟨_,rfl⟩
 have HBT:=hid (show L.Btw a R.A.many 0 w.heap.size by rw [← hR,(A.loadR_n m i f).2];exact h.btw)
 have HG:=hid (fun (w0:World) (Ba Bm Bi Bf Bv:Nat) (hk0:Keeps (fun _=>False) w w0) (q0:w0.heap[Ba]?=some (.cells #[.pointer (some ⟨a,0,none⟩)] 25)) (q1:w0.heap[Bm]?=some (.cells #[.int .i64 m] 3)) (q2:w0.heap[Bi]?=some (.cells #[.int .i64 i] 3)) (q3:w0.heap[Bf]?=some (.cells #[.int .i64 f] 3))
  (q4:w0.heap[Bv]?=some (.cells #[.int .i64 0,.int .u32 0] 34))=>
  show Calls Tryz.prog 103 #[.pointer (some ⟨a,0,none⟩),.int .i64 m,.func (.func 201) #[] #[.pointer (some ⟨Ba,0,none⟩),.pointer (some ⟨Bm,0,none⟩),.pointer (some ⟨Bi,0,none⟩),.pointer (some ⟨Bf,0,none⟩),.pointer (some ⟨Bv,0,none⟩)],
   .func (.func 203) #[] #[.pointer (some ⟨Bv,0,none⟩)]] w0 (fun e w'=>e = .returned (.tuple #[R.now.val,.int .i64 R.e])∧Keeps (fun y=>y=Bv∨L.foot A.many y) w0 w'∧ArIn w' a L R.A) from by
   have h0:=h.keeps0 hk0
   by_cases hm:m<0∨(A.many:Int)≤m
   ·have:R=⟨A,.no,.no,3⟩:=by rw [← hR];exact if_pos hm
    rw [this]
    exact (agive_m a L A m _ _ w0 h0 hm).mono fun e w' ⟨x1,x2⟩=>⟨x1,x2.up,h0.keeps0 x2⟩
   ·obtain⟨hss,hkp⟩:=h0.other q4
    obtain⟨j,rfl⟩:∃ j:Nat,m=j:=⟨m.toNat,by omega⟩
    have hj:j<A.many:=by omega
    refine (agive_name a L A j (A.lookR j i f) (A.H.loadR (A.rootR j i).1 f).1 Bv _ _ _ _ w0 h0 hj (fun hz=>(hok.field _ _).ok (Ar.loadR_ok hm hz).2) ⟨lt_block q4,hss j hj,hkp⟩ (enters_of Tryz.func201 (by kernel_rfl) rfl) (enters_of Tryz.func203 (by kernel_rfl) rfl)
     (fun w1 hk1=>aload1 a L A j i f Ba Bm Bi Bf Bv w1 (h0.keeps0 hk1) (block_keep q0 hk1 (fun h=>h)) (block_keep q1 hk1 (fun h=>h)) (block_keep q2 hk1 (fun h=>h)) (block_keep q3 hk1 (fun h=>h)) (block_keep q4 hk1 (fun h=>h)))
     (fun w1 q=>aload2 Bv _ w1 q) R ?_).mono fun e w' ⟨x1,x2,x3⟩=>⟨x1,x2.mono (fun y _ h=>by rcases h with h | h;exact .inl h;exact .inr (.inr (.inr (.inr ⟨j,hj,h⟩)))),x3⟩
    rw [← hR]
    split
    ·rename_i hz;exact Ar.loadR_bad hm hz
    ·rename_i hz
     have:=(Ar.loadR_ok hm (Decidable.not_not.1 hz)).1
     rw [Int.toNat_natCast] at this
     exact this)
 have hfl:∀ y,L.foot A.many y→y<w.heap.size:=fun y hy=>by
  have hb:=h.btw
  rcases hy with rfl | rfl | rfl | ⟨k,hk,rfl⟩
  ·exact hb.b.2
  ·exact hb.t.2
  ·exact hb.g.2
  ·exact (hb.ss k hk).2
 have HFL:=hid hfl
 rw [hR]
 clear h hok hR hfl
 go_enter Tryz.func126,Tryz.ntmps126
 go_wp2_with fail
 refine (HG.out _ _ _ _ _ _ (by repeat (first | exact Keeps.refl _ _ | apply Keeps.alloc | apply Keeps.drewN | apply Keeps.drew)) (alloc_old <| alloc_old <| alloc_old <| alloc_old <| alloc_old alloc_new) (alloc_old <| alloc_old <| alloc_old <| alloc_old <| alloc_new' (by simp)) (alloc_old <| alloc_old <| alloc_old <| alloc_new' (by simp)) (alloc_old <| alloc_old <| alloc_new' (by simp)) (alloc_new' (by simp))).mono ?_
 rintro e w1 ⟨rfl,hk1,ha1⟩
 dsimp only [Rf.val]
 obtain⟨a0,a1,af,al⟩:=cells2 (block_keep (b:=w.heap.size+1+1+1+1) (alloc_old (alloc_new' (by simp))) hk1 (fun h=>by rcases h with h | h;omega;have:=HFL.out _ h;omega))
 have f0:=af 0;have f1:=af 1
 have HK:=hid (((((((Keeps.refl (fun y=>L.foot A.many y∨w.heap.size≤y) w).alloc _).alloc _ |>.alloc _ |>.alloc _).alloc _).alloc _)).trans' hk1 (U:=fun y=>L.foot A.many y∨w.heap.size≤y) (fun _ _ h=>h) (fun y _ h=>by rcases h with h | h;exact .inr (by omega);exact .inl h))
 have HA:=hid ha1
 clear hk1 ha1 af
 go_wp2_with fail
 have kk:∀ (W:World) (u v:Value),Keeps (fun y=>y=w.heap.size+1+1+1+1) W ((W.setCell ⟨w.heap.size+1+1+1+1,0,none⟩ u).setCell ⟨w.heap.size+1+1+1+1,1,none⟩ v):=fun W u v=>(keeps_set1 _ _ _ _).trans (keeps_set1 _ _ _ _)
 refine bodyPost_ret_by (v:=.tuple #[R.now.val,.int .i64 R.e]) (by simp [results,Tryz.results126,go_sem,Rf.val, *]) rfl ⟨rfl,?_,HA.out.keepsB HBT.out ((kk _ _ _).mono (fun y _ h=>by omega))⟩
 exact (HK.out.trans' (kk _ _ _) (U:=fun y=>L.foot A.many y∨w.heap.size≤y) (fun _ _ h=>h) (fun y _ h=>.inr (by omega))).mono (fun y hy h=>by rcases h with h | h;exact h;omega)
end Go.Proofs.YtnlkfbndlngjaaaGreat
namespace Go.Proofs.YtnlkfbndlngjaaaGreat
open Go.RowKit
def Ar.lookG (A:Ar) (k:Int):Int:=if k<0∨8≤k then 3 else if (A.gl k.toNat).nz=false then 5 else 0
theorem aget1 (a:Nat) (L:ArL) (A:Ar) (k:Int) (Ba Bg Bv:Nat) (w:World) (h:ArIn w a L A)
 (q0:w.heap[Ba]?=some (.cells #[.pointer (some ⟨a,0,none⟩)] 25)) (q1:w.heap[Bg]?=some (.cells #[.int .i64 k] 3)) (q4:w.heap[Bv]?=some (.cells #[.int .i64 0,.int .u32 0] 34)):
 Calls Tryz.prog 210 #[.pointer (some ⟨Ba,0,none⟩),.pointer (some ⟨Bg,0,none⟩),.pointer (some ⟨Bv,0,none⟩)] w
  fun e w'=>e = .returned (.int .i64 (A.lookG k))∧Keeps (fun y=>y=Bv) w w'∧(A.lookG k=0→w'.heap[Bv]?=some (.cells #[.int .i64 (A.gl k.toNat).s,.int .u32 (A.gl k.toNat).g] 34)):=by
 have HL:Hid (∀ w',Keeps (fun _=>False) w w'→Calls Tryz.prog 211 #[.pointer (some ⟨L.g,0,none⟩),.int .i64 k] w' fun e w2=>e = .returned (.tuple #[.agg #[.int .i64 (if k<0∨8≤k then Rf.no else A.gl k.toNat).s,.int .u32 (if k<0∨8≤k then Rf.no else A.gl k.toNat).g],.int .i64 (if k<0∨8≤k then 3 else 0)])∧Keeps (fun _=>False) w' w2):=hid (fun w' hk=>by
  by_cases hb:k<0∨8≤k
  ·rw [if_pos hb,if_pos hb];exact glget_bad L.g A.gl k w' (h.gl.keeps hk (fun h=>h)) hb
  ·rw [if_neg hb,if_neg hb]
   obtain⟨j,rfl⟩:∃ j:Nat,k=j:=⟨k.toNat,by omega⟩
   rw [Int.toNat_natCast]
   exact glget_ok L.g A.gl j w' (h.gl.keeps hk (fun h=>h)) (by omega))
 obtain⟨⟨cx,hcx,hCx⟩,hox,_⟩:=id h
 have n0:Ba≠Bv:=type_ne q0 q4 (by decide)
 have n1:Bg≠Bv:=type_ne q1 q4 (by decide)
 have n4:a≠Bv:=type_ne hcx q4 (by decide)
 have HF:=hid (fun (w':World) (hk:Keeps (fun y=>y=Bv) w w')=>show (w'.cell? ⟨Ba,0,none⟩=some (.pointer (some ⟨a,0,none⟩))∧w'.cell? ⟨a,7,none⟩=some (.pointer (some ⟨L.g,0,none⟩))∧w'.cell? ⟨Bg,0,none⟩=some (.int .i64 k)) from⟨(cells1 (block_keep q0 hk n0)).1,cell_at (block_keep hcx hk n4) hCx.gl,(cells1 (block_keep q1 hk n1)).1⟩)
 have HV:=hid q4
 have lv:=lt_block q4
 obtain⟨kk,hkk⟩:∃ x,A.lookG k=x:=⟨_,rfl⟩
 have HX:=hid hkk
 rw [hkk]
 unfold Ar.lookG at HX
 obtain⟨v,hv⟩:∃ v,(if k<0∨8≤k then Rf.no else A.gl k.toNat)=v:=⟨_,rfl⟩
 obtain⟨x,hx⟩:∃ x,(if k<0∨8≤k then (3:Int) else 0)=x:=⟨_,rfl⟩
 rw [hv,hx] at HL
 have HVX:=hid (And.intro hv hx)
 obtain⟨c0,c1,c2⟩:=HF.out _ (Keeps.refl _ _)
 clear h q0 q1 q4 hcx hCx hox n0 n1 n4 hkk hv hx
 go_enter Tryz.func210,Tryz.ntmps210
 go_upto_region 2 with (fail)
 go_region_held3 (fun W=>W.cell? ⟨Ba,0,none⟩=some (.pointer (some ⟨a,0,none⟩))∧W.cell? ⟨a,7,none⟩=some (.pointer (some ⟨L.g,0,none⟩))∧W.cell? ⟨Bg,0,none⟩=some (.int .i64 k))
  ((refine HF.out _ ?_;(repeat (first | with_reducible exact Keeps.refl _ _ | with_reducible refine Keeps.alloc ?_ _ | with_reducible refine Keeps.drew ?_ | with_reducible refine Keeps.setCell ?_ (.inl ?_) _ | with_reducible refine Keeps.trans ?_ (Keeps.up (by with_reducible assumption)))) <;> rfl))
  (first | (go_at_call 211;refine (HL.out _ (Keeps.refl _ _).drew).mono ?_;rintro e w4 ⟨rfl,hk4⟩;have hk5:=(Keeps.drew (Keeps.refl (fun _=>False) w)).trans hk4;have q5:=block_keep HV.out hk5 (fun h=>h);obtain⟨a0,a1,af,al⟩:=cells2 q5;have f0:=af 0;have f1:=af 1;have Q5:=hid q5;clear q5))
 all_goals
  have HK5:=hid hk5
  clear hk4 hk5 c0 c1 c2
  have hkx:∀ (W:World) (u v:Value),Keeps (fun y=>y=Bv) W ((W.setCell ⟨Bv,0,none⟩ u).setCell ⟨Bv,1,none⟩ v):=fun W u v=>(keeps_set1 _ _ _ _).trans (keeps_set1 _ _ _ _)
  have HKK:=hid hkx
  clear hkx
  by_cases hb:k<0∨8≤k
  ·have hx3:x=3:=by rw [← HVX.out.2,if_pos hb]
   subst hx3
   have HE:=hid (show kk=3 by rw [← HX.out,if_pos hb])
   clear hb
   go_wp2_with fail
   go_ret
   refine⟨ret_int HE.out.symm,HK5.out.up.trans (HKK.out _ _ _),fun h=>?_⟩
   rw [HE.out] at h;cases h
  ·have hx0:x=0:=by rw [← HVX.out.2,if_neg hb]
   subst hx0
   have hvv:A.gl k.toNat=v:=by rw [← HVX.out.1,if_neg hb]
   rcases hn:v.nz with _ | _
   ·have ez:∀ w,Sem.run Tryz.prog (binOp .eql 34 (.agg #[.int .i64 v.s,.int .u32 v.g]) (.agg #[.int .i64 0,.int .u32 0])) w = .ok (.bool true) w:=fun w=>(eql_no v w).trans (by rw [hn];rfl)
    have HE:=hid (show kk=5 by rw [← HX.out,if_neg hb,hvv,if_pos hn])
    clear hn hb hvv
    go_wp2_with fail
    go_ret
    refine⟨ret_int HE.out.symm,HK5.out.up.trans (HKK.out _ _ _),fun h=>?_⟩
    rw [HE.out] at h;cases h
   ·have ez:∀ w,Sem.run Tryz.prog (binOp .eql 34 (.agg #[.int .i64 v.s,.int .u32 v.g]) (.agg #[.int .i64 0,.int .u32 0])) w = .ok (.bool false) w:=fun w=>(eql_no v w).trans (by rw [hn];rfl)
    have HE:=hid (show kk=0 by rw [← HX.out,if_neg hb,hvv,if_neg (by rw [hn];decide)])
    have HVV:=hid hvv
    clear hn hb hvv
    go_wp2_with fail
    go_ret
    exact⟨ret_int HE.out.symm,HK5.out.up.trans (HKK.out _ _ _),fun _=>by rw [HVV.out];exact fin2 Q5.out⟩
theorem ArIn.footlt {w:World} {a:Nat} {L:ArL} {A:Ar} (h:ArIn w a L A):∀ y,L.foot A.many y→y<w.heap.size:=fun y hy=>by
 have hb:=h.btw
 rcases hy with rfl | rfl | rfl | ⟨k,hk,rfl⟩
 ·exact hb.b.2
 ·exact hb.t.2
 ·exact hb.g.2
 ·exact (hb.ss k hk).2
theorem aget_any (a:Nat) (L:ArL) (A:Ar) (m k:Int) (w:World) (h:ArIn w a L A) (hok:A.Ok):
 Calls Tryz.prog 132 #[.pointer (some ⟨a,0,none⟩),.int .i64 m,.int .i64 k] w
  fun e w'=>e = .returned (.tuple #[(A.getR m k).now.val,.int .i64 (A.getR m k).e])∧Keeps (fun y=>L.foot A.many y) w w'∧ArIn w' a L (A.getR m k).A:=by
 obtain⟨R,hR⟩:∃ R,A.getR m k=R:=⟨_,rfl⟩
 have HBT:=hid (show L.Btw a R.A.many 0 w.heap.size by rw [← hR,(A.getR_n m k).2];exact h.btw)
 have HG:=hid (fun (w0:World) (Ba Bg Bv:Nat) (hk0:Keeps (fun _=>False) w w0) (q0:w0.heap[Ba]?=some (.cells #[.pointer (some ⟨a,0,none⟩)] 25)) (q1:w0.heap[Bg]?=some (.cells #[.int .i64 k] 3))
  (q4:w0.heap[Bv]?=some (.cells #[.int .i64 0,.int .u32 0] 34))=>
  show Calls Tryz.prog 103 #[.pointer (some ⟨a,0,none⟩),.int .i64 m,.func (.func 210) #[] #[.pointer (some ⟨Ba,0,none⟩),.pointer (some ⟨Bg,0,none⟩),.pointer (some ⟨Bv,0,none⟩)],
   .func (.func 212) #[] #[.pointer (some ⟨Bv,0,none⟩)]] w0 (fun e w'=>e = .returned (.tuple #[R.now.val,.int .i64 R.e])∧Keeps (fun y=>y=Bv∨L.foot A.many y) w0 w'∧ArIn w' a L R.A) from by
   have h0:=h.keeps0 hk0
   by_cases hm:m<0∨(A.many:Int)≤m
   ·have:R=⟨A,.no,.no,3⟩:=by rw [← hR];exact if_pos hm
    rw [this]
    exact (agive_m a L A m _ _ w0 h0 hm).mono fun e w' ⟨x1,x2⟩=>⟨x1,x2.up,h0.keeps0 x2⟩
   ·obtain⟨hss,hkp⟩:=h0.other q4
    obtain⟨j,rfl⟩:∃ j:Nat,m=j:=⟨m.toNat,by omega⟩
    have hj:j<A.many:=by omega
    refine (agive_name a L A j (A.lookG k) (A.gl k.toNat) Bv _ _ _ _ w0 h0 hj (fun hz=>?_) ⟨lt_block q4,hss j hj,hkp⟩ (enters_of Tryz.func210 (by kernel_rfl) rfl) (enters_of Tryz.func212 (by kernel_rfl) rfl)
     (fun w1 hk1=>aget1 a L A k Ba Bg Bv w1 (h0.keeps0 hk1) (block_keep q0 hk1 (fun h=>h)) (block_keep q1 hk1 (fun h=>h)) (block_keep q4 hk1 (fun h=>h)))
     (fun w1 q=>aget2 Bv _ w1 q) R ?_).mono fun e w' ⟨x1,x2,x3⟩=>⟨x1,x2.mono (fun y _ h=>by rcases h with h | h;exact .inl h;exact .inr (.inr (.inr (.inr ⟨j,hj,h⟩)))),x3⟩
    ·unfold Ar.lookG at hz
     split at hz
     ·cases hz
     ·split at hz
      ·cases hz
      ·rename_i h1 h2
       exact (hok.gl _ (by omega)).ok (by simpa using h2)
    ·rw [← hR]
     unfold Ar.lookG Ar.getR
     rw [if_neg hm]
     by_cases h1:k<0∨8≤k
     ·rw [if_pos h1,if_pos h1,if_pos (by decide)]
     ·rw [if_neg h1,if_neg h1]
      by_cases h2:(A.gl k.toNat).nz=false
      ·rw [if_pos h2,if_pos h2,if_pos (by decide)]
      ·rw [if_neg h2,if_neg h2,if_neg (by decide),Int.toNat_natCast])
 have HFL:=hid h.footlt
 rw [hR]
 clear h hok hR
 go_enter Tryz.func132,Tryz.ntmps132
 go_wp2_with fail
 refine (HG.out _ _ _ _ (by repeat (first | exact Keeps.refl _ _ | apply Keeps.alloc | apply Keeps.drewN | apply Keeps.drew)) (alloc_old <| alloc_old <| alloc_old alloc_new) (alloc_old <| alloc_old <| alloc_new' (by simp)) (alloc_new' (by simp))).mono ?_
 rintro e w1 ⟨rfl,hk1,ha1⟩
 dsimp only [Rf.val]
 obtain⟨a0,a1,af,al⟩:=cells2 (block_keep (b:=w.heap.size+1+1) (alloc_old (alloc_new' (by simp))) hk1 (fun h=>by rcases h with h | h;omega;have:=HFL.out _ h;omega))
 have f0:=af 0;have f1:=af 1
 have HK:=hid (((((Keeps.refl (fun y=>L.foot A.many y∨w.heap.size≤y) w).alloc _).alloc _ |>.alloc _ |>.alloc _)).trans' hk1 (U:=fun y=>L.foot A.many y∨w.heap.size≤y) (fun _ _ h=>h) (fun y _ h=>by rcases h with h | h;exact .inr (by omega);exact .inl h))
 have HA:=hid ha1
 clear hk1 ha1 af
 go_wp2_with fail
 have kk:∀ (W:World) (u v:Value),Keeps (fun y=>y=w.heap.size+1+1) W ((W.setCell ⟨w.heap.size+1+1,0,none⟩ u).setCell ⟨w.heap.size+1+1,1,none⟩ v):=fun W u v=>(keeps_set1 _ _ _ _).trans (keeps_set1 _ _ _ _)
 refine bodyPost_ret_by (v:=.tuple #[R.now.val,.int .i64 R.e]) (by simp [results,Tryz.results132,go_sem,Rf.val, *]) rfl ⟨rfl,?_,HA.out.keepsB HBT.out ((kk _ _ _).mono (fun y _ h=>by omega))⟩
 exact (HK.out.trans' (kk _ _ _) (U:=fun y=>L.foot A.many y∨w.heap.size≤y) (fun _ _ h=>h) (fun y _ h=>.inr (by omega))).mono (fun y hy h=>by rcases h with h | h;exact h;omega)
end Go.Proofs.YtnlkfbndlngjaaaGreat
