import Derived.Test.YtnlkfbndlngjaaaGreatMgT
set_option maxHeartbeats 4000000
set_option maxRecDepth 100000
namespace Go.Proofs.YtnlkfbndlngjaaaGreat
open Go.RowKit
theorem aput_e1 (a:Nat) (L:ArL) (A:Ar) (m i k:Int) (w:World) (h:ArIn w a L A) (hk:(A.valueR m i).2≠0):
 Calls Tryz.prog 130 #[.pointer (some ⟨a,0,none⟩),.int .i64 m,.int .i64 i,.int .i64 k] w
  fun e w'=>e = .returned (.tuple #[Rf.no.val,Rf.no.val,.int .i64 (A.valueR m i).2])∧Keeps (fun _=>False) w w':=by
 have HR:=hid (fun (w':World) (hk:Keeps (fun _=>False) w w')=>avalue_any a L A m i w' (h.keeps0 hk))
 obtain⟨⟨r,x⟩,hr⟩:∃ x,A.valueR m i=x:=⟨_,rfl⟩
 rw [hr] at HR hk ⊢
 dsimp only at HR hk ⊢
 have hkb:(x != 0)=true:=by rw [bne_iff_ne];exact hk
 clear h hr hk
 go_enter Tryz.func130,Tryz.ntmps130
 go_wp2_with fail
 refine (HR.out _ (by repeat (first | exact Keeps.refl _ _ | apply Keeps.alloc | apply Keeps.drewN | apply Keeps.drew))).mono ?_
 rintro e w1 ⟨rfl,hk1⟩
 dsimp only [Rf.val]
 have HK1:=hid ((((Keeps.refl (fun _=>False) w).alloc _).alloc _).trans hk1)
 obtain⟨p0,p1,pf,pl⟩:=cells2 (block_keep (alloc_old (alloc_new (w:=w))) hk1 (fun h=>h))
 obtain⟨q0,q1,qf,ql⟩:=cells2 (block_keep (alloc_new' (w:=w.alloc _) (n:=w.heap.size+1) (by simp)) hk1 (fun h=>h))
 have pf0:=pf 0;have pf1:=pf 1;have qf0:=qf 0;have qf1:=qf 1
 clear hk1 pf qf
 go_wp2_with fail
 refine bodyPost_ret_by (v:=.tuple #[Rf.no.val,Rf.no.val,.int .i64 x]) (by simp [results,Tryz.results130,go_sem,Rf.val,Rf.no, *]) rfl ⟨rfl,Keeps.fresh ?_⟩
 repeat (first | (with_reducible exact HK1.out.up) | with_reducible refine Keeps.setCell ?_ ?_ _ | with_reducible refine Keeps.alloc ?_ _ | with_reducible refine Keeps.drewN ?_ _ | with_reducible refine Keeps.drew ?_)
 all_goals first | (left;simp;done) | (left;simp;omega) | (right;simp;done) | (right;simp;omega)
theorem ArIn.setG {w w':World} {a:Nat} {L:ArL} {A:Ar} (h:ArIn w a L A) {f:Nat→Rf} (hk:Keeps (fun y=>y=L.g) w w') (hG:GlAt w' L.g f):ArIn w' a L { A with gl:=f }:=by
 obtain⟨⟨cx,hcx,hCx⟩,hox,hhp,⟨cg,hcg,hCg⟩,hst,hij,m1,m4⟩:=h
 obtain⟨⟨cy,hcy,hCy⟩,⟨cz,hcz,hCz⟩,hne,hgd⟩:=id hhp
 refine⟨⟨cx,block_keep hcx hk (type_ne hcx hcg (by decide)),hCx⟩,block_keep hox hk (type_ne hox hcg (by decide)),hhp.keeps hk (type_ne hcy hcg (by decide)) (type_ne hcz hcg (by decide)),hG,fun m hm=>?_,hij,m1,m4⟩
 obtain⟨cs,hcs,hCs⟩:=hst m hm
 exact⟨cs,block_keep hcs hk (type_ne hcs hcg (by decide)),hCs⟩
theorem aput_e2 (a:Nat) (L:ArL) (A:Ar) (m i k:Int) (w:World) (h:ArIn w a L A) (hok:A.Ok) (hk0:(A.valueR m i).2=0) (R:Res)
 (hR:R=if k<0∨8≤k then ⟨A,.no,.no,3⟩ else ⟨{ A with gl:=updf A.gl k.toNat (A.valueR m i).1 },A.gl k.toNat,(A.valueR m i).1,0⟩):
 Calls Tryz.prog 130 #[.pointer (some ⟨a,0,none⟩),.int .i64 m,.int .i64 i,.int .i64 k] w
  fun e w'=>e = .returned (.tuple #[R.was.val,R.now.val,.int .i64 R.e])∧Keeps (fun y=>y=L.g) w w'∧ArIn w' a L R.A:=by
 have hvf:=hok.value m i
 have HV:=hid (fun (w':World) (hk:Keeps (fun _=>False) w w')=>avalue_any a L A m i w' (h.keeps0 hk))
 rw [hk0] at HV
 obtain⟨v,hv⟩:∃ x,(A.valueR m i).1=x:=⟨_,rfl⟩
 rw [hv] at HV hR hvf
 obtain⟨u,hu⟩:∃ u,(if k<0∨8≤k then Rf.no else A.gl k.toNat)=u:=⟨_,rfl⟩
 obtain⟨x,hx⟩:∃ x,(if k<0∨8≤k then (3:Int) else 0)=x:=⟨_,rfl⟩
 obtain⟨G,hG⟩:∃ G,(if k<0∨8≤k then A.gl else updf A.gl k.toNat v)=G:=⟨_,rfl⟩
 have HS:Hid (∀ w',Keeps (fun _=>False) w w'→Calls Tryz.prog 209 #[.pointer (some ⟨L.g,0,none⟩),.int .i64 k,.agg #[.int .i64 v.s,.int .u32 v.g]] w' fun e w2=>e = .returned (.tuple #[u.val,.int .i64 x])∧Keeps (fun y=>y=L.g) w' w2∧GlAt w2 L.g G):=hid (fun w' hk=>by
  have h0:=h.keeps0 hk
  rw [← hu,← hx,← hG]
  by_cases hb:k<0∨8≤k
  ·rw [if_pos hb,if_pos hb,if_pos hb]
   exact (glput_bad L.g A.gl k v w' h0.gl hb hvf).mono fun e w2 ⟨x1,x2⟩=>⟨x1,x2.up,h0.gl.keeps x2 (fun h=>h)⟩
  ·rw [if_neg hb,if_neg hb,if_neg hb]
   obtain⟨j,rfl⟩:∃ j:Nat,k=j:=⟨k.toNat,by omega⟩
   rw [Int.toNat_natCast]
   exact glput_ok L.g A.gl j v w' h0.gl (by omega) hvf)
 have hRx:(x≠0→R=⟨{ A with gl:=G },.no,.no,x⟩)∧(x=0→R=⟨{ A with gl:=G },u,v,0⟩):=by
  rw [← hx,← hG,← hu,hR]
  by_cases hb:k<0∨8≤k
  ·rw [if_pos hb,if_pos hb,if_pos hb,if_pos hb]
   exact⟨fun _=>rfl,fun h=>by cases h⟩
  ·rw [if_neg hb,if_neg hb,if_neg hb,if_neg hb]
   exact⟨fun h=>absurd rfl h,fun _=>rfl⟩
 have HA:=hid (fun (w' w2:World) (k1:Keeps (fun _=>False) w w') (k2:Keeps (fun y=>y=L.g) w' w2) (hH:GlAt w2 L.g G)=>(h.keeps0 k1).setG k2 hH)
 have HBT:=hid h.btw
 have hgl:=h.gl.lt
 obtain⟨⟨cx,hcx,hCx⟩,_,_,⟨cg,hcg,_⟩,_⟩:=id h
 have n1:a≠L.g:=type_ne hcx hcg (by decide)
 have la:=lt_block hcx
 have HF:=hid (fun (w':World) (hk':Keeps (fun y=>y=L.g∨w.heap.size≤y) w w')=>cell_at (block_keep hcx hk' (fun h=>by rcases h with h | h;exact n1 h;omega)) hCx.gl)
 have HRR:=hid hRx
 clear h hok hv hvf hx hu hG hcx hCx hcg n1 hk0 hR hRx
 go_enter Tryz.func130,Tryz.ntmps130
 go_wp2_with fail
 refine (HV.out _ (by repeat (first | exact Keeps.refl _ _ | apply Keeps.alloc | apply Keeps.drewN | apply Keeps.drew))).mono ?_
 rintro e w1 ⟨rfl,hk1⟩
 dsimp only [Rf.val]
 have HK1:=hid ((((Keeps.refl (fun _=>False) w).alloc _).alloc _).trans hk1)
 have HP1:=hid (block_keep (alloc_old (alloc_new (w:=w))) hk1 (fun h=>h))
 have HQ1:=hid (block_keep (alloc_new' (w:=w.alloc _) (n:=w.heap.size+1) (by simp)) hk1 (fun h=>h))
 clear hk1
 go_upto_region 4 with (fail)
 obtain⟨w3,hw3⟩:∃ w3,w1.alloc (.cells #[.int .i64 v.s,.int .u32 v.g] 34)=w3:=⟨_,rfl⟩
 have p3:w3.heap[w1.heap.size]?=some (.cells #[.int .i64 v.s,.int .u32 v.g] 34):=by rw [← hw3];exact alloc_new
 have k3:Keeps (fun _=>False) w1 w3:=by rw [← hw3];exact (Keeps.refl _ _).alloc _
 rw [hw3]
 have HV3:=hid p3;have HK3:=hid (HK1.out.trans k3)
 have HP3:=hid (block_keep HP1.out k3 (fun h=>h));have HQ3:=hid (block_keep HQ1.out k3 (fun h=>h))
 have hz1:=lt_block HQ1.out
 clear hw3 p3 k3 HK1 HP1 HQ1
 go_cut [12,13] (fun s12 s13 wx=>∃ B,s12 = .int .i64 x∧s13 = .pointer (some ⟨B,0,none⟩)∧w3.heap.size≤B∧Keeps (fun y=>y=L.g) w3 wx∧GlAt wx L.g G∧wx.heap[B]?=some (.cells #[.int .i64 u.s,.int .u32 u.g] 34))
 case first=>
  have hz3:=HK3.out.size
  have HSK:=hid (fun (W:World) (hk:Keeps (fun y=>y=L.g∨w3.heap.size≤y) w3 W)=>
   And.intro (HF.out _ (HK3.out.up.trans' hk (U:=fun y=>y=L.g∨w.heap.size≤y) (fun _ _ h=>h) (fun y hy h=>by rcases h with h | h;exact .inl h;exact .inr (by omega))))
   (And.intro (cells2 (block_keep HV3.out hk (fun h=>by have:=lt_block HV3.out;rcases h with h | h <;> omega))).1 (cells2 (block_keep HV3.out hk (fun h=>by have:=lt_block HV3.out;rcases h with h | h <;> omega))).2.1))
  have hgl3:L.g<w3.heap.size:=by omega
  go_region_held3 (fun W=>W.cell? ⟨a,7,none⟩=some (.pointer (some ⟨L.g,0,none⟩))∧W.cell? ⟨w1.heap.size,0,none⟩=some (.int .i64 v.s)∧W.cell? ⟨w1.heap.size,1,none⟩=some (.int .u32 v.g))
   ((refine HSK.out _ ?_;(repeat (first | with_reducible exact Keeps.refl _ _ | with_reducible refine Keeps.alloc ?_ _ | with_reducible refine Keeps.drew ?_ | with_reducible refine Keeps.setCell ?_ (.inl (.inr ?_)) _ | with_reducible assumption | with_reducible refine Keeps.trans ?_ (Keeps.mono (by assumption) (fun _ _ h=>Or.inl h)))) <;> (dsimp only;omega)))
   (first | (go_at_call 209;refine (HS.out _ (by first | exact HK3.out.drew | exact (HK3.out.alloc _).drew)).mono ?_;rintro e w4 ⟨rfl,hk4,hh4⟩;dsimp only [Rf.val];have hsz4:=((Keeps.drew (Keeps.refl (fun y=>y=L.g) _)).trans hk4).size;(try simp only [World.size_alloc] at hsz4);(first | (have nab:=block_keep (alloc_new (w:=w3)) ((Keeps.drew (Keeps.refl (fun y=>y=L.g) _)).trans hk4) (fun h=>by omega);have nax:=cells2 nab;obtain⟨na0,na1,naf,nat⟩:=nax;have naf0:=naf 0;have naf1:=naf 1) | skip)))
  all_goals
   go_wp2_with fail
   go_meet
   refine⟨_,rfl,rfl,by omega,?_,?_,?_⟩
   ·refine Keeps.mono (S:=fun y=>y=L.g∨w3.heap.size≤y) ?_ (fun y hy h=>by rcases h with h | h;exact h;omega)
    (repeat (first | with_reducible exact Keeps.refl _ _ | with_reducible refine Keeps.alloc ?_ _ | with_reducible refine Keeps.drew ?_ | with_reducible refine Keeps.setCell ?_ (.inl (.inr ?_)) _ | with_reducible refine Keeps.trans ?_ (Keeps.mono hk4 (fun _ _ h=>Or.inl h)))) <;> (dsimp only;omega)
   ·refine hh4.keeps (S:=fun y=>w3.heap.size≤y) ?_ (by omega)
    (repeat (first | with_reducible exact Keeps.refl _ _ | with_reducible refine Keeps.alloc ?_ _ | with_reducible refine Keeps.drew ?_ | with_reducible refine Keeps.setCell ?_ (.inl ?_) _)) <;> (dsimp only;omega)
   ·try dsimp only [Ob.arr]
    repeat (first | (with_reducible assumption) | (with_reducible refine alloc_new' ?_;simp;done) | (with_reducible refine alloc_old ?_) | (with_reducible apply fin10) | (with_reducible apply fin2) | (with_reducible refine set_oth2 ?_ ?_;focus (first | (simp;done) | (dsimp only;omega))))
 case rest=>
  obtain⟨B,rfl,rfl,hB,hk4,hh4,hq4⟩:=hcut
  obtain⟨b0,b1,_,bl⟩:=cells2 hq4
  obtain⟨p0,p1,pf,pl⟩:=cells2 (block_keep HP3.out hk4 (by omega))
  obtain⟨q0,q1,qf,ql⟩:=cells2 (block_keep HQ3.out hk4 (by omega))
  obtain⟨v0,v1,_,vl⟩:=cells2 (block_keep HV3.out hk4 (by have:=lt_block HV3.out;omega))
  have pf0:=pf 0;have pf1:=pf 1;have qf0:=qf 0;have qf1:=qf 1
  have HA4:=hid (HA.out _ _ HK3.out hk4 hh4)
  have HK4:=hid (HK3.out.up.trans hk4)
  have hz3:=HK3.out.size
  have hv3:=lt_block HV3.out
  have e1:w1.heap.size≠w.heap.size:=by omega
  have e2:w1.heap.size≠w.heap.size+1:=by omega
  have e3:B≠w.heap.size:=by omega
  have e4:B≠w.heap.size+1:=by omega
  have e1':=e1.symm;have e2':=e2.symm;have e3':=e3.symm;have e4':=e4.symm
  have kk:∀ (W:World) (u0 u1 u2 u3:Value),Keeps (fun y=>y=w.heap.size∨y=w.heap.size+1) W ((((W.setCell ⟨w.heap.size,0,none⟩ u0).setCell ⟨w.heap.size,1,none⟩ u1).setCell ⟨w.heap.size+1,0,none⟩ u2).setCell ⟨w.heap.size+1,1,none⟩ u3):=fun W u0 u1 u2 u3=>
   ((((Keeps.refl _ _).setCell (p:=⟨w.heap.size,0,none⟩) (.inl (.inl rfl)) u0).setCell (p:=⟨w.heap.size,1,none⟩) (.inl (.inl rfl)) u1).setCell (p:=⟨w.heap.size+1,0,none⟩) (.inl (.inr rfl)) u2).setCell (p:=⟨w.heap.size+1,1,none⟩) (.inl (.inr rfl)) u3
  have KK:=hid kk
  clear hq4 hk4 hh4 pf qf kk
  by_cases hx:x=0
  ·subst hx
   have HRX:=hid (HRR.out.2 rfl)
   go_upto_region 7 with (fail)
   go_region
   all_goals
    go_wp2_with fail
    have kd:=fun W u0 u1 u2 u3=>(KK.out W u0 u1 u2 u3).drew
    refine bodyPost_ret_by (v:=.tuple #[u.val,v.val,.int .i64 0]) (by simp [results,Tryz.results130,go_sem,Rf.val, *]) rfl ⟨by rw [HRX.out],?_,by rw [HRX.out];exact HA4.out.keepsB HBT.out ((kd _ _ _ _ _).mono (fun y _ h=>by rcases h with h | h <;> omega))⟩
    exact (HK4.out.trans' (kd _ _ _ _ _) (U:=fun y=>y=L.g∨w.heap.size≤y) (fun _ _ h=>.inl h) (fun y _ h=>.inr (by rcases h with h | h <;> omega))).mono (fun y hy h=>by rcases h with h | h;exact h;omega)
  ·have hxb:(x != 0)=true:=by rw [bne_iff_ne];exact hx
   have HRX:=hid (HRR.out.1 hx)
   clear hx
   go_wp2_with fail
   refine bodyPost_ret_by (v:=.tuple #[Rf.no.val,Rf.no.val,.int .i64 x]) (by simp [results,Tryz.results130,go_sem,Rf.val,Rf.no, *]) rfl ⟨by rw [HRX.out],?_,by rw [HRX.out];exact HA4.out.keepsB HBT.out ((KK.out _ _ _ _ _).mono (fun y _ h=>by rcases h with h | h <;> omega))⟩
   exact (HK4.out.trans' (KK.out _ _ _ _ _) (U:=fun y=>y=L.g∨w.heap.size≤y) (fun _ _ h=>.inl h) (fun y _ h=>.inr (by rcases h with h | h <;> omega))).mono (fun y hy h=>by rcases h with h | h;exact h;omega)
theorem aput_any (a:Nat) (L:ArL) (A:Ar) (m i k:Int) (w:World) (h:ArIn w a L A) (hok:A.Ok):
 Calls Tryz.prog 130 #[.pointer (some ⟨a,0,none⟩),.int .i64 m,.int .i64 i,.int .i64 k] w
  fun e w'=>e = .returned (.tuple #[(A.putR m i k).was.val,(A.putR m i k).now.val,.int .i64 (A.putR m i k).e])∧Keeps (fun y=>L.foot A.many y) w w'∧ArIn w' a L (A.putR m i k).A:=by
 by_cases h1:(A.valueR m i).2≠0
 ·rw [show A.putR m i k=⟨A,.no,.no,(A.valueR m i).2⟩ from if_pos h1]
  exact (aput_e1 a L A m i k w h h1).mono fun e w' ⟨x1,x2⟩=>⟨x1,x2.up,h.keeps0 x2⟩
 ·exact (aput_e2 a L A m i k w h hok (Decidable.not_not.1 h1) (A.putR m i k) (if_neg h1)).mono fun e w' ⟨x1,x2,x3⟩=>⟨x1,x2.mono (fun y _ h=>.inr (.inr (.inl h))),x3⟩
end Go.Proofs.YtnlkfbndlngjaaaGreat
