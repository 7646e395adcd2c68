import Derived.Test.YtjfmagccmjdhoaaGreatRfO
import Derived.Test.YtjfmagccmjdhoaaGreatRiR
import Derived.Deep.RegionHeldLaw
set_option maxHeartbeats 4000000
set_option maxRecDepth 100000
namespace Go.Proofs.YtjfmagccmjdhoaaGreat
open Go.RowKit
theorem aput_e1 (a:Nat) (L:ArL) (A:Ar) (m i k:Int) (w:World) (h:ArIn w a L A) (hk:(A.valueR m i).2≠0):
 Calls Tryz.prog 40 #[.pointer (some ⟨a,0,none⟩),.int .i64 m,.int .i64 i,.int .i64 k] w
  fun e w'=>e = .returned (.tuple #[Rf.no.val,Rf.no.val,.int .i64 (A.valueR m i).2])∧Kz w w':=by
 have HR:=zC (fun (w':World) (hk:Kz w w')=>avalue_any a L A m i w' (h.keeps0 hk))
 obtain⟨⟨r,x⟩,hr⟩:∃ x,A.valueR m i=x:=⟨_,rfl⟩
 rw [hr] at HR hk ⊢
 dsimp only at HR hk ⊢
 have hkb:(x != 0)=true:=by rw [bne_iff_ne];exact hk
 clear h hr hk
 go_in
 go_wp2_with fail
 refine zQ (HR.out _ (by repeat (first | exact zA.refl _ _ | apply zA.alloc | apply zA.drewN | apply zA.drew))) fun w1 hk1=>?_
 dsimp only [Rf.val]
 have HK1:=zC ((((zA.refl (fun _=>False) w).alloc _).alloc _).trans hk1)
 obtain⟨p0,p1,pf,pl⟩:=zK (zB (zG (zE (w:=w))) hk1 (fun h=>h))
 obtain⟨q0,q1,qf,ql⟩:=zK (zB (zN (w:=w.alloc _) (n:=w.heap.size+1) (by simp)) hk1 (fun h=>h))
 have pf0:=pf 0;have pf1:=pf 1;have qf0:=qf 0;have qf1:=qf 1
 clear hk1 pf qf
 go_wp2_with fail
 refine bodyPost_ret_by (v:=.tuple #[Rf.no.val,Rf.no.val,.int .i64 x]) (by simp [results,Tryz.results40,go_sem,Rf.val,Rf.no, *]) rfl ⟨rfl,zA.fresh ?_⟩
 exact zA.c HK1.out.up
theorem ArIn.setG {w w':World} {a:Nat} {L:ArL} {A:Ar} (h:ArIn w a L A) {f:Nat→Rf} (hk:zA (fun y=>y=L.g) w w') (hG:GlAt w' L.g f):ArIn w' a L { A with gl:=f }:=by
 obtain⟨⟨cx,hcx,hCx⟩,hox,hhp,⟨cg,hcg,hCg⟩,hst,hij,m1,m4⟩:=h
 obtain⟨⟨cy,hcy,hCy⟩,⟨cz,hcz,hCz⟩,hne,hgd⟩:=id hhp
 refine⟨⟨cx,zB hcx hk (zM hcx hcg (by decide)),hCx⟩,zB hox hk (zM hox hcg (by decide)),hhp.keeps hk (zM hcy hcg (by decide)) (zM hcz hcg (by decide)),hG,fun m hm=>?_,hij,m1,m4⟩
 obtain⟨cs,hcs,hCs⟩:=hst m hm
 exact⟨cs,zB hcs hk (zM hcs hcg (by decide)),hCs⟩
theorem aput_e2 (a:Nat) (L:ArL) (A:Ar) (m i k:Int) (w:World) (h:ArIn w a L A) (hok:A.Ok) (hk0:(A.valueR m i).2=0) (R:Res)
 (hR:R=if k<0∨8≤k then ⟨A,.no,.no,3⟩ else ⟨{ A with gl:=zU A.gl k.toNat (A.valueR m i).1 },A.gl k.toNat,(A.valueR m i).1,0⟩):
 Calls Tryz.prog 40 #[.pointer (some ⟨a,0,none⟩),.int .i64 m,.int .i64 i,.int .i64 k] w
  fun e w'=>e = .returned (.tuple #[R.was.val,R.now.val,.int .i64 R.e])∧zA (fun y=>y=L.g) w w'∧ArIn w' a L R.A:=by
 have hvf:=hok.value m i
 have HV:=zC (fun (w':World) (hk:Kz w w')=>avalue_any a L A m i w' (h.keeps0 hk))
 rw [hk0] at HV
 obtain⟨v,hv⟩:∃ x,(A.valueR m i).1=x:=⟨_,rfl⟩
 rw [hv] at HV hR hvf
 obtain⟨u,hu⟩:∃ u,(if k<0∨8≤k then Rf.no else A.gl k.toNat)=u:=⟨_,rfl⟩
 obtain⟨x,hx⟩:∃ x,(if k<0∨8≤k then (3:Int) else 0)=x:=⟨_,rfl⟩
 obtain⟨G,hG⟩:∃ G,(if k<0∨8≤k then A.gl else zU A.gl k.toNat v)=G:=⟨_,rfl⟩
 have HS:Hid (∀ w',Kz w w'→Calls Tryz.prog 105 #[.pointer (some ⟨L.g,0,none⟩),.int .i64 k,.agg #[.int .i64 v.s,.int .u32 v.g]] w' fun e w2=>e = .returned (.tuple #[u.val,.int .i64 x])∧zA (fun y=>y=L.g) w' w2∧GlAt w2 L.g G):=zC (fun w' hk=>by
  have h0:=h.keeps0 hk
  rw [← hu,← hx,← hG]
  by_cases hb:k<0∨8≤k
  ·rw [if_pos hb,if_pos hb,if_pos hb]
   exact (glput_bad L.g A.gl k v w' h0.gl hb hvf).mono fun e w2 ⟨x1,x2⟩=>⟨x1,x2.up,h0.gl.keeps x2 (fun h=>h)⟩
  ·rw [if_neg hb,if_neg hb,if_neg hb]
   obtain⟨j,rfl⟩:∃ j:Nat,k=j:=⟨k.toNat,by omega⟩
   rw [Int.toNat_natCast]
   exact glput_ok L.g A.gl j v w' h0.gl (by omega) hvf)
 have hRx:(x≠0→R=⟨{ A with gl:=G },.no,.no,x⟩)∧(x=0→R=⟨{ A with gl:=G },u,v,0⟩):=by
  rw [← hx,← hG,← hu,hR]
  by_cases hb:k<0∨8≤k
  ·rw [if_pos hb,if_pos hb,if_pos hb,if_pos hb]
   exact⟨fun _=>rfl,fun h=>by cases h⟩
  ·rw [if_neg hb,if_neg hb,if_neg hb,if_neg hb]
   exact⟨fun h=>absurd rfl h,fun _=>rfl⟩
 have HA:=zC (fun (w' w2:World) (k1:Kz w w') (k2:zA (fun y=>y=L.g) w' w2) (hH:GlAt w2 L.g G)=>(h.keeps0 k1).setG k2 hH)
 have HBT:=zC h.btw
 have hgl:=h.gl.lt
 obtain⟨⟨cx,hcx,hCx⟩,_,_,⟨cg,hcg,_⟩,_⟩:=id h
 have n1:a≠L.g:=zM hcx hcg (by decide)
 have la:=zF hcx
 have HF:=zC (fun (w':World) (hk':zA (fun y=>y=L.g∨w.heap.size≤y) w w')=>zD (zB hcx hk' (fun h=>by rcases h with h | h;exact n1 h;omega)) hCx.gl)
 have HRR:=zC hRx
 clear h hok hv hvf hx hu hG hcx hCx hcg n1 hk0 hR hRx
 go_in
 go_wp2_with fail
 refine zQ (HV.out _ (by repeat (first | exact zA.refl _ _ | apply zA.alloc | apply zA.drewN | apply zA.drew))) fun w1 hk1=>?_
 dsimp only [Rf.val]
 have HK1:=zC ((((zA.refl (fun _=>False) w).alloc _).alloc _).trans hk1)
 have HP1:=zC (zB (zG (zE (w:=w))) hk1 (fun h=>h))
 have HQ1:=zC (zB (zN (w:=w.alloc _) (n:=w.heap.size+1) (by simp)) hk1 (fun h=>h))
 clear hk1
 go_upto_region 4 with (fail)
 obtain⟨w3,hw3⟩:∃ w3,w1.alloc (.cells #[.int .i64 v.s,.int .u32 v.g] 51)=w3:=⟨_,rfl⟩
 have p3:w3.heap[w1.heap.size]?=some (.cells #[.int .i64 v.s,.int .u32 v.g] 51):=by rw [← hw3];exact zE
 have k3:Kz w1 w3:=by rw [← hw3];exact (zA.refl _ _).alloc _
 rw [hw3]
 have HV3:=zC p3;have HK3:=zC (HK1.out.trans k3)
 have HP3:=zC (zB HP1.out k3 (fun h=>h));have HQ3:=zC (zB HQ1.out k3 (fun h=>h))
 have hz1:=zF HQ1.out
 clear hw3 p3 k3 HK1 HP1 HQ1
 go_cut [12,13] (fun s12 s13 wx=>∃ B,s12 = .int .i64 x∧s13 = .pointer (some ⟨B,0,none⟩)∧w3.heap.size≤B∧zA (fun y=>y=L.g) w3 wx∧GlAt wx L.g G∧wx.heap[B]?=some (.cells #[.int .i64 u.s,.int .u32 u.g] 51))
 case first=>
  have hz3:=HK3.out.size
  have HSK:=zC (fun (W:World) (hk:zA (fun y=>y=L.g∨w3.heap.size≤y) w3 W)=>
   And.intro (HF.out _ (HK3.out.up.trans' hk (U:=fun y=>y=L.g∨w.heap.size≤y) (fun _ _ h=>h) (fun y hy h=>by rcases h with h | h;exact .inl h;exact .inr (by omega))))
   (And.intro (zK (zB HV3.out hk (fun h=>by have:=zF HV3.out;rcases h with h | h <;> omega))).1 (zK (zB HV3.out hk (fun h=>by have:=zF HV3.out;rcases h with h | h <;> omega))).2.1))
  have hgl3:L.g<w3.heap.size:=by omega
  go_region_held3 (fun W=>W.cell? ⟨a,7,none⟩=some (.pointer (some ⟨L.g,0,none⟩))∧W.cell? ⟨w1.heap.size,0,none⟩=some (.int .i64 v.s)∧W.cell? ⟨w1.heap.size,1,none⟩=some (.int .u32 v.g))
   ((refine HSK.out _ ?_;(with_reducible repeat first | exact zA.refl _ _ | refine zA.alloc ?_ _ | refine zA.drew ?_ | refine zA.setCell ?_ (.inl (.inr ?_)) _ | assumption | refine zA.trans ?_ (zA.mono (by assumption) (fun _ _ h=>Or.inl h))) <;> (dsimp only;omega)))
   (first | (go_at_call 105;refine (HS.out _ (by first | exact HK3.out.drew | exact (HK3.out.alloc _).drew)).mono ?_;rintro e w4 ⟨rfl,hk4,hh4⟩;dsimp only [Rf.val];have hsz4:=((zA.drew (zA.refl (fun y=>y=L.g) _)).trans hk4).size;(try simp only [World.size_alloc] at hsz4);(first | (have nab:=zB (zE (w:=w3)) ((zA.drew (zA.refl (fun y=>y=L.g) _)).trans hk4) (fun h=>by omega);have nax:=zK nab;obtain⟨na0,na1,naf,nat⟩:=nax;have naf0:=naf 0;have naf1:=naf 1) | skip)))
  all_goals
   go_wp2_with fail
   go_meet
   refine⟨_,rfl,rfl,by omega,?_,?_,?_⟩
   ·refine zA.mono (S:=fun y=>y=L.g∨w3.heap.size≤y) ?_ (fun y hy h=>by rcases h with h | h;exact h;omega)
    (with_reducible repeat first | exact zA.refl _ _ | refine zA.alloc ?_ _ | refine zA.drew ?_ | refine zA.setCell ?_ (.inl (.inr ?_)) _ | refine zA.trans ?_ (zA.mono hk4 (fun _ _ h=>Or.inl h))) <;> (dsimp only;omega)
   ·refine hh4.keeps (S:=fun y=>w3.heap.size≤y) ?_ (by omega)
    (with_reducible repeat first | exact zA.refl _ _ | refine zA.alloc ?_ _ | refine zA.drew ?_ | refine zA.setCell ?_ (.inl ?_) _) <;> (dsimp only;omega)
   ·try dsimp only [Ob.arr]
    (with_reducible repeat first | assumption | (refine zN ?_;simp;done) | refine zG ?_ | apply fin10 | apply fin2 | (refine set_oth2 ?_ ?_;focus (first | (simp;done) | (dsimp only;omega))))
 case rest=>
  obtain⟨B,rfl,rfl,hB,hk4,hh4,hq4⟩:=hcut
  obtain⟨b0,b1,_,bl⟩:=zK hq4
  obtain⟨p0,p1,pf,pl⟩:=zK (zB HP3.out hk4 (by omega))
  obtain⟨q0,q1,qf,ql⟩:=zK (zB HQ3.out hk4 (by omega))
  obtain⟨v0,v1,_,vl⟩:=zK (zB HV3.out hk4 (by have:=zF HV3.out;omega))
  have pf0:=pf 0;have pf1:=pf 1;have qf0:=qf 0;have qf1:=qf 1
  have HA4:=zC (HA.out _ _ HK3.out hk4 hh4)
  have HK4:=zC (HK3.out.up.trans hk4)
  have hz3:=HK3.out.size
  have hv3:=zF HV3.out
  have e1:w1.heap.size≠w.heap.size:=by omega
  have e2:w1.heap.size≠w.heap.size+1:=by omega
  have e3:B≠w.heap.size:=by omega
  have e4:B≠w.heap.size+1:=by omega
  have e1':=e1.symm;have e2':=e2.symm;have e3':=e3.symm;have e4':=e4.symm
  have kk:∀ (W:World) (u0 u1 u2 u3:Value),zA (fun y=>y=w.heap.size∨y=w.heap.size+1) W ((((W.setCell ⟨w.heap.size,0,none⟩ u0).setCell ⟨w.heap.size,1,none⟩ u1).setCell ⟨w.heap.size+1,0,none⟩ u2).setCell ⟨w.heap.size+1,1,none⟩ u3):=fun W u0 u1 u2 u3=>
   ((((zA.refl _ _).setCell (p:=⟨w.heap.size,0,none⟩) (.inl (.inl rfl)) u0).setCell (p:=⟨w.heap.size,1,none⟩) (.inl (.inl rfl)) u1).setCell (p:=⟨w.heap.size+1,0,none⟩) (.inl (.inr rfl)) u2).setCell (p:=⟨w.heap.size+1,1,none⟩) (.inl (.inr rfl)) u3
  have KK:=zC kk
  clear hq4 hk4 hh4 pf qf kk
  by_cases hx:x=0
  ·subst hx
   have HRX:=zC (HRR.out.2 rfl)
   go_upto_region 7 with (fail)
   go_region
   all_goals
    go_wp2_with fail
    have kd:=fun W u0 u1 u2 u3=>(KK.out W u0 u1 u2 u3).drew
    refine bodyPost_ret_by (v:=.tuple #[u.val,v.val,.int .i64 0]) (by simp [results,Tryz.results40,go_sem,Rf.val, *]) rfl ⟨by rw [HRX.out],?_,by rw [HRX.out];exact HA4.out.keepsB HBT.out ((kd _ _ _ _ _).mono (fun y _ h=>by rcases h with h | h <;> omega))⟩
    exact (HK4.out.trans' (kd _ _ _ _ _) (U:=fun y=>y=L.g∨w.heap.size≤y) (fun _ _ h=>.inl h) (fun y _ h=>.inr (by rcases h with h | h <;> omega))).mono (fun y hy h=>by rcases h with h | h;exact h;omega)
  ·have hxb:(x != 0)=true:=by rw [bne_iff_ne];exact hx
   have HRX:=zC (HRR.out.1 hx)
   clear hx
   go_wp2_with fail
   refine bodyPost_ret_by (v:=.tuple #[Rf.no.val,Rf.no.val,.int .i64 x]) (by simp [results,Tryz.results40,go_sem,Rf.val,Rf.no, *]) rfl ⟨by rw [HRX.out],?_,by rw [HRX.out];exact HA4.out.keepsB HBT.out ((KK.out _ _ _ _ _).mono (fun y _ h=>by rcases h with h | h <;> omega))⟩
   exact (HK4.out.trans' (KK.out _ _ _ _ _) (U:=fun y=>y=L.g∨w.heap.size≤y) (fun _ _ h=>.inl h) (fun y _ h=>.inr (by rcases h with h | h <;> omega))).mono (fun y hy h=>by rcases h with h | h;exact h;omega)
theorem aput_any (a:Nat) (L:ArL) (A:Ar) (m i k:Int) (w:World) (h:ArIn w a L A) (hok:A.Ok):
 Calls Tryz.prog 40 #[.pointer (some ⟨a,0,none⟩),.int .i64 m,.int .i64 i,.int .i64 k] w
  fun e w'=>e = .returned (.tuple #[(A.putR m i k).was.val,(A.putR m i k).now.val,.int .i64 (A.putR m i k).e])∧zA (fun y=>L.foot A.many y) w w'∧ArIn w' a L (A.putR m i k).A:=by
 by_cases h1:(A.valueR m i).2≠0
 ·rw [show A.putR m i k=⟨A,.no,.no,(A.valueR m i).2⟩ from if_pos h1]
  exact (aput_e1 a L A m i k w h h1).mono fun e w' ⟨x1,x2⟩=>⟨x1,x2.up,h.keeps0 x2⟩
 ·exact (aput_e2 a L A m i k w h hok (Decidable.not_not.1 h1) (A.putR m i k) (if_neg h1)).mono fun e w' ⟨x1,x2,x3⟩=>⟨x1,x2.mono (fun y _ h=>.inr (.inr (.inl h))),x3⟩
end Go.Proofs.YtjfmagccmjdhoaaGreat
namespace Go.Proofs.YtjfmagccmjdhoaaGreat
open Go.RowKit
def PTy (t:TypeId):Prop:=t=182∨t=268∨t=201∨t=204∨t=224∨t=227∨t=232∨t=234
instance (t:TypeId):Decidable (PTy t):=by unfold PTy;infer_instance
def ATy (t:TypeId):Prop:=t=123∨t=185
instance (t:TypeId):Decidable (ATy t):=by unfold ATy;infer_instance
def FTy (t:TypeId):Prop:=PTy t∨ATy t∨Ty24 t
instance (t:TypeId):Decidable (FTy t):=by unfold FTy;infer_instance
def UTy (t:TypeId):Prop:=PTy t∨t=104∨t=106∨t=136∨t=140
instance (t:TypeId):Decidable (UTy t):=by unfold UTy;infer_instance
def WTy (t:TypeId):Prop:=Ty24 t∨t=252∨t=4
instance (t:TypeId):Decidable (WTy t):=by unfold WTy;infer_instance
theorem PTy.w {t:TypeId} (h:PTy t):¬ WTy t:=by rcases h with rfl | rfl | rfl | rfl | rfl | rfl | rfl | rfl <;> decide
theorem ATy.w {t:TypeId} (h:ATy t):¬ WTy t:=by rcases h with rfl | rfl <;> decide
theorem ATy.u {t:TypeId} (h:ATy t):¬ UTy t:=by rcases h with rfl | rfl <;> decide
theorem Ty24.u {t:TypeId} (h:Ty24 t):¬ UTy t:=by rcases h with rfl | rfl | rfl | rfl | rfl | rfl <;> decide
section
variable {F F':Nat→Prop} {N:Nat} {w0 w w' w1 w2:World} {a m x y q:Nat} {LA:ArL} {LM:MkL} {A A' B B':Ar} {M M' M2 M2':Mk} {L:L24} {S:Nat→Prop}
theorem R24.other (h:R24 w m L M q) (hk:zA S w w') (hS:∀ y cs t,w.heap[y]?=some (.cells cs t)→S y→¬ WTy t):R24 w' m L M q:=by
 have no:∀ {z:Nat} {cs:Array Value} {t:TypeId},w.heap[z]?=some (.cells cs t)→WTy t→¬ S z:=fun hz h1 hs=>hS _ _ _ hz hs h1
 have ni:∀ {v:Value} {l:List Int},IRow w 0 v l→∀ k,v.ownBlock=some k→¬ S k:=fun hv k hk'=>by
  obtain⟨c,hc⟩:=ints_block hv hk'
  exact no hc (by decide)
 obtain⟨⟨cap,o⟩,⟨cur,r,hr⟩,hc,hp,hst,hb,hin,a1,a2,a3⟩:=h
 obtain⟨cp,op⟩:=hp.own
 obtain⟨curp,rp,_,_⟩:=hp.row
 obtain⟨ck,oc⟩:=hc.own
 obtain⟨curc,rc,_⟩:=hc.row
 exact⟨⟨cap,zB o hk (no o (by decide))⟩,⟨cur,zB r hk (no r (by decide)),hr⟩,hc.keeps hk (no oc (by decide)) (no rc (by decide)),hp.keeps hk (no op (by decide)) (no rp (by decide)),hst.keeps hk (no hst.own (by decide)) (ni hst.row),fun j hj=>⟨(hb j hj).1.keeps hk (no (hb j hj).1.own (by decide)) (ni (hb j hj).1.row),(hb j hj).2⟩,hin,a1,a2,a3⟩
theorem D24.other (h:D24 N w m M q) (hk:zA S w w') (hS:∀ y cs t,w.heap[y]?=some (.cells cs t)→S y→¬ WTy t):D24 N w' m M q:=by
 obtain⟨L,h1,h2⟩:=h
 exact⟨L,h1.other hk hS,h2⟩
theorem ty_of {P:TypeId→Prop} {y:Nat} {c:Array Value} {t:TypeId} (h:∃ c t,w.heap[y]?=some (Obj.cells c t)∧P t) (hy:w.heap[y]?=some (.cells c t)):P t:=by
 obtain⟨c',t',hc,ht⟩:=h
 rw [hy] at hc
 simp at hc
 rw [hc.2];exact ht
theorem ArIn.blk (h:ArIn w a LA A) {y:Nat} (hf:LA.foot A.many y):∃ c t,w.heap[y]?=some (.cells c t)∧PTy t:=by
 rcases hf with rfl | rfl | rfl | ⟨k,hk,rfl⟩
 ·obtain⟨c,hc,_⟩:=h.heap.own;exact⟨c,_,hc,by decide⟩
 ·obtain⟨c,hc,_⟩:=h.heap.tab;exact⟨c,_,hc,by decide⟩
 ·obtain⟨c,hc,_⟩:=h.gl;exact⟨c,_,hc,by decide⟩
 ·obtain⟨c,hc,_⟩:=h.st k hk;exact⟨c,_,hc,by decide⟩
theorem MkIn.blk (h:MkIn w m LM M) {y:Nat} (hf:LM.foot M.K.many y):∃ c t,w.heap[y]?=some (.cells c t)∧PTy t:=by
 rcases hf with rfl | rfl | rfl | ⟨k,hk,rfl⟩
 ·exact⟨_,_,h.clk.own,by decide⟩
 ·obtain⟨c,hc,_⟩:=h.pt;exact⟨c,_,hc,by decide⟩
 ·obtain⟨c,hc,_⟩:=h.st;exact⟨c,_,hc,by decide⟩
 ·obtain⟨c,hc,_⟩:=h.bf k hk;exact⟨c,_,hc,by decide⟩
theorem Duo.other (h:Duo w0 w a m LA LM A M) (hk:zA S w w') (hN:∀ y,S y→w0.heap.size≤y) (hS:∀ y cs t,w.heap[y]?=some (.cells cs t)→S y→¬ UTy t):Duo w0 w' a m LA LM A M:=by
 have no:∀ {z:Nat} {cs:Array Value} {t:TypeId},w.heap[z]?=some (.cells cs t)→UTy t→¬ S z:=fun hz h1 hs=>hS _ _ _ hz hs h1
 obtain⟨ar,mm,kp,sep⟩:=h
 obtain⟨ca,a1,_⟩:=ar.own
 obtain⟨ch,c1,_⟩:=ar.heap.own
 obtain⟨ct,t1,_⟩:=ar.heap.tab
 obtain⟨cg,g1,_⟩:=ar.gl
 obtain⟨cur,r1,_⟩:=mm.row
 obtain⟨cp,p1,_⟩:=mm.pt
 obtain⟨cs,s1,_⟩:=mm.st
 refine⟨ar.keeps hk (no a1 (by decide)) (no ar.obj (by decide)) (no c1 (by decide)) (no t1 (by decide)) (no g1 (by decide)) (fun k hk'=>?_),mm.keeps hk (no mm.own (by decide)) (no mm.clk.own (by decide)) (no p1 (by decide)) (no s1 (by decide)) (no r1 (by decide)) (fun j hj=>?_),kp.trans' hk (fun _ _ h=>h) (fun y hy h=>?_),sep⟩
 ·obtain⟨_,hs,_⟩:=ar.st k hk';exact no hs (by decide)
 ·obtain⟨_,hs,_⟩:=mm.bf j hj;exact no hs (by decide)
 ·have:=hN y h;omega
structure Fo (F:Nat→Prop) (w0 w:World) (a m:Nat) (LA:ArL) (LM:MkL) (x y:Nat) (A:Ar) (M:Mk) (B:Ar) (M2:Mk) (q:Nat):Prop where
 du:Duo w0 w a m LA LM A M
 lx:w0.heap.size≤x
 doc:∃ LR:L18,w0.heap.size≤LR.hb∧R18 w x LR B∧∀ k z,k<B.many→(LR.sv k).ownBlock=some z→¬ F z
 d:D24 w0.heap.size w y M2 q
theorem Fo.quiet (h:Fo F w0 w a m LA LM x y A M B M2 q) (hk:Kz w w'):Fo F w0 w' a m LA LM x y A M B M2 q:=by
 obtain⟨LR,h1,h2,h4⟩:=h.doc
 exact⟨h.du.same hk,h.lx,⟨LR,h1,h2.k0 hk,h4⟩,h.d.k0 hk⟩
theorem Fo.box {b:Nat} {cs:Array Value} (h:Fo F w0 w a m LA LM x y A M B M2 q) (hk:zA (fun y=>y=b) w w') (hb:w.heap[b]?=some (.cells cs 51)) (hN:w0.heap.size≤b) (hf:F b):Fo F w0 w' a m LA LM x y A M B M2 q:=by
 obtain⟨LR,h1,h2,h4⟩:=h.doc
 have ty:∀ y c t,w.heap[y]?=some (Obj.cells c t)→y=b→t=51:=fun y c t hy hs=>by
  subst hs;rw [hb] at hy;simp at hy;exact hy.2.symm
 refine⟨h.du.other hk (fun y hy=>by omega) (fun y c t hy hs=>by rw [ty y c t hy hs];decide),h.lx,⟨LR,h1,?_,h4⟩,h.d.other hk (fun y c t hy hs=>by rw [ty y c t hy hs];decide)⟩
 obtain⟨c,cap,x1,x2⟩:=h2.own
 obtain⟨cr,r1,r2⟩:=h2.row
 obtain⟨_,_,_,a1⟩:=h2.heap.own
 obtain⟨_,a2,_⟩:=h2.heap.row
 exact⟨⟨c,cap,zB x1 hk (zM x1 hb (by decide)),x2⟩,h2.heap.keeps hk (zM a1 hb (by decide)) (zM a2 hb (by decide)),⟨cr,zB r1 hk (zM r1 hb (by decide)),r2⟩,fun k hk'=>(h2.st k hk').keeps hk (fun z hz e=>h4 k z hk' hz (by rw [e];exact hf)),h2.ok⟩
end
attribute [local go_sem] Oper.semAt_some
structure Mp where
 d:Int
 m:Int
 a:Int
 b:Int
 c:Int
 r:Rf
 z:Rf
section
variable {F:Nat→Prop} {w0 w w' W W':World} {p a m x y q B:Nat} {LA:ArL} {LM:MkL} {A A' A2 A2':Ar} {M M' M2 M2':Mk} {s:Mp} {u1 u2 u3 u4 u:Rf}
end
end Go.Proofs.YtjfmagccmjdhoaaGreat
namespace Go.Proofs.YtjfmagccmjdhoaaGreat
open Go.RowKit
def FD (w0 w:World) (a m:Nat) (LA:ArL) (LM:MkL) (x y:Nat) (A:Ar) (M:Mk) (s:Sys) (q:Nat):Prop:=Fo (fun _=>False) w0 w a m LA LM x y A M s.A s.M q
end Go.Proofs.YtjfmagccmjdhoaaGreat
namespace Go.Proofs.YtjfmagccmjdhoaaGreat
open Go.RowKit
theorem D24.low {N N' m q:Nat} {w:World} {M:Mk} (h:D24 N w m M q) (hN:N'≤N):D24 N' w m M q:=by
 obtain⟨L,h1,lo⟩:=h
 exact⟨L,h1,⟨Nat.le_trans hN lo.m,Nat.le_trans hN lo.c,Nat.le_trans hN lo.p,Nat.le_trans hN lo.ps,Nat.le_trans hN lo.st,fun j hj=>Nat.le_trans hN (lo.bb j hj),fun j hj z hz=>Nat.le_trans hN (lo.bv j hj z hz)⟩⟩
section
variable {w0 w w':World} {a m x y qq:Nat} {LA:ArL} {LM:MkL} {A:Ar} {M:Mk} {s:Sys}
theorem FD.quiet (h:FD w0 w a m LA LM x y A M s qq) (hk:Kz w w'):FD w0 w' a m LA LM x y A M s qq:=Fo.quiet h hk
theorem FD.ph (h:FD w0 w a m LA LM x y A M s qq):Calls Tryz.prog 129 #[.pointer (some ⟨y,0,none⟩)] w fun e w'=>e = .returned (.int .i64 s.M.K.ph)∧w'=w:=by
 obtain⟨L,h1,_⟩:=Fo.d h
 exact phase24R h1
end
end Go.Proofs.YtjfmagccmjdhoaaGreat
namespace Go.Proofs.YtjfmagccmjdhoaaGreat
open Go.RowKit
def DwAt (w:World) (b:Nat) (S:Sw):Prop:=w.heap[b]?=some (.cells #[.int .i64 S.size,.int .i64 S.next,.int .i64 S.n] 220)
section
variable {w0 w w':World} {a m x y qq b:Nat} {LA:ArL} {LM:MkL} {A:Ar} {M:Mk} {s:Sys} {S:Sw}
theorem dsw_begin (h:DwAt w b S):Calls Tryz.prog 133 #[.pointer (some ⟨b,0,none⟩)] w fun e w'=>e = .returned (.int .i64 0)∧zA (fun z=>z=b) w w'∧DwAt w' b ⟨S.size,0,0⟩:=by
 obtain⟨c0,c1,c2,cl⟩:=qB h
 have f0:=zL h
 have f1:=f0 1;have f2:=f0 2
 have H:=zC h
 clear h f0
 go_in
 go_wp2_with fail
 go_ret
 refine⟨rfl,(zJ _ _ _ _).trans (zJ _ _ _ _),?_⟩
 exact (zH (zH H.out 1 _) 2 _).trans rfl
theorem dsw_done (h:DwAt w b S):Calls Tryz.prog 135 #[.pointer (some ⟨b,0,none⟩)] w fun e w'=>e = .returned (.bool ((S.next:Int) == S.size))∧Kz w w':=by
 obtain⟨c0,c1,c2,cl⟩:=qB h
 clear h
 go_in
 go_wp2_with fail
 go_quiet (fail)
 go_wp2_with fail
 go_ret
 exact⟨rfl,(by repeat (first | exact zA.refl _ _ | apply zA.alloc | apply zA.drewN | apply zA.drew))⟩
theorem FD.sizes (h:FD w0 w a m LA LM x y A M s qq):Calls Tryz.prog 42 #[.pointer (some ⟨x,0,none⟩)] w fun e w'=>e = .returned (.tuple #[.int .i64 s.A.H.T.n,.int .i64 s.A.many])∧Kz w w':=by
 obtain⟨LR,_,h2,_⟩:=Fo.doc h
 exact sizes18 h2
theorem FD.heap (h:FD w0 w a m LA LM x y A M s qq):Calls Tryz.prog 60 #[.pointer (some ⟨x,0,none⟩)] w fun e w'=>∃ b' r',e = .returned (.pointer (some ⟨b',0,none⟩))∧Kz w w'∧w.heap.size≤b'∧w.heap.size≤r'∧R14 w' b' r' s.A.H:=by
 obtain⟨LR,_,h2,_⟩:=Fo.doc h
 exact heap18 h2
theorem FD.mk (h:FD w0 w a m LA LM x y A M s qq) (i:Nat) (hi:i<s.M.P.n):Calls Tryz.prog 63 #[.pointer (some ⟨y,0,none⟩),.int .i64 i] w fun e w'=>e = .returned (.tuple #[.bool (s.M.P.c i != 0),.int .i64 0])∧w'=w:=by
 obtain⟨L,h1,_⟩:=Fo.d h
 exact marked24_ok i h1 hi
theorem FD.mk_out (h:FD w0 w a m LA LM x y A M s qq) (i:Int) (hi:i<0∨(s.M.P.n:Int)≤i):Calls Tryz.prog 63 #[.pointer (some ⟨y,0,none⟩),.int .i64 i] w fun e w'=>e = .returned (.tuple #[.bool false,.int .i64 3])∧w'=w:=by
 obtain⟨L,h1,_⟩:=Fo.d h
 exact marked24_range i h1 hi
theorem Fo.weak {F:Nat→Prop} {B:Ar} {M2:Mk} (h:Fo F w0 w a m LA LM x y A M B M2 qq):Fo (fun _=>False) w0 w a m LA LM x y A M B M2 qq:=by
 obtain⟨LR,h1,h2,_⟩:=h.doc
 exact⟨h.du,h.lx,⟨LR,h1,h2,fun _ _ _ _ h=>h⟩,h.d⟩
theorem Fo.own {F:Nat→Prop} {B:Ar} {M2:Mk} (h:Fo F w0 w a m LA LM x y A M B M2 qq) (hs:DwAt w b S) (hb:w0.heap.size≤b) (hk:zA (fun z=>z=b) w w'):Fo F w0 w' a m LA LM x y A M B M2 qq:=by
 obtain⟨LR,h1,h2,h4⟩:=h.doc
 have ty:∀ z c t,w.heap[z]?=some (.cells c t)→z=b→t=220:=fun z c t hz e=>by
  subst e
  have hq:=hs
  unfold DwAt at hq
  rw [hz] at hq
  simp at hq
  exact hq.2
 exact⟨h.du.other hk (fun z e=>by have e':z=b:=e;omega) (fun z c t hz e=>by rw [ty z c t hz e];decide),h.lx,⟨LR,h1,h2.keeps hk (fun z c t hz ht e=>by rw [ty z c t hz e] at ht;revert ht;decide),h4⟩,h.d.other hk (fun z c t hz e=>by rw [ty z c t hz e];decide)⟩
theorem Refs.dw {v:Value} {l:List Rf} (h:Refs w v l) (hs:DwAt w b S) (hk:zA (fun z=>z=b) w w'):Refs w' v l:=by
 rcases h with h | ⟨g,cap,cur,e,h2,h3⟩
 ·exact .inl h
 ·refine .inr ⟨g,cap,cur,e,zB h2 hk (fun e=>?_),h3⟩
  have hq:=hs
  unfold DwAt at hq
  rw [← e,h2] at hq
  simp at hq
end
end Go.Proofs.YtjfmagccmjdhoaaGreat
