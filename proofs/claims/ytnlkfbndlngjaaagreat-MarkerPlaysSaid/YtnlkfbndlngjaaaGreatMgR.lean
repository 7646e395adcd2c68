import Derived.Test.YtnlkfbndlngjaaaGreatMgN
import Derived.Test.YtnlkfbndlngjaaaGreatMgO
import Derived.OrdersIn
set_option maxHeartbeats 2000000
set_option maxRecDepth 100000
namespace Go.Proofs.YtnlkfbndlngjaaaGreat
open Go.RowKit
section
variable {P:Program} {md:Region.Mode} {ops:Array Oper} {w:World}
theorem wpOpIn_of_stOp {n i:Nat} {a:Act} {K:Act→Prop} {K':Act→World→Prop} {Q':Exit→Act→World→Prop} (h:∀ a,K a→K' a w) (hh:stOp P ops w i K a):wpOpIn Wd n P ops Q' i K' a w:=by
 unfold stOp at hh
 unfold wpOpIn
 split
 ·rename_i ho;simp only [ho] at hh;exact h _ hh
 ·rename_i o ho
  simp only [ho] at hh
  split
  ·rename_i hw
   simp only [hw,if_true] at hh
   refine⟨fun _ _=>trivial,?_⟩
   show o.uponIn Wd n P a K' Q' ((execOp a.eval o).run P w)
   unfold Oper.still at hh
   generalize (execOp a.eval o).run P w=r at hh ⊢
   cases r with
   | ok x w'=>
    cases x <;> simp only [Oper.stillUpon] at hh
    ·obtain⟨rfl,hh⟩:=hh;exact h _ hh
    ·obtain⟨rfl,hh⟩:=hh;exact h _ hh
    ·obtain⟨rfl,v,hc,hh⟩:=hh
     refine⟨fun h=>by simp [Fence.wide] at h,callsIn_wide.2 (hc.mono ?_)⟩
     rintro e w'' ⟨rfl,rfl⟩
     exact h _ hh
   | halt x w'=>simp only [Oper.stillUpon] at hh
  ·rename_i hw;simp only [hw] at hh;exact⟨fun _ _=>trivial,h _ hh⟩
theorem wpAnyIn_of_head {n m g:Nat} {L:Array Bool→Act→Prop} {Q':Exit→Act→World→Prop} (hL:∀ listed a,L listed a→wpAnyIn Wd m P md ops Q' g listed a w):
 ∀ (f:Nat) (listed:Array Bool) (a:Act),wpAnyL P md ops w n L f listed a→wpAnyIn Wd m P md ops Q' (f+g) listed a w
 | 0,listed,a,h=>by rw [Nat.zero_add];exact hL _ _ h
 | f+1,listed,a,h=>by
  rw [show f+1+g=(f+g)+1 by omega]
  exact⟨fun h0=>absurd h0 h.1,fun i hi=>wpOpIn_of_stOp (fun a' h'=>wpAnyIn_of_head hL f _ a' h') (h.2 i hi).2⟩
theorem wpAnyIn_of_seq {m:Nat} {Q':Exit→Act→World→Prop}:∀ (l:List Oper) (k:Nat) (listed:Array Bool) (a:Act) (w:World),(∀ j,l[j]?=ops[k+j]?)→
 Region.seqB md ops l.length k listed=true→wpListIn Wd m P ops Q' l a w→wpAnyIn Wd m P md ops Q' l.length listed a w
 | [],_,_,_,_,_,hB,h=>⟨by simpa [Region.seqB] using hB,h⟩
 | o :: l,k,listed,a,w,hl,hB,h=>by
  have h0:ops[k]?=some o:=by simpa using (hl 0).symm
  simp only [List.length_cons,Region.seqB,Bool.and_eq_true,decide_eq_true_eq] at hB
  refine⟨fun h1=>(by rw [hB.1] at h1;cases h1),fun i hi=>?_⟩
  rw [hB.1] at hi
  have hik:i=k:=by simpa using hi
  subst hik
  have hw:wpOpIn Wd m P ops Q' i (wpListIn Wd m P ops Q' l) a w:=by unfold wpOpIn;simp only [h0];exact h
  exact wpOpIn_mono (fun a' w' h'=>wpAnyIn_of_seq l (i+1) _ a' w' (fun j=>by have:=hl (j+1);simpa [Nat.add_assoc,Nat.add_comm 1 j] using this) hB.2 h') hw
theorem wpIn_region_still {id m:Nat} {Q:Exit→Act→World→Prop} {a:Act} {w:World} {l:List Oper} (n:Nat) (hm:P.follows .mixedOrders=true) (hB:Region.lexTailB .any l.toArray n=true)
 (h:wpStill P l.toArray { w with drawn:=w.drawn+1 } (fun a'=>wpListIn Wd m P l.toArray Q (l.drop n) a' { w with drawn:=w.drawn+1 }) (l.take n) a):(Code.region id l.toArray true).wpIn Wd m P Q a w:=by
 simp only [Region.lexTailB,Bool.and_eq_true,decide_eq_true_eq] at hB
 obtain⟨⟨⟨⟨hsel,hn⟩,hs⟩,hc⟩,hlex⟩:=hB
 have hn':n<l.length:=by simpa using hn
 have htl:(l.take n).length=n:=by simp;omega
 have hdl:(l.drop n).length=l.toArray.size - n:=by simp
 have inv0:HeadInv .any l.toArray n (Array.replicate l.toArray.size false):=
  ⟨by simp,fun j oj _ hl=>(by rw [getD_replicate_false] at hl;cases hl),fun t _ ht=>getD_in (by simpa using ht) (getD_replicate_false _ _)⟩
 have H:=wpAnyL_lex (md:=.any) (g:=l.toArray.size - n) hsel hs hc hn (l.take n) 0 _ a (fun j hj=>by
  have hj':j<n:=by rw [htl] at hj;exact hj
  simp [hj']) (by simpa using htl) inv0 (by rw [htl];exact hlex) h
 refine wpIn_region_any hm ?_
 have:=wpAnyIn_of_head (m:=m) (Q':=Q) (g:=l.toArray.size - n) (fun listed a' hL=>by
  have:=wpAnyIn_of_seq (m:=m) (md:=.any) (Q':=Q) (l.drop n) n listed a' { w with drawn:=w.drawn+1 } (fun j=>by simp [List.getElem?_drop]) (by rw [hdl];exact hL.1) hL.2
  rwa [hdl] at this) _ _ _ H
 rw [htl,show n+(l.toArray.size - n)=l.toArray.size by omega] at this
 exact this
end
end Go.Proofs.YtnlkfbndlngjaaaGreat
namespace Go.Proofs.YtnlkfbndlngjaaaGreat
open Go.RowKit
def Ob.getC (o:Ob) (i:Int):Rf × Int:=if i<0∨o.n≤i then (.no,3) else (o.fs i.toNat,0)
theorem Ob.getR_eq (o:Ob) (i:Int):o.getR i = .tuple #[.agg #[.int .i64 (o.getC i).1.s,.int .u32 (o.getC i).1.g],.int .i64 (o.getC i).2]:=by
 unfold Ob.getR Ob.getC
 split <;> rfl
theorem hload1 (b o Bi Bv:Nat) (i:Int) (O:Ob) (w:World) (hg:O.Good) (hc:∀ j,j<10→w.cell? ⟨b,o+j,none⟩=O.arr[j]?) (hbl:b<w.heap.size) (hbv:b≠Bv) (q1:w.heap[Bi]?=some (.cells #[.int .i64 i] 3)) (q2:w.heap[Bv]?=some (.cells #[.int .i64 0,.int .u32 0] 34)):
 Calls Tryz.prog 249 #[.pointer (some ⟨b,o,none⟩),.pointer (some ⟨Bi,0,none⟩),.pointer (some ⟨Bv,0,none⟩)] w
  fun e w'=>e = .returned (.int .i64 (O.getC i).2)∧Keeps (fun y=>y=Bv) w w'∧w'.heap[Bv]?=some (.cells #[.int .i64 (O.getC i).1.s,.int .u32 (O.getC i).1.g] 34):=by
 have HG:=fun w=>fget_any O i w hg
 rw [Ob.getR_eq] at HG
 obtain⟨⟨r,k⟩,hx⟩:∃ x,O.getC i=x:=⟨_,rfl⟩
 rw [hx] at HG ⊢
 dsimp only at HG ⊢
 simp only [Ob.arr] at HG
 have HG:=hid HG
 have hiv:Bi≠Bv:=type_ne q1 q2 (by decide)
 have HF:=hid (fun (w':World) (hk:Keeps (fun y=>y=Bv) w w')=>And.intro (ten (w:=w') (fun j hj=>(World.cell?_of_block (w:=w) (hk.block b hbl hbv)).trans (hc j hj))) (cells1 (block_keep q1 hk hiv)).1)
 have HV:=hid q2
 have lv:=lt_block q2
 obtain⟨⟨o0,o1,o2,o3,o4,o5,o6,o7,o8,o9⟩,i0⟩:=HF.out _ (Keeps.refl _ _)
 clear hc q1 q2 hx hg hiv hbv
 go_enter Tryz.func249,Tryz.ntmps249
 go_upto_region 1 with (fail)
 go_region_held3 (fun W=>(W.cell? ⟨b,o,none⟩=some (.int .i64 O.n)∧W.cell? ⟨b,o+1,none⟩=some (.int .i64 O.f0.s)∧W.cell? ⟨b,o+2,none⟩=some (.int .u32 O.f0.g)∧W.cell? ⟨b,o+3,none⟩=some (.int .i64 O.f1.s)∧
  W.cell? ⟨b,o+4,none⟩=some (.int .u32 O.f1.g)∧W.cell? ⟨b,o+5,none⟩=some (.int .i64 O.f2.s)∧W.cell? ⟨b,o+6,none⟩=some (.int .u32 O.f2.g)∧W.cell? ⟨b,o+7,none⟩=some (.int .i64 O.f3.s)∧
  W.cell? ⟨b,o+8,none⟩=some (.int .u32 O.f3.g)∧W.cell? ⟨b,o+9,none⟩=some (.bool O.h))∧W.cell? ⟨Bi,0,none⟩=some (.int .i64 i))
  ((refine HF.out _ ?_;(repeat (first | with_reducible exact Keeps.refl _ _ | with_reducible refine Keeps.alloc ?_ _ | with_reducible refine Keeps.drew ?_ | with_reducible refine Keeps.setCell ?_ (.inl ?_) _ | with_reducible refine Keeps.trans ?_ (Keeps.up (by with_reducible assumption)))) <;> rfl))
  (first | (go_at_call 183;refine (HG.out _).mono ?_;rintro e w1 ⟨rfl,hk1⟩;have hk2:=(Keeps.drew (Keeps.refl (fun _=>False) w)).trans hk1;have q3:=block_keep HV.out hk2 (fun h=>h);obtain⟨a0,a1,af,al⟩:=cells2 q3;have f0:=af 0;have f1:=af 1;have Q3:=hid q3;clear q3))
 all_goals
  go_wp2_with fail
  go_ret
  have kk:∀ (W:World) (u v:Value),Keeps (fun y=>y=Bv) W ((W.setCell ⟨Bv,0,none⟩ u).setCell ⟨Bv,1,none⟩ v):=fun W u v=>(keeps_set1 _ _ _ _).trans (keeps_set1 _ _ _ _)
  exact⟨rfl,hk2.up.trans (kk _ _ _),fin2 Q3.out⟩
theorem hload_any (b t:Nat) (H:Hp) (r:Rf) (i:Int) (w:World) (h:HpAt w b t H):
 Calls Tryz.prog 202 #[.pointer (some ⟨b,0,none⟩),.agg #[.int .i64 r.s,.int .u32 r.g],.int .i64 i] w
  fun e w'=>e = .returned (.tuple #[(if ckV H.T r.s r.g≠0 then (Rf.no,ckV H.T r.s r.g) else (H.ob r.s.toNat).getC i).1.val,.int .i64 (if ckV H.T r.s r.g≠0 then (Rf.no,ckV H.T r.s r.g) else (H.ob r.s.toNat).getC i).2])∧Keeps (fun _=>False) w w':=by
 by_cases hc:ckV H.T r.s r.g≠0
 ·rw [if_pos hc]
  have HW:=hid (fun f w' (hk:Keeps (fun _=>False) w w')=>hwith_bad b t H r.s r.g f w' (h.keeps hk (fun h=>h) (fun h=>h)) hc)
  clear h hc
  obtain⟨k,hk⟩:∃ k,ckV H.T r.s r.g=k:=⟨_,rfl⟩
  rw [hk] at HW ⊢
  clear hk
  go_enter Tryz.func202,Tryz.ntmps202
  go_wp2_with fail
  refine (HW.out _ _ (by repeat (first | exact Keeps.refl _ _ | apply Keeps.alloc | apply Keeps.drewN | apply Keeps.drew))).mono ?_
  rintro e w1 ⟨rfl,hk⟩
  obtain⟨d0,d1,df,dl⟩:=cells2 (block_keep (alloc_new' (w:=((w.alloc _).alloc _).alloc _) (n:=w.heap.size+1+1+1) (by simp)) hk (fun h=>h))
  obtain⟨e0,e1,ef,el⟩:=cells2 (block_keep (alloc_old (alloc_new' (w:=(w.alloc _).alloc _) (n:=w.heap.size+1+1) (by simp))) hk (fun h=>h))
  have f0:=ef 0;have f1:=ef 1
  have HK:=hid ((((Keeps.refl (fun y=>w.heap.size≤y) w).alloc _).alloc _ |>.alloc _ |>.alloc _).trans hk.up)
  clear hk df ef
  go_wp2_with fail
  refine bodyPost_ret_by (v:=.tuple #[Rf.no.val,.int .i64 k]) (by simp [results,Tryz.results202,go_sem,Rf.no,Rf.val, *]) rfl ⟨rfl,?_⟩
  refine Keeps.fresh ?_
  repeat (first | (with_reducible exact HK.out) | with_reducible refine Keeps.setCell ?_ ?_ _ | with_reducible refine Keeps.alloc ?_ _ | with_reducible refine Keeps.drewN ?_ _ | with_reducible refine Keeps.drew ?_)
  all_goals first | (left;simp;done) | (left;simp;omega) | (right;simp;done) | (right;simp;omega)
 ·rw [if_neg hc]
  obtain⟨k,hki,_⟩:=ckV_ok (Decidable.not_not.1 hc)
  obtain⟨rs,rg⟩:=r
  dsimp only at hc hki ⊢
  subst hki
  rw [Int.toNat_natCast]
  have hc':ckV H.T k rg=0:=Decidable.not_not.1 hc
  have hi:=ck_lt h hc'
  have hbl:=h.lt
  have HW:=hid (fun w0 Bi Bv (hbv:b≠Bv) (hk0:Keeps (fun _=>False) w w0) (q1:w0.heap[Bi]?=some (.cells #[.int .i64 i] 3)) (q2:w0.heap[Bv]?=some (.cells #[.int .i64 0,.int .u32 0] 34))=>
   hwith_ok b t H k rg 249 #[.pointer (some ⟨Bi,0,none⟩),.pointer (some ⟨Bv,0,none⟩)] (fun x w'=>x=((H.ob k).getC i).2∧Keeps (fun y=>y=Bv) w0 w'∧w'.heap[Bv]?=some (.cells #[.int .i64 ((H.ob k).getC i).1.s,.int .u32 ((H.ob k).getC i).1.g] 34)) w0
    (h.keeps hk0 (fun h=>h) (fun h=>h)) hc' (enters_of Tryz.func249 (by kernel_rfl) rfl)
    (fun w' hk _=>(hload1 b (2+k * 10) Bi Bv i (H.ob k) w' (h.good k) ((h.keeps (hk0.trans hk) (fun h=>h) (fun h=>h)).obj hi) (by have:=(hk0.trans hk).size;omega) hbv (block_keep q1 hk (fun h=>h)) (block_keep q2 hk (fun h=>h))).mono (by
     rintro e w2 ⟨rfl,h2,h3⟩
     exact⟨_,rfl,rfl,hk.up.trans h2,h3⟩)) (fun k w h=>⟨h.1,h.2.1.drew,h.2.2⟩))
  obtain⟨⟨v,x⟩,hx⟩:∃ y,(H.ob k).getC i=y:=⟨_,rfl⟩
  rw [hx] at HW ⊢
  clear h hc hc' hx
  dsimp only at HW ⊢
  go_enter Tryz.func202,Tryz.ntmps202
  go_wp2_with fail
  refine (HW.out _ _ _ (by omega) (by repeat (first | exact Keeps.refl _ _ | apply Keeps.alloc | apply Keeps.drewN | apply Keeps.drew)) (alloc_old <| alloc_old <| alloc_new' (by simp)) (alloc_new' (by simp))).mono ?_
  rintro e w1 ⟨x',rfl,rfl,hk,hq⟩
  obtain⟨d0,d1,df,dl⟩:=cells2 hq
  obtain⟨e0,e1,ef,el⟩:=cells2 (block_keep (alloc_old (alloc_new' (w:=(w.alloc _).alloc _) (n:=w.heap.size+1+1) (by simp))) hk (by simp))
  have f0:=ef 0;have f1:=ef 1
  have HK:=hid ((((Keeps.refl (fun y=>w.heap.size≤y) w).alloc _).alloc _ |>.alloc _ |>.alloc _).trans' hk (U:=fun y=>w.heap.size≤y) (fun _ _ h=>h) (fun y _ h=>by omega))
  clear hk hq df ef
  go_wp2_with fail
  refine bodyPost_ret_by (v:=.tuple #[v.val,.int .i64 x']) (by simp [results,Tryz.results202,go_sem,Rf.val, *]) rfl ⟨rfl,?_⟩
  refine Keeps.fresh ?_
  repeat (first | (with_reducible exact HK.out) | with_reducible refine Keeps.setCell ?_ ?_ _ | with_reducible refine Keeps.alloc ?_ _ | with_reducible refine Keeps.drewN ?_ _ | with_reducible refine Keeps.drew ?_)
  all_goals first | (left;simp;done) | (left;simp;omega) | (right;simp;done) | (right;simp;omega)
end Go.Proofs.YtnlkfbndlngjaaaGreat
namespace Go.Proofs.YtnlkfbndlngjaaaGreat
open Go.RowKit
def Hp.free (H:Hp) (i:Nat):Hp:=⟨H.T.give i,updf H.ob i (Ob.new 0 false)⟩
theorem Tb.give_n (T:Tb) (i:Nat):(T.give i).n=T.n:=by unfold Tb.give;split <;> rfl
theorem hfree1 (b t k Bh Br:Nat) (H:Hp) (w:World) (h:HpAt w b t H) (hk:k<H.T.n) (hs:H.T.st k=1) (hg:1≤H.T.gn k)
 (q1:w.heap[Bh]?=some (.cells #[.pointer (some ⟨b,0,none⟩)] 47)) (q2:w.heap[Br]?=some (.cells #[.int .i64 k,.int .u32 (H.T.gn k)] 34)):
 Calls Tryz.prog 172 #[.pointer (some ⟨b,2+k * 10,none⟩),.pointer (some ⟨Bh,0,none⟩),.pointer (some ⟨Br,0,none⟩)] w
  fun e w'=>e = .returned (.int .i64 0)∧Keeps (fun y=>y=b∨y=t) w w'∧HpAt w' b t (H.free k):=by
 have hk256:k<256:=by have:=h.tab.n12;omega
 have hoj:=h.obj hk256
 obtain⟨o0,o1,o2,o3,o4,o5,o6,o7,o8,o9⟩:=ten hoj
 have df:=h.frozen
 have g0:=df (2+k * 10);have g1:=df (2+k * 10+1);have g2:=df (2+k * 10+2);have g3:=df (2+k * 10+3);have g4:=df (2+k * 10+4)
 have g5:=df (2+k * 10+5);have g6:=df (2+k * 10+6);have g7:=df (2+k * 10+7);have g8:=df (2+k * 10+8);have g9:=df (2+k * 10+9)
 have hbl:=h.lt
 obtain⟨⟨c,hc,hC⟩,ht,hne,hgd⟩:=h
 have n1:Bh≠b:=type_ne q1 hc (by decide)
 have n2:Br≠b:=type_ne q2 hc (by decide)
 have HC:=hid hC;have HB:=hid hc;have HT:=hid ht;have HNE:=hid hne;have HGD:=hid hgd;have HQ1:=hid q1;have HQ2:=hid q2;have HKK:=hid (And.intro hk256 (And.intro n1 n2))
 clear hoj df hc hC ht hne hgd q1 q2 hk256 n1 n2
 go_enter Tryz.func172,Tryz.ntmps172
 go_upto_region 2 with (fail)
 have k10:=keeps10 (Keeps.refl (fun y=>y=b) w) (b:=b) (.inl rfl) (2+k * 10) (.int .i64 0) (.int .i64 0) (.int .u32 0) (.int .i64 0) (.int .u32 0) (.int .i64 0) (.int .u32 0) (.int .i64 0) (.int .u32 0) (.bool false)
 have q10:=set10_block HB.out (2+k * 10) (.int .i64 0) (.int .i64 0) (.int .u32 0) (.int .i64 0) (.int .u32 0) (.int .i64 0) (.int .u32 0) (.int .i64 0) (.int .u32 0) (.bool false)
 have hC2:=HC.out.setOb k HKK.out.1 (Ob.new 0 false)
 unfold setOb at hC2
 obtain⟨W,hW⟩:∃ W,((((((((((w.setCell ⟨b,2+k * 10,none⟩ (.int .i64 0)).setCell ⟨b,2+k * 10+1,none⟩ (.int .i64 0)).setCell ⟨b,2+k * 10+2,none⟩ (.int .u32 0)).setCell ⟨b,2+k * 10+3,none⟩ (.int .i64 0)).setCell ⟨b,2+k * 10+4,none⟩ (.int .u32 0)).setCell ⟨b,2+k * 10+5,none⟩ (.int .i64 0)).setCell ⟨b,2+k * 10+6,none⟩ (.int .u32 0)).setCell ⟨b,2+k * 10+7,none⟩ (.int .i64 0)).setCell ⟨b,2+k * 10+8,none⟩ (.int .u32 0)).setCell ⟨b,2+k * 10+9,none⟩ (.bool false))=W:=⟨_,rfl⟩
 rw [hW] at k10 q10 ⊢
 have c0:=cell_at q10 hC2.tab
 obtain⟨a0,_,_⟩:=cells1 (block_keep HQ1.out k10 HKK.out.2.1)
 obtain⟨b0,b1,_,_⟩:=cells2 (block_keep HQ2.out k10 HKK.out.2.2)
 have HG:=hid (fun (w':World) (hk':Keeps (fun _=>False) W w')=>sgive_ok t H.T k w' ((HT.out.keeps k10 (fun h=>HNE.out h.symm)).keeps hk' (fun h=>h)) hk hs hg)
 have K10:=hid k10;have Q10:=hid q10;have HC2:=hid hC2
 clear hW k10 q10 hC2 o0 o1 o2 o3 o4 o5 o6 o7 o8 o9 g0 g1 g2 g3 g4 g5 g6 g7 g8 g9
 go_still_tail 5,(by kernel_rfl)
 change wpList _ _ _ _ _ (World.drew _)
 go_wp2_with fail
 refine (HG.out _ (Keeps.refl _ _).drew).mono ?_
 rintro e w2 ⟨rfl,hk2,ht2⟩
 have HK2:=hid ((Keeps.drew (Keeps.refl (fun y=>y=t) W)).trans hk2);have HT2:=hid ht2
 clear hk2 ht2
 go_wp2_with fail
 go_ret
 refine⟨rfl,K10.out.trans' HK2.out (U:=fun y=>y=b∨y=t) (fun _ _ h=>.inl h) (fun _ _ h=>.inr h),⟨_,block_keep Q10.out HK2.out HNE.out,?_⟩,HT2.out,HNE.out,fun j=>?_⟩
 ·rw [show (H.free k).T.n=H.T.n from Tb.give_n _ _];exact HC2.out
 ·show (updf H.ob k (Ob.new 0 false) j).Good
  by_cases e:j=k
  ·rw [e,updf_same];exact Ob.new_good ⟨by decide,by decide,fun h=>by cases h⟩
  ·rw [updf_ne _ _ e];exact HGD.out j
theorem hfree_ok (b t k:Nat) (H:Hp) (g:Int) (w:World) (h:HpAt w b t H) (hc:ckV H.T k g=0) (hg:1≤g):
 Calls Tryz.prog 94 #[.pointer (some ⟨b,0,none⟩),.agg #[.int .i64 k,.int .u32 g]] w fun e w'=>e = .returned (.int .i64 0)∧Keeps (fun y=>y=b∨y=t) w w'∧HpAt w' b t (H.free k):=by
 obtain⟨j,hj,hkn,hst,hgn⟩:=ckV_ok hc
 obtain rfl:k=j:=by omega
 subst hgn
 have hbl:=h.lt
 have htl:=h.tab.lt
 have HW:=hid (fun w0 Bh Br (hk0:Keeps (fun _=>False) w w0) (q1:w0.heap[Bh]?=some (.cells #[.pointer (some ⟨b,0,none⟩)] 47)) (q2:w0.heap[Br]?=some (.cells #[.int .i64 k,.int .u32 (H.T.gn k)] 34))=>
  hwith_ok b t H k (H.T.gn k) 172 #[.pointer (some ⟨Bh,0,none⟩),.pointer (some ⟨Br,0,none⟩)] (fun x w'=>x=0∧Keeps (fun y=>y=b∨y=t) w0 w'∧HpAt w' b t (H.free k)) w0
   (h.keeps hk0 (fun h=>h) (fun h=>h)) hc (enters_of Tryz.func172 (by kernel_rfl) rfl)
   (fun w' hk _=>(hfree1 b t k Bh Br H w' (h.keeps (hk0.trans hk) (fun h=>h) (fun h=>h)) hkn hst hg (block_keep q1 hk (fun h=>h)) (block_keep q2 hk (fun h=>h))).mono (by
    rintro e w2 ⟨rfl,h2,h3⟩
    exact⟨_,rfl,rfl,hk.up.trans h2,h3⟩)) (fun k w h=>⟨h.1,h.2.1.drew,h.2.2.keeps ((Keeps.refl (fun _=>False) _).drew) (fun h=>h) (fun h=>h)⟩))
 clear h hc hg hkn hst hj
 go_enter Tryz.func94,Tryz.ntmps94
 go_wp2_with fail
 refine (HW.out _ _ _ (by repeat (first | exact Keeps.refl _ _ | apply Keeps.alloc | apply Keeps.drewN | apply Keeps.drew)) (alloc_old alloc_new) (alloc_new' (by simp))).mono ?_
 rintro e w1 ⟨x',rfl,rfl,hk,hh⟩
 go_wp2_with fail
 go_ret
 exact⟨rfl,(((Keeps.refl _ _).alloc _).alloc _).trans hk,hh⟩
theorem hfree_bad (b t:Nat) (H:Hp) (r:Rf) (w:World) (h:HpAt w b t H) (hc:ckV H.T r.s r.g≠0):
 Calls Tryz.prog 94 #[.pointer (some ⟨b,0,none⟩),.agg #[.int .i64 r.s,.int .u32 r.g]] w fun e w'=>e = .returned (.int .i64 (ckV H.T r.s r.g))∧Keeps (fun _=>False) w w':=by
 have HW:=hid (fun f w' (hk:Keeps (fun _=>False) w w')=>hwith_bad b t H r.s r.g f w' (h.keeps hk (fun h=>h) (fun h=>h)) hc)
 clear h hc
 go_enter Tryz.func94,Tryz.ntmps94
 go_wp2_with fail
 refine (HW.out _ _ (by repeat (first | exact Keeps.refl _ _ | apply Keeps.alloc | apply Keeps.drewN | apply Keeps.drew))).mono ?_
 rintro e w1 ⟨rfl,hk⟩
 go_wp2_with fail
 go_ret
 exact⟨rfl,(((Keeps.refl _ _).alloc _).alloc _).trans hk⟩
end Go.Proofs.YtnlkfbndlngjaaaGreat
namespace Go.Proofs.YtnlkfbndlngjaaaGreat
open Go.RowKit
theorem neq_nz (r:Rf) (w:World):Sem.run Tryz.prog (binOp .neq 34 (.agg #[.int .i64 r.s,.int .u32 r.g]) (.agg #[.int .i64 0,.int .u32 0])) w = .ok (.bool r.nz) w:=neq_ref w r.s r.g 0 0
theorem hthere_bad (b t:Nat) (H:Hp) (s g:Int) (w:World) (h:HpAt w b t H) (hc:ckV H.T s g≠0):
 Calls Tryz.prog 171 #[.pointer (some ⟨b,0,none⟩),.agg #[.int .i64 s,.int .u32 g],.func (.func 184) #[] #[]] w fun e w'=>e = .returned (.int .i64 (ckV H.T s g))∧Keeps (fun _=>False) w w':=
 hwith_bad b t H s g _ w h hc
theorem hst1_bad (b t k:Nat) (H:Hp) (i:Int) (v:Rf) (x:Int) (Bi Bv Bh Bw:Nat) (w:World) (h:HpAt w b t H) (hk:k<256) (hx:x≠0)
 (hcase:((H.ob k).getC i).2=x∨((H.ob k).getC i).2=0∧v.nz=true∧ckV H.T v.s v.g=x)
 (q1:w.heap[Bi]?=some (.cells #[.int .i64 i] 3)) (q2:w.heap[Bv]?=some (.cells #[.int .i64 v.s,.int .u32 v.g] 34)) (q3:w.heap[Bh]?=some (.cells #[.pointer (some ⟨b,0,none⟩)] 47)):
 Calls Tryz.prog 182 #[.pointer (some ⟨b,2+k * 10,none⟩),.pointer (some ⟨Bi,0,none⟩),.pointer (some ⟨Bv,0,none⟩),.pointer (some ⟨Bh,0,none⟩),.pointer (some ⟨Bw,0,none⟩)] w
  fun e w'=>e = .returned (.int .i64 x)∧Keeps (fun _=>False) w w':=by
 have HGet:∀ w,_:=fun w=>fget_any (H.ob k) i w (h.good k)
 have hbl:=h.lt
 rw [Ob.getR_eq] at HGet
 have HTh:=hid (fun (w':World) (hk:Keeps (fun _=>False) w w') (hc:ckV H.T v.s v.g≠0)=>hthere_bad b t H v.s v.g w' (h.keeps hk (fun h=>h) (fun h=>h)) hc)
 have HF:=hid (fun (w':World) (hk':Keeps (fun _=>False) w w')=>And.intro (ten ((h.keeps hk' (fun h=>h) (fun h=>h)).obj hk)) (And.intro (cells1 (block_keep q1 hk' (fun h=>h))) (And.intro (cells2 (block_keep q2 hk' (fun h=>h))) (cells1 (block_keep q3 hk' (fun h=>h))))))
 obtain⟨⟨r,y⟩,hy⟩:∃ z,(H.ob k).getC i=z:=⟨_,rfl⟩
 obtain⟨O,hO⟩:∃ O,H.ob k=O:=⟨_,rfl⟩
 obtain⟨u,hu⟩:∃ u,ckV H.T v.s v.g=u:=⟨_,rfl⟩
 rw [hy] at HGet hcase
 rw [hO] at HGet HF
 rw [hu] at HTh hcase
 simp only [Ob.arr] at HGet
 dsimp only at HGet hcase
 have hG:=hid HGet
 have HCA:=hid hcase;have HX:=hid hx
 clear HGet h q1 q2 q3 hO hk hy hu hcase hx
 have hn:=neq_nz v
 obtain⟨⟨o0,o1,o2,o3,o4,o5,o6,o7,o8,o9⟩,⟨i0,_,li⟩,⟨v0,v1,_,lv⟩,⟨h0,_,lh⟩⟩:=HF.out _ (Keeps.refl _ _)
 go_enter Tryz.func182,Tryz.ntmps182
 go_upto_region 1 with (fail)
 go_cut [7,8] (fun _ s8 wx=>s8 = .int .i64 y∧Keeps (fun _=>False) w wx)
 case first=>
  go_region_with (go_at_call 183;refine (hG.out _).mono ?_;rintro e w1 ⟨rfl,hk1⟩;(first | (have nab:=block_keep (alloc_new (w:=w)) ((Keeps.drew (Keeps.refl (fun _=>False) _)).trans hk1) (fun h=>h);have nax:=cells2 nab;obtain⟨na0,na1,naf,nat⟩:=nax;have naf0:=naf 0;have naf1:=naf 1) | (have nab:=block_keep (alloc_old (alloc_new (w:=w))) ((Keeps.drew (Keeps.refl (fun _=>False) _)).trans hk1) (fun h=>h);have nax:=cells2 nab;obtain⟨na0,na1,naf,nat⟩:=nax;have naf0:=naf 0;have naf1:=naf 1) | skip);(first | (have nbb:=block_keep (alloc_new' (n:=w.heap.size+1) (World.size_alloc ..).symm) ((Keeps.drew (Keeps.refl (fun _=>False) _)).trans hk1) (fun h=>h);have nbx:=cells2 nbb;obtain⟨nb0,nb1,nbf,nbt⟩:=nbx;have nbf0:=nbf 0;have nbf1:=nbf 1) | skip))
  all_goals
   go_wp2_with fail
   go_meet
   refine⟨rfl,Keeps.fresh ?_⟩
   repeat (first | (with_reducible exact Keeps.refl _ _) | with_reducible refine Keeps.setCell ?_ ?_ _ | with_reducible refine Keeps.alloc ?_ _ | with_reducible refine Keeps.drewN ?_ _ | with_reducible refine Keeps.drew ?_ | with_reducible refine Keeps.trans ?_ (Keeps.up hk1))
   all_goals first | (left;simp;done) | (left;simp;omega) | (right;simp;done) | (right;simp;omega)
 case rest=>
  obtain⟨rfl,hkc⟩:=hcut
  clear o0 o1 o2 o3 o4 o5 o6 o7 o8 o9 i0 li v0 v1 lv h0 lh
  obtain⟨hxx,⟨i0,_,li⟩,⟨v0,v1,_,lv⟩,⟨h0,_,lh⟩⟩:=HF.out _ hkc
  clear hxx
  have HKC:=hid hkc;clear hkc
  rcases HCA.out with hyx | ⟨hy0,hnz,hux⟩
  ·have hyb:(y != 0)=true:=by rw [bne_iff_ne,hyx];exact HX.out
   have HYX:=hid hyx
   clear hyx
   go_wp2_with fail
   go_ret
   exact⟨ret_int HYX.out,HKC.out⟩
  ·subst hy0
   have hub:(u != 0)=true:=by rw [bne_iff_ne,hux];exact HX.out
   have HUX:=hid hux
   have hu0:u≠0:=by rw [hux];exact HX.out
   have hnz':∀ w,Sem.run Tryz.prog (binOp .neq 34 (.agg #[.int .i64 v.s,.int .u32 v.g]) (.agg #[.int .i64 0,.int .u32 0])) w = .ok (.bool true) w:=fun w=>(hn w).trans (by rw [hnz])
   clear hux hn hnz
   go_wp2_with fail
   refine (HTh.out _ HKC.out hu0).mono ?_
   rintro e w2 ⟨rfl,hk2⟩
   clear hu0
   have HK2:=hid (HKC.out.trans hk2)
   clear hk2
   go_wp2_with fail
   go_ret
   exact⟨ret_int HUX.out,HK2.out⟩
def Hp.storeR (H:Hp) (r:Rf) (i:Int) (v:Rf):Hp × Rf × Int:=
 if ckV H.T r.s r.g≠0 then (H,.no,ckV H.T r.s r.g) else if i<0∨(H.ob r.s.toNat).n≤i then (H,.no,3)
 else if v.nz=true∧ckV H.T v.s v.g≠0 then (H,.no,ckV H.T v.s v.g) else (H.setF r.s.toNat i.toNat v,(H.ob r.s.toNat).fs i.toNat,0)
theorem hstore_bad1 (b t:Nat) (H:Hp) (r:Rf) (i:Int) (v:Rf) (w:World) (h:HpAt w b t H) (hc:ckV H.T r.s r.g≠0):
 Calls Tryz.prog 110 #[.pointer (some ⟨b,0,none⟩),.agg #[.int .i64 r.s,.int .u32 r.g],.int .i64 i,.agg #[.int .i64 v.s,.int .u32 v.g]] w
  fun e w'=>e = .returned (.tuple #[Rf.no.val,.int .i64 (ckV H.T r.s r.g)])∧Keeps (fun _=>False) w w':=by
 have HW:=hid (fun f w' (hk:Keeps (fun _=>False) w w')=>hwith_bad b t H r.s r.g f w' (h.keeps hk (fun h=>h) (fun h=>h)) hc)
 clear h hc
 obtain⟨k,hk⟩:∃ k,ckV H.T r.s r.g=k:=⟨_,rfl⟩
 rw [hk] at HW ⊢
 clear hk
 go_enter Tryz.func110,Tryz.ntmps110
 go_wp2_with fail
 refine (HW.out _ _ (by repeat (first | exact Keeps.refl _ _ | apply Keeps.alloc | apply Keeps.drewN | apply Keeps.drew))).mono ?_
 rintro e w1 ⟨rfl,hk⟩
 obtain⟨d0,d1,df,dl⟩:=cells2 (block_keep (alloc_new' (w:=((((w.alloc _).alloc _).alloc _).alloc _).alloc _) (n:=w.heap.size+1+1+1+1+1) (by simp)) hk (fun h=>h))
 obtain⟨e0,e1,ef,el⟩:=cells2 (block_keep (alloc_old (alloc_new' (w:=(((w.alloc _).alloc _).alloc _).alloc _) (n:=w.heap.size+1+1+1+1) (by simp))) hk (fun h=>h))
 have f0:=ef 0;have f1:=ef 1
 have HK:=hid ((((Keeps.refl (fun y=>w.heap.size≤y) w).alloc _).alloc _ |>.alloc _ |>.alloc _ |>.alloc _ |>.alloc _).trans hk.up)
 clear hk df ef
 go_wp2_with fail
 refine bodyPost_ret_by (v:=.tuple #[Rf.no.val,.int .i64 k]) (by simp [results,Tryz.results110,go_sem,Rf.no,Rf.val, *]) rfl ⟨rfl,?_⟩
 refine Keeps.fresh ?_
 repeat (first | (with_reducible exact HK.out) | with_reducible refine Keeps.setCell ?_ ?_ _ | with_reducible refine Keeps.alloc ?_ _ | with_reducible refine Keeps.drewN ?_ _ | with_reducible refine Keeps.drew ?_)
 all_goals first | (left;simp;done) | (left;simp;omega) | (right;simp;done) | (right;simp;omega)
theorem hstore_bad2 (b t k:Nat) (H:Hp) (g i:Int) (v:Rf) (x:Int) (w:World) (h:HpAt w b t H) (hc:ckV H.T k g=0) (hx:x≠0)
 (hcase:((H.ob k).getC i).2=x∨((H.ob k).getC i).2=0∧v.nz=true∧ckV H.T v.s v.g=x):
 Calls Tryz.prog 110 #[.pointer (some ⟨b,0,none⟩),.agg #[.int .i64 k,.int .u32 g],.int .i64 i,.agg #[.int .i64 v.s,.int .u32 v.g]] w
  fun e w'=>e = .returned (.tuple #[Rf.no.val,.int .i64 x])∧Keeps (fun _=>False) w w':=by
 have hk:=ck_lt h hc
 have hbl:=h.lt
 have HW:=hid (fun (w0:World) Bi Bv Bh Bw (hk0:Keeps (fun _=>False) w w0) (q1:w0.heap[Bi]?=some (.cells #[.int .i64 i] 3)) (q2:w0.heap[Bv]?=some (.cells #[.int .i64 v.s,.int .u32 v.g] 34)) (q3:w0.heap[Bh]?=some (.cells #[.pointer (some ⟨b,0,none⟩)] 47))=>
  hwith_ok b t H k g 182 #[.pointer (some ⟨Bi,0,none⟩),.pointer (some ⟨Bv,0,none⟩),.pointer (some ⟨Bh,0,none⟩),.pointer (some ⟨Bw,0,none⟩)]
   (fun e w'=>e=x∧Keeps (fun _=>False) w0 w') w0
   (h.keeps hk0 (fun h=>h) (fun h=>h)) hc (enters_of Tryz.func182 (by kernel_rfl) rfl)
   (fun w' hk' _=>(hst1_bad b t k H i v x Bi Bv Bh Bw w' (h.keeps (hk0.trans hk') (fun h=>h) (fun h=>h)) hk hx hcase (block_keep q1 hk' (fun h=>h)) (block_keep q2 hk' (fun h=>h)) (block_keep q3 hk' (fun h=>h))).mono (by
    rintro e w2 ⟨rfl,h2⟩
    exact⟨x,rfl,rfl,hk'.trans h2⟩))
   (fun k w h=>⟨h.1,h.2.drew⟩))
 clear h hc hx hcase hk
 go_enter Tryz.func110,Tryz.ntmps110
 go_wp2_with fail
 refine (HW.out _ _ _ _ _ (by repeat (first | exact Keeps.refl _ _ | apply Keeps.alloc | apply Keeps.drewN | apply Keeps.drew)) (alloc_old <| alloc_old <| alloc_old <| alloc_new' (by simp)) (alloc_old <| alloc_old <| alloc_new' (by simp)) (alloc_old <| alloc_old <| alloc_old <| alloc_old <| alloc_old alloc_new)).mono ?_
 rintro e w1 ⟨k',rfl,rfl,hk⟩
 obtain⟨d0,d1,df,dl⟩:=cells2 (block_keep (alloc_new' (w:=((((w.alloc _).alloc _).alloc _).alloc _).alloc _) (n:=w.heap.size+1+1+1+1+1) (by simp)) hk (fun h=>h))
 obtain⟨e0,e1,ef,el⟩:=cells2 (block_keep (alloc_old (alloc_new' (w:=(((w.alloc _).alloc _).alloc _).alloc _) (n:=w.heap.size+1+1+1+1) (by simp))) hk (fun h=>h))
 have f0:=ef 0;have f1:=ef 1
 have HK:=hid ((((Keeps.refl (fun y=>w.heap.size≤y) w).alloc _).alloc _ |>.alloc _ |>.alloc _ |>.alloc _ |>.alloc _).trans hk.up)
 clear hk df ef
 go_wp2_with fail
 refine bodyPost_ret_by (v:=.tuple #[Rf.no.val,.int .i64 k']) (by simp [results,Tryz.results110,go_sem,Rf.no,Rf.val, *]) rfl ⟨rfl,?_⟩
 refine Keeps.fresh ?_
 repeat (first | (with_reducible exact HK.out) | with_reducible refine Keeps.setCell ?_ ?_ _ | with_reducible refine Keeps.alloc ?_ _ | with_reducible refine Keeps.drewN ?_ _ | with_reducible refine Keeps.drew ?_)
 all_goals first | (left;simp;done) | (left;simp;omega) | (right;simp;done) | (right;simp;omega)
theorem hstore_any (b t:Nat) (H:Hp) (r:Rf) (i:Int) (v:Rf) (w:World) (h:HpAt w b t H) (hb:v.bad=false) (hw:v.Wf):
 Calls Tryz.prog 110 #[.pointer (some ⟨b,0,none⟩),.agg #[.int .i64 r.s,.int .u32 r.g],.int .i64 i,.agg #[.int .i64 v.s,.int .u32 v.g]] w
  fun e w'=>e = .returned (.tuple #[(H.storeR r i v).2.1.val,.int .i64 (H.storeR r i v).2.2])∧Keeps (fun y=>y=b) w w'∧HpAt w' b t (H.storeR r i v).1:=by
 have lift:∀ {e:Ending} {w':World} {P:Ending→Prop},P e∧Keeps (fun _=>False) w w'→P e∧Keeps (fun y=>y=b) w w'∧HpAt w' b t H:=fun ⟨h1,h2⟩=>⟨h1,h2.up,h.keeps h2 (fun h=>h) (fun h=>h)⟩
 unfold Hp.storeR
 split
 ·rename_i hc
  exact (hstore_bad1 b t H r i v w h hc).mono fun e w' hh=>lift (P:=fun e=>e=_) hh
 ·rename_i hc
  have hc':ckV H.T r.s r.g=0:=Decidable.not_not.1 hc
  obtain⟨k,hk,_⟩:=ckV_ok hc'
  obtain⟨rs,rg⟩:=r
  dsimp only at hk hc' ⊢
  subst hk
  rw [Int.toNat_natCast]
  split
  ·rename_i hi
   exact (hstore_bad2 b t k H rg i v 3 w h hc' (by decide) (.inl (by rw [Ob.getC,if_pos hi]))).mono fun e w' hh=>lift (P:=fun e=>e=_) hh
  ·rename_i hi
   split
   ·rename_i hv
    exact (hstore_bad2 b t k H rg i v _ w h hc' hv.2 (.inr ⟨by rw [Ob.getC,if_neg hi],hv.1,rfl⟩)).mono fun e w' hh=>lift (P:=fun e=>e=_) hh
   ·rename_i hv
    obtain⟨j,rfl⟩:∃ j:Nat,i=j:=⟨i.toNat,by omega⟩
    rw [Int.toNat_natCast]
    exact hstore_ok b t H k j rg v w h hc' (by omega) (fun hn=>Decidable.not_not.1 (fun hh=>hv ⟨hn,hh⟩)) hb hw
end Go.Proofs.YtnlkfbndlngjaaaGreat
namespace Go.Proofs.YtnlkfbndlngjaaaGreat
open Go.RowKit
theorem eql_ref (w:World) (s g s' g':Int):
 Sem.run Tryz.prog (binOp .eql 34 (.agg #[.int .i64 s,.int .u32 g]) (.agg #[.int .i64 s',.int .u32 g'])) w = .ok (.bool (s == s' && g == g')) w:=by
 have hS:Tryz.prog.underlying 34=some (.struct (Tryz.prog.fieldsOf 34)):=by kernel_rfl
 have hp:Tryz.prog.stoodInHeld 34=false:=by kernel_rfl
 rw [run_eql_struct,show (10000:Nat)=9999+1 from rfl,run_equalIn_agg w 9999 _ _ _ hS hp]
 simp only [Program.fieldsOf,Tryz.underlying34]
 go_simp
 by_cases h1:s=s' <;> by_cases h2:g=g' <;> simp [h1,h2]
theorem eql_no (r:Rf) (w:World):Sem.run Tryz.prog (binOp .eql 34 (.agg #[.int .i64 r.s,.int .u32 r.g]) (.agg #[.int .i64 0,.int .u32 0])) w = .ok (.bool (!r.nz)) w:=by
 rw [eql_ref w r.s r.g 0 0];simp [Rf.nz]
end Go.Proofs.YtnlkfbndlngjaaaGreat
namespace Go.Proofs.YtnlkfbndlngjaaaGreat
instance (n:Int) (h:Bool):Decidable (okNew n h):=inferInstanceAs (Decidable (_∧_∧_))
def Hp.loadR (H:Hp) (r:Rf) (i:Int):Rf × Int:=
 if ckV H.T r.s r.g≠0 then (.no,ckV H.T r.s r.g) else if i<0∨(H.ob r.s.toNat).n≤i then (.no,3) else ((H.ob r.s.toNat).fs i.toNat,0)
def Hp.freeR (H:Hp) (r:Rf):Hp × Int:=if ckV H.T r.s r.g≠0 then (H,ckV H.T r.s r.g) else (H.free r.s.toNat,0)
def Ar.rootR (A:Ar) (m i:Int):Rf × Int:=
 if m<0∨(A.many:Int)≤m then (.no,3) else if i<0∨((A.rt m.toNat).n:Int)≤i then (.no,3) else ((A.rt m.toNat).f i.toNat,0)
def Ar.valueR (A:Ar) (m i:Int):Rf × Int:=
 if m<0∨(A.many:Int)≤m then (.no,3) else if i=-1 then (.no,0) else A.rootR m i
structure Res where
 A:Ar
 was:Rf
 now:Rf
 e:Int
def Ar.makeR (A:Ar) (m n:Int) (h:Bool):Res:=
 if m<0∨(A.many:Int)≤m then ⟨A,.no,.no,3⟩ else if ¬ okNew n h then ⟨A,.no,.no,2⟩ else if 32≤(A.rt m.toNat).n then ⟨A,.no,.no,4⟩ else
 match A.H.T.inn 0 A.H.T.n with
 | []=>⟨A,.no,.no,4⟩
 | (i,g) :: _=>⟨A.made m.toNat i g (Ob.new n h),.no,⟨i,g⟩,0⟩
def Ar.pushR (A:Ar) (m:Nat) (v:Rf):Res:=if 32≤(A.rt m).n then ⟨A,.no,.no,4⟩ else ⟨A.setRt m ((A.rt m).push v),.no,v,0⟩
def Ar.loadR (A:Ar) (m i f:Int):Res:=
 if m<0∨(A.many:Int)≤m then ⟨A,.no,.no,3⟩ else if (A.rootR m i).2≠0 then ⟨A,.no,.no,(A.rootR m i).2⟩ else
 if (A.H.loadR (A.rootR m i).1 f).2≠0 then ⟨A,.no,.no,(A.H.loadR (A.rootR m i).1 f).2⟩ else
 if (A.H.loadR (A.rootR m i).1 f).1.nz=false then ⟨A,.no,.no,5⟩ else A.pushR m.toNat (A.H.loadR (A.rootR m i).1 f).1
def Ar.storeR (A:Ar) (m i f j:Int):Res:=
 if (A.rootR m i).2≠0 then ⟨A,.no,.no,(A.rootR m i).2⟩ else if (A.valueR m j).2≠0 then ⟨A,.no,.no,(A.valueR m j).2⟩ else
 if (A.H.storeR (A.rootR m i).1 f (A.valueR m j).1).2.2≠0 then ⟨A,.no,.no,(A.H.storeR (A.rootR m i).1 f (A.valueR m j).1).2.2⟩ else
 ⟨{ A with H:=(A.H.storeR (A.rootR m i).1 f (A.valueR m j).1).1 },(A.H.storeR (A.rootR m i).1 f (A.valueR m j).1).2.1,(A.valueR m j).1,0⟩
def Ar.dropR (A:Ar) (m i:Int):Res:=
 if m<0∨(A.many:Int)≤m then ⟨A,.no,.no,3⟩ else if i<0∨((A.rt m.toNat).n:Int)≤i then ⟨A,.no,.no,3⟩ else ⟨A.setRt m.toNat ((A.rt m.toNat).drop i.toNat),.no,(A.rt m.toNat).f i.toNat,0⟩
def Ar.putR (A:Ar) (m i k:Int):Res:=
 if (A.valueR m i).2≠0 then ⟨A,.no,.no,(A.valueR m i).2⟩ else if k<0∨8≤k then ⟨A,.no,.no,3⟩ else ⟨{ A with gl:=updf A.gl k.toNat (A.valueR m i).1 },A.gl k.toNat,(A.valueR m i).1,0⟩
def Ar.getR (A:Ar) (m k:Int):Res:=
 if m<0∨(A.many:Int)≤m then ⟨A,.no,.no,3⟩ else if k<0∨8≤k then ⟨A,.no,.no,3⟩ else if (A.gl k.toNat).nz=false then ⟨A,.no,.no,5⟩ else A.pushR m.toNat (A.gl k.toNat)
def Ar.freeR (A:Ar) (r:Rf):Ar × Int:=({ A with H:=(A.H.freeR r).1 },(A.H.freeR r).2)
structure Rf.Ok (r:Rf):Prop where
 s0:0≤r.s
 s1:r.s<256
 g0:1≤r.g
 g1:r.g≤4294967295
theorem Rf.Ok.wf {r:Rf} (h:r.Ok):r.Wf:=⟨by have:=h.g0;omega,h.g1⟩
theorem Rf.Ok.nz {r:Rf} (h:r.Ok):r.nz=true:=by
 have:=h.g0
 simp only [Rf.nz,Bool.not_eq_true',Bool.and_eq_false_iff,beq_eq_false_iff_ne]
 right;omega
theorem Rf.Ok.bad {r:Rf} (h:r.Ok):r.bad=false:=by
 obtain⟨h0,h1,h2,h3⟩:=h
 simp only [Rf.bad,Bool.and_eq_false_iff,Bool.or_eq_false_iff,decide_eq_false_iff_not]
 right;omega
theorem Rf.no_bad:Rf.no.bad=false:=rfl
theorem Rf.no_wf:Rf.no.Wf:=⟨by decide,by decide⟩
theorem Rf.ok_of {r:Rf} (hn:r.nz=true) (hb:r.bad=false) (hw:r.Wf):r.Ok:=by
 simp only [Rf.bad,hn,Bool.true_and,Bool.or_eq_false_iff,decide_eq_false_iff_not] at hb
 exact⟨by omega,by omega,by omega,hw.2⟩
def Rf.Fine (r:Rf):Prop:=r = .no∨r.Ok
theorem Rf.Fine.wf {r:Rf} (h:r.Fine):r.Wf:=by rcases h with rfl | h;exact Rf.no_wf;exact h.wf
theorem Rf.Fine.bad {r:Rf} (h:r.Fine):r.bad=false:=by rcases h with rfl | h;exact Rf.no_bad;exact h.bad
theorem Rf.Fine.ok {r:Rf} (h:r.Fine) (hn:r.nz=true):r.Ok:=by
 rcases h with rfl | h
 ·cases hn
 ·exact h
structure Ar.Ok (A:Ar):Prop where
 n1:1≤A.H.T.n
 n2:A.H.T.n≤256
 m1:1≤A.many
 m4:A.many≤4
 tb:∀ i,i<A.H.T.n→1≤A.H.T.gn i∧A.H.T.gn i≤4294967295
 ob:∀ i,(A.H.ob i).Good
 rt:∀ m,m<A.many→(A.rt m).n≤32∧∀ i,i<(A.rt m).n→((A.rt m).f i).Ok
 gl:∀ i,i<8→(A.gl i).Fine
theorem ckV_Ok {A:Ar} (h:A.Ok) {r:Rf} (hc:ckV A.H.T r.s r.g=0):r.Ok:=by
 obtain⟨i,h1,h2,h3,h4⟩:=ckV_ok hc
 have:=h.tb i h2
 have:=h.n2
 exact⟨by omega,by omega,by omega,by omega⟩
theorem Ob.Good.fine {o:Ob} (h:o.Good) {i:Nat} (hi:i<4):(o.fs i).Fine:=by
 rcases hn:(o.fs i).nz with _ | _
 ·exact .inl (Rf.nz_false hn)
 ·exact .inr (Rf.ok_of hn (h.ok i hi hn).2 (h.wf i))
theorem Ar.Ok.root {A:Ar} (h:A.Ok) {m i:Int} (he:(A.rootR m i).2=0):(A.rootR m i).1.Ok:=by
 unfold Ar.rootR at he ⊢
 split at he
 ·cases he
 ·split at he
  ·cases he
  ·rename_i h1 h2
   rw [if_neg h1,if_neg h2]
   exact (h.rt m.toNat (by omega)).2 i.toNat (by omega)
theorem Ar.Ok.value {A:Ar} (h:A.Ok) (m i:Int):(A.valueR m i).1.Fine:=by
 unfold Ar.valueR
 split
 ·exact .inl rfl
 ·split
  ·exact .inl rfl
  ·by_cases he:(A.rootR m i).2=0
   ·exact .inr (h.root he)
   ·left
    unfold Ar.rootR at he ⊢
    split
    ·rfl
    ·split
     ·rfl
     ·rename_i h1 h2
      rw [if_neg h1,if_neg h2] at he
      exact absurd rfl he
theorem Ar.Ok.field {A:Ar} (h:A.Ok) (r:Rf) (i:Int):(A.H.loadR r i).1.Fine:=by
 unfold Hp.loadR
 split
 ·exact .inl rfl
 ·split
  ·exact .inl rfl
  ·have:=(h.ob r.s.toNat).n4
   exact (h.ob _).fine (by omega)
theorem Ar.Ok.setRt {A:Ar} (h:A.Ok) {m:Nat} {S:Sk} (hn:S.n≤32) (hS:∀ i,i<S.n→(S.f i).Ok):(A.setRt m S).Ok:=by
 refine⟨h.n1,h.n2,h.m1,h.m4,h.tb,h.ob,fun k hk=>?_,h.gl⟩
 show (updf A.rt m S k).n≤32∧∀ i,i<(updf A.rt m S k).n→((updf A.rt m S k).f i).Ok
 by_cases e:k=m
 ·subst e;rw [updf_same];exact⟨hn,hS⟩
 ·rw [updf_ne _ _ e];exact h.rt k hk
theorem Sk.push_ok {S:Sk} {r:Rf} (hS:∀ i,i<S.n→(S.f i).Ok) (hr:r.Ok):∀ i,i<(S.push r).n→((S.push r).f i).Ok:=by
 intro i hi
 show (updf S.f S.n r i).Ok
 by_cases e:i=S.n
 ·subst e;rw [updf_same];exact hr
 ·rw [updf_ne _ _ e];exact hS i (by have:i<S.n+1:=hi;omega)
theorem Ar.Ok.push {A:Ar} (h:A.Ok) {m:Nat} (hm:m<A.many) {r:Rf} (hr:r.Ok) (hn:(A.rt m).n<32):(A.setRt m ((A.rt m).push r)).Ok:=
 h.setRt (S:=(A.rt m).push r) (by show (A.rt m).n+1≤32;omega) (Sk.push_ok (h.rt m hm).2 hr)
theorem Ar.Ok.pushR {A:Ar} (h:A.Ok) {m:Nat} (hm:m<A.many) {r:Rf} (hr:r.Ok):(A.pushR m r).A.Ok:=by
 unfold Ar.pushR
 split
 ·exact h
 ·exact h.push hm hr (by omega)
theorem Ar.Ok.dropR {A:Ar} (h:A.Ok) (m i:Int):(A.dropR m i).A.Ok:=by
 unfold Ar.dropR
 split
 ·exact h
 ·split
  ·exact h
  ·rename_i h1 h2
   obtain⟨hn,hf⟩:=h.rt m.toNat (by omega)
   refine h.setRt (S:=(A.rt m.toNat).drop i.toNat) (by show (A.rt m.toNat).n - 1≤32;omega) (fun j hj=>?_)
   have hj':j<(A.rt m.toNat).n - 1:=hj
   show (if i.toNat≤j∧j<(A.rt m.toNat).n - 1 then (A.rt m.toNat).f (j+1) else (A.rt m.toNat).f j).Ok
   split
   ·exact hf _ (by omega)
   ·exact hf _ (by omega)
theorem Ar.Ok.made {A:Ar} (h:A.Ok) {m i:Nat} {g:Int} {o:Ob} (hm:m<A.many) (hi:i<A.H.T.n) (hg:A.H.T.gn i=g) (ho:o.Good) (hn:(A.rt m).n<32):(A.made m i g o).Ok:=by
 have hgi:=h.tb i hi
 have h1:(A.setRt m ((A.rt m).push ⟨i,g⟩)).Ok:=h.push hm (r:=⟨i,g⟩) ⟨by simp,by have:=h.n2;show (i:Int)<256;omega,by show 1≤g;omega,by show g≤4294967295;omega⟩ hn
 refine⟨h.n1,h.n2,h.m1,h.m4,fun j hj=>?_,fun j=>?_,h1.rt,h.gl⟩
 ·show 1≤upd A.H.T.gn i g j∧upd A.H.T.gn i g j≤4294967295
  unfold upd
  split
  ·rw [← hg];exact hgi
  ·exact h.tb j hj
 ·show (updf A.H.ob i o j).Good
  by_cases e:j=i
  ·subst e;rw [updf_same];exact ho
  ·rw [updf_ne _ _ e];exact h.ob j
theorem Ar.Ok.makeR {A:Ar} (h:A.Ok) (m n:Int) (hd:Bool):(A.makeR m n hd).A.Ok:=by
 unfold Ar.makeR
 split
 ·exact h
 split
 ·exact h
 split
 ·exact h
 split
 ·exact h
 ·rename_i h1 h2 h3 _ i g r hx
  have hk:okNew n hd:=Decidable.not_not.1 h2
  obtain⟨_,hg,hi⟩:=Tb.inn_mem (T:=A.H.T) (s:=0) (k:=A.H.T.n) (i:=i) (g:=g) (by rw [hx];simp)
  exact h.made (by omega) hi hg (Ob.new_good hk) (by omega)
theorem Ar.Ok.loadR {A:Ar} (h:A.Ok) (m i f:Int):(A.loadR m i f).A.Ok:=by
 unfold Ar.loadR
 split
 ·exact h
 split
 ·exact h
 split
 ·exact h
 split
 ·exact h
 ·rename_i h1 h2 h3 h4
  exact h.pushR (by omega) ((h.field _ _).ok (by simpa using h4))
theorem Ar.Ok.getR {A:Ar} (h:A.Ok) (m k:Int):(A.getR m k).A.Ok:=by
 unfold Ar.getR
 split
 ·exact h
 split
 ·exact h
 split
 ·exact h
 ·rename_i h1 h2 h3
  exact h.pushR (by omega) ((h.gl _ (by omega)).ok (by simpa using h3))
theorem Ar.Ok.putR {A:Ar} (h:A.Ok) (m i k:Int):(A.putR m i k).A.Ok:=by
 unfold Ar.putR
 split
 ·exact h
 split
 ·exact h
 ·refine⟨h.n1,h.n2,h.m1,h.m4,h.tb,h.ob,h.rt,fun j hj=>?_⟩
  show (updf A.gl k.toNat (A.valueR m i).1 j).Fine
  by_cases e:j=k.toNat
  ·subst e;rw [updf_same];exact h.value m i
  ·rw [updf_ne _ _ e];exact h.gl j hj
theorem Hp.storeR_T (H:Hp) (r:Rf) (i:Int) (v:Rf):(H.storeR r i v).1.T=H.T:=by
 unfold Hp.storeR
 split
 ·rfl
 split
 ·rfl
 split <;> rfl
theorem Hp.storeR_good {H:Hp} (h:∀ k,(H.ob k).Good) (r:Rf) (i:Int) {v:Rf} (hv:v.Fine):∀ k,((H.storeR r i v).1.ob k).Good:=by
 unfold Hp.storeR
 split
 ·exact h
 split
 ·exact h
 split
 ·exact h
 ·rename_i q1 q2 q3
  intro k
  show (updf H.ob _ _ k).Good
  by_cases e:k=r.s.toNat
  ·rw [e,updf_same];exact Ob.set_good (h _) (by omega) hv.bad hv.wf
  ·rw [updf_ne _ _ e];exact h k
theorem Ar.Ok.setHS {A:Ar} (h:A.Ok) {H:Hp} (hT:H.T=A.H.T) (hg:∀ k,(H.ob k).Good):({ A with H:=H }:Ar).Ok:=
 ⟨by show 1≤H.T.n;rw [hT];exact h.n1,by show H.T.n≤256;rw [hT];exact h.n2,h.m1,h.m4,by show ∀ i,i<H.T.n→_;rw [hT];exact h.tb,hg,h.rt,h.gl⟩
theorem Ar.Ok.storeR {A:Ar} (h:A.Ok) (m i f j:Int):(A.storeR m i f j).A.Ok:=by
 unfold Ar.storeR
 split
 ·exact h
 split
 ·exact h
 split
 ·exact h
 ·exact h.setHS (Hp.storeR_T _ _ _ _) (Hp.storeR_good h.ob _ _ (h.value m j))
theorem Ar.Ok.freeR {A:Ar} (h:A.Ok) (r:Rf):(A.freeR r).1.Ok:=by
 unfold Ar.freeR Hp.freeR
 split
 ·exact h
 ·rename_i hc
  have hc':ckV A.H.T r.s r.g=0:=Decidable.not_not.1 hc
  obtain⟨i,h1,h2,h3,h4⟩:=ckV_ok hc'
  have hg:=h.tb i h2
  refine⟨by show 1≤(A.H.T.give _).n;rw [Tb.give_n];exact h.n1,by show (A.H.T.give _).n≤256;rw [Tb.give_n];exact h.n2,h.m1,h.m4,fun j hj=>?_,fun j=>?_,h.rt,h.gl⟩
  ·have hj':j<A.H.T.n:=by have:j<(A.H.T.give r.s.toNat).n:=hj;rwa [Tb.give_n] at this
   have hjg:=h.tb j hj'
   show 1≤(A.H.T.give r.s.toNat).gn j∧(A.H.T.give r.s.toNat).gn j≤4294967295
   have hri:r.s.toNat=i:=by omega
   rw [hri]
   unfold Tb.give
   split
   ·show 1≤upd A.H.T.gn i (A.H.T.gn i+1) j∧upd A.H.T.gn i (A.H.T.gn i+1) j≤4294967295
    unfold upd;split <;> omega
   ·show 1≤upd A.H.T.gn i (A.H.T.gn i) j∧upd A.H.T.gn i (A.H.T.gn i) j≤4294967295
    unfold upd;split <;> omega
  ·show (updf A.H.ob r.s.toNat (Ob.new 0 false) j).Good
   by_cases e:j=r.s.toNat
   ·rw [e,updf_same];exact Ob.new_good ⟨by decide,by decide,fun h=>by cases h⟩
   ·rw [updf_ne _ _ e];exact h.ob j
theorem Ar.Ok.new {n k:Nat} {g:Int} (n1:1≤n) (n2:n≤256) (m1:1≤k) (m4:k≤4) (g1:1≤g) (g2:g≤4294967295):(Ar.new n k g).Ok:=by
 refine⟨n1,n2,m1,m4,fun i hi=>?_,fun i=>Ob.new_good ⟨by decide,by decide,fun h=>by cases h⟩,fun m hm=>⟨Nat.zero_le _,fun i hi=>?_⟩,fun i _=>.inl rfl⟩
 ·have hi':i<n:=hi
  show 1≤(if i<n then g else 0)∧(if i<n then g else 0)≤4294967295
  rw [if_pos hi'];exact⟨g1,g2⟩
 ·exact absurd hi (Nat.not_lt_zero _)
end Go.Proofs.YtnlkfbndlngjaaaGreat
namespace Go.Proofs.YtnlkfbndlngjaaaGreat
def Bf.list (B:Bf):List Int:=(List.range B.n).map (fun i=>B.f ((B.from'+i) % B.size))
def Bf.drain (B:Bf):Bf:={ B with from':=(B.from'+B.n) % B.size,n:=0 }
def Mk.drain1 (M:Mk) (j:Nat):Mk:={ M.shade (M.B j).list with B:=updf M.B j (M.B j).drain }
def Mk.drains (M:Mk):Nat→Mk
 | 0=>M
 | k+1=>(M.drains k).drain1 k
def Mk.scanAt (M:Mk) (H:Hp) (i:Nat):Mk:=if H.T.st i=1 then M.scan H i else { M with P:=M.P.put i 2 }
def Mk.trace1 (M:Mk) (H:Hp):Mk:=
 if M.S.n=0 then
  match M.P.gr M.P.n with
  | []=>{ M with K:=M.K.go }
  | i :: _=>M.scanAt H i
 else if M.P.c (M.S.f (M.S.n - 1)).toNat=1 then Mk.scanAt { M with S:=M.S.pop } H (M.S.f (M.S.n - 1)).toNat else { M with S:=M.S.pop }
def Mk.traceR (M:Mk) (H:Hp):Mk:=(M.drains M.K.many).trace1 H
def Ar.glL (A:Ar):List Rf:=((List.range 8).map A.gl).filter (·.nz)
def Mk.stepR (M:Mk) (A:Ar):Mk:=
 if M.K.ph=1 then (if M.K.ready=true then Mk.shade { M with K:=M.K.go } ((hres A.H A.glL).map (·.s)) else M)
 else if M.K.ph=2 then (if M.K.ready=true then { M with K:=M.K.go } else M)
 else if M.K.ph=3 then M.traceR A.H else M
structure AckRes where
 M:Mk
 is:Bool
 e:Int
def Mk.ackR (M:Mk) (A:Ar) (i:Int):AckRes:=
 if i<0∨(M.K.many:Int)≤i then ⟨M,false,3⟩ else if ¬ (M.K.ph=1∨M.K.ph=2) then ⟨M,false,8⟩ else
 if M.K.ph=2∧M.K.seen i.toNat=false then ⟨Mk.shade { M with K:=M.K.ack i.toNat } ((hres A.H (A.rt i.toNat).l).map (·.s)),true,0⟩
 else ⟨{ M with K:=M.K.ack i.toNat },!M.K.seen i.toNat,0⟩
def Mk.known (M:Mk) (r:Rf):Bool:=!r.nz || (decide (0≤r.s) && decide (r.s<M.P.n))
def Mk.note1 (M:Mk) (i:Nat) (r:Rf):Mk:=if r.nz=true then M.note i r.s else M
def Mk.wroteR (M:Mk) (i:Int) (was now:Rf):Mk × Int:=
 if i<0∨(M.K.many:Int)≤i then (M,3) else if (M.known was && M.known now)=false then (M,2) else
 if M.K.bar i.toNat=true then ((M.note1 i.toNat was).note1 i.toNat now,0) else (M,0)
def Pt.born (P:Pt) (i:Nat):Pt:=if P.c i=0 then P.put i 2 else P
def Mk.madeR (M:Mk) (r:Rf):Mk × Int:=
 if r.s<0∨(M.P.n:Int)≤r.s∨r.g=0 then (M,2) else if 2≤M.K.ph then ({ M with P:=M.P.born r.s.toNat },0) else (M,0)
def Mk.freedR (M:Mk) (s:Int):Mk × Int:=if s<0∨(M.P.n:Int)≤s then (M,3) else ({ M with P:=M.P.put s.toNat 0 },0)
def setd (B:Nat→Bf) (k:Nat):Nat→Bf:=fun j=>if j<k then (B j).drain.settle else B j
def Mk.endedR (M:Mk):Mk:=⟨M.K.go,M.P.clear,M.S.clear,setd M.B M.K.many⟩
def Mk.goR (M:Mk):Mk × Int:=if M.K.ph<4 then (M,8) else if M.K.ph=4 then ({ M with K:=M.K.go },0) else (M.endedR,0)
def Mk.beginR (M:Mk):Mk × Int:=if M.K.ph=0 then ({ M with K:=M.K.to 1 },0) else (M,8)
def Mk.markedR (M:Mk) (s:Int):Bool × Int:=if s<0∨(M.P.n:Int)≤s then (false,3) else (!(M.P.c s.toNat == 0),0)
structure Mk.Ok (M:Mk):Prop where
 n1:1≤M.P.n
 n2:M.P.n≤256
 k1:1≤M.K.many
 k4:M.K.many≤4
 ph:M.K.ph≤5
 st:∀ j,0≤M.S.f j∧M.S.f j<M.P.n
 bf:∀ j,j<M.K.many→∀ i,0≤(M.B j).f i∧(M.B j).f i<M.P.n
theorem shd_st {P:Pt} {S:Sq} {i:Nat} {n:Nat} (h:∀ j,0≤S.f j∧S.f j<n) (hi:i<n):∀ j,0≤(shd P S i).2.f j∧(shd P S i).2.f j<n:=by
 unfold shd
 split
 ·split
  ·exact h
  ·intro j
   show 0≤updf S.f S.n (i:Int) j∧updf S.f S.n (i:Int) j<n
   by_cases e:j=S.n
   ·rw [e,updf_same];omega
   ·rw [updf_ne _ _ e];exact h j
 ·exact h
theorem shds_st {n:Nat}:∀ (l:List Int) (PS:Pt × Sq),(∀ j,0≤PS.2.f j∧PS.2.f j<n)→(∀ x∈l,0≤x∧x<(n:Int))→∀ j,0≤(shds PS l).2.f j∧(shds PS l).2.f j<n
 | [],_,h,_=>h
 | x :: l,PS,h,hl=>shds_st l _ (shd_st h (by have:=hl x (by simp);omega)) (fun y hy=>hl y (by simp [hy]))
theorem Mk.Ok.shade {M:Mk} (h:M.Ok) {l:List Int} (hl:∀ x∈l,0≤x∧x<(M.P.n:Int)):(M.shade l).Ok:=by
 have hn:(M.shade l).P.n=M.P.n:=shds_n (M.P,M.S) l
 refine⟨by rw [hn];exact h.n1,by rw [hn];exact h.n2,h.k1,h.k4,h.ph,?_,?_⟩
 ·rw [hn];exact shds_st l (M.P,M.S) h.st hl
 ·rw [hn];exact h.bf
theorem Mk.Ok.list {M:Mk} (h:M.Ok) {j:Nat} (hj:j<M.K.many):∀ x∈(M.B j).list,0≤x∧x<(M.P.n:Int):=by
 intro x hx
 obtain⟨i,_,rfl⟩:=List.mem_map.1 hx
 exact h.bf j hj _
theorem hres_mem {A:Ar} {n:Nat} (hn:A.H.T.n=n) {l:List Rf}:∀ x∈(hres A.H l).map (·.s),0≤x∧x<(n:Int):=by
 intro x hx;have:=hres_s hx;omega
theorem Mk.Ok.setB {M:Mk} (h:M.Ok) {j:Nat} {B:Bf} (hB:∀ i,0≤B.f i∧B.f i<(M.P.n:Int)):({ M with B:=updf M.B j B }:Mk).Ok:=by
 refine⟨h.n1,h.n2,h.k1,h.k4,h.ph,h.st,fun k hk=>?_⟩
 show ∀ i,0≤(updf M.B j B k).f i∧(updf M.B j B k).f i<_
 by_cases e:k=j
 ·subst e;rw [updf_same];exact hB
 ·rw [updf_ne _ _ e];exact h.bf k hk
theorem Mk.Ok.drain1 {M:Mk} (h:M.Ok) {j:Nat} (hj:j<M.K.many):(M.drain1 j).Ok:=
 (h.shade (h.list hj)).setB (M:=M.shade (M.B j).list) (j:=j) (B:=(M.B j).drain) (fun i=>by rw [show (M.shade (M.B j).list).P.n=M.P.n from shds_n (M.P,M.S) _];exact h.bf j hj i)
theorem Mk.drain1_K (M:Mk) (j:Nat):(M.drain1 j).K=M.K∧(M.drain1 j).P.n=M.P.n:=⟨rfl,shds_n (M.P,M.S) _⟩
theorem Mk.drains_K (M:Mk) (k:Nat):(M.drains k).K=M.K∧(M.drains k).P.n=M.P.n:=by
 induction k with
 | zero=>exact⟨rfl,rfl⟩
 | succ k ih=>exact⟨((M.drains k).drain1_K k).1.trans ih.1,((M.drains k).drain1_K k).2.trans ih.2⟩
theorem Mk.Ok.drains {M:Mk} (h:M.Ok) {k:Nat} (hk:k≤M.K.many):(M.drains k).Ok:=by
 induction k with
 | zero=>exact h
 | succ k ih=>exact (ih (by omega)).drain1 (by rw [(M.drains_K k).1];omega)
theorem Mk.Ok.withK {M:Mk} (h:M.Ok) {K:Ck} (hm:K.many=M.K.many) (hp:K.ph≤5):({ M with K:=K }:Mk).Ok:=
 ⟨h.n1,h.n2,by rw [hm];exact h.k1,by rw [hm];exact h.k4,hp,h.st,by rw [hm];exact h.bf⟩
theorem Ck.go_ph (K:Ck):K.go.ph≤5:=by show (K.ph+1) % 6≤5;omega
theorem Mk.Ok.go {M:Mk} (h:M.Ok):({ M with K:=M.K.go }:Mk).Ok:=h.withK rfl (Ck.go_ph _)
theorem Mk.Ok.put {M:Mk} (h:M.Ok) (i:Nat) (x:Int):({ M with P:=M.P.put i x }:Mk).Ok:=⟨h.n1,h.n2,h.k1,h.k4,h.ph,h.st,h.bf⟩
theorem Mk.Ok.pop {M:Mk} (h:M.Ok):({ M with S:=M.S.pop }:Mk).Ok:=
 ⟨h.n1,h.n2,h.k1,h.k4,h.ph,h.st,h.bf⟩
theorem Mk.Ok.scanAt {M:Mk} (h:M.Ok) {H:Hp} (hn:H.T.n=M.P.n) (i:Nat):(M.scanAt H i).Ok:=by
 unfold Mk.scanAt
 split
 ·exact (h.shade (l:=chs H (H.ob i)) (fun x hx=>by have:=chs_mem hx;omega)).put i 2
 ·exact h.put i 2
theorem Mk.scanAt_K (M:Mk) (H:Hp) (i:Nat):(M.scanAt H i).K=M.K∧(M.scanAt H i).P.n=M.P.n:=by
 unfold Mk.scanAt
 split
 ·exact⟨rfl,shds_n (M.P,M.S) _⟩
 ·exact⟨rfl,rfl⟩
theorem Mk.Ok.trace1 {M:Mk} (h:M.Ok) {H:Hp} (hn:H.T.n=M.P.n):(M.trace1 H).Ok:=by
 unfold Mk.trace1
 split
 ·split
  ·exact h.go
  ·exact h.scanAt hn _
 ·split
  ·exact h.pop.scanAt hn _
  ·exact h.pop
theorem Mk.Ok.traceR {M:Mk} (h:M.Ok) {H:Hp} (hn:H.T.n=M.P.n):(M.traceR H).Ok:=
 (h.drains (Nat.le_refl _)).trace1 (by rw [(M.drains_K _).2];exact hn)
theorem Mk.Ok.stepR {M:Mk} (h:M.Ok) {A:Ar} (hn:A.H.T.n=M.P.n):(M.stepR A).Ok:=by
 unfold Mk.stepR
 split
 ·split
  ·exact h.go.shade (M:={ M with K:=M.K.go }) (fun x hx=>hres_mem hn x hx)
  ·exact h
 split
 ·split
  ·exact h.go
  ·exact h
 split
 ·exact h.traceR hn
 ·exact h
theorem Mk.Ok.ackR {M:Mk} (h:M.Ok) {A:Ar} (hn:A.H.T.n=M.P.n) (i:Int):(M.ackR A i).M.Ok:=by
 have hk:({ M with K:=M.K.ack i.toNat }:Mk).Ok:=h.withK (K:=M.K.ack i.toNat) rfl h.ph
 unfold Mk.ackR
 split
 ·exact h
 split
 ·exact h
 split
 ·exact hk.shade (fun x hx=>hres_mem hn x hx)
 ·exact hk
theorem Mk.Ok.note {M:Mk} (h:M.Ok) {i:Nat} (hi:i<M.K.many) {x:Int} (h0:0≤x) (h1:x<M.P.n):(M.note i x).Ok:=by
 unfold Mk.note
 split
 ·have hb:=h.setB (j:=i) (B:=(M.B i).over) (h.bf i hi)
  have hs:=hb.shade (l:=[x]) (by intro y hy;simp only [List.mem_singleton] at hy;subst hy;exact⟨h0,h1⟩)
  exact hs
 ·refine h.setB (j:=i) (B:=(M.B i).note x) (fun k=>?_)
  show 0≤updf (M.B i).f _ x k∧updf (M.B i).f _ x k<_
  by_cases e:k=((M.B i).from'+(M.B i).n) % (M.B i).size
  ·rw [e,updf_same];exact⟨h0,h1⟩
  ·rw [updf_ne _ _ e];exact h.bf i hi k
theorem Mk.note1_K (M:Mk) (i:Nat) (r:Rf):(M.note1 i r).K=M.K∧(M.note1 i r).P.n=M.P.n:=by
 unfold Mk.note1
 split
 ·exact⟨M.note_K i r.s,M.note_P i r.s⟩
 ·exact⟨rfl,rfl⟩
theorem Mk.known_nz {M:Mk} {r:Rf} (h:M.known r=true) (hn:r.nz=true):0≤r.s∧r.s<M.P.n:=by
 simpa [Mk.known,hn] using h
theorem Mk.Ok.note1 {M:Mk} (h:M.Ok) {i:Nat} (hi:i<M.K.many) {r:Rf} (hr:M.known r=true):(M.note1 i r).Ok:=by
 unfold Mk.note1
 split
 ·rename_i hn
  obtain⟨h0,h1⟩:=Mk.known_nz hr hn
  exact h.note hi h0 h1
 ·exact h
theorem Mk.Ok.wroteR {M:Mk} (h:M.Ok) (i:Int) (was now:Rf):(M.wroteR i was now).1.Ok:=by
 unfold Mk.wroteR
 split
 ·exact h
 split
 ·exact h
 split
 ·rename_i h1 h2 _
  have h2':M.known was=true∧M.known now=true:=by simpa using h2
  refine (h.note1 (by omega) h2'.1).note1 (by rw [(M.note1_K _ _).1];omega) ?_
  unfold Mk.known at h2' ⊢
  rw [(M.note1_K _ _).2]
  exact h2'.2
 ·exact h
theorem Mk.Ok.freedR {M:Mk} (h:M.Ok) (s:Int):(M.freedR s).1.Ok:=by
 unfold Mk.freedR
 split
 ·exact h
 ·exact h.put _ _
theorem Mk.Ok.madeR {M:Mk} (h:M.Ok) (r:Rf):(M.madeR r).1.Ok:=by
 unfold Mk.madeR
 split
 ·exact h
 split
 ·show ({ M with P:=M.P.born r.s.toNat }:Mk).Ok
  unfold Pt.born
  split
  ·exact h.put _ _
  ·exact h
 ·exact h
theorem Mk.Ok.endedR {M:Mk} (h:M.Ok):M.endedR.Ok:=by
 refine⟨h.n1,h.n2,h.k1,h.k4,Ck.go_ph _,h.st,fun j hj i=>?_⟩
 show 0≤(setd M.B M.K.many j).f i∧(setd M.B M.K.many j).f i<_
 have hj':j<M.K.many:=hj
 unfold setd
 rw [if_pos hj']
 exact h.bf j hj' i
theorem Mk.Ok.goR {M:Mk} (h:M.Ok):M.goR.1.Ok:=by
 unfold Mk.goR
 split
 ·exact h
 split
 ·exact h.go
 ·exact h.endedR
theorem Mk.Ok.beginR {M:Mk} (h:M.Ok):M.beginR.1.Ok:=by
 unfold Mk.beginR
 split
 ·exact h.withK (K:=M.K.to 1) rfl (show 1≤5 by decide)
 ·exact h
end Go.Proofs.YtnlkfbndlngjaaaGreat
