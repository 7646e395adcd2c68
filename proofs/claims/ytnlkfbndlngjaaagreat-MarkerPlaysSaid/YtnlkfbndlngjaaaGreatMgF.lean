import Derived.Test.YtnlkfbndlngjaaaGreatMgE
set_option maxHeartbeats 4000000
set_option maxRecDepth 100000
namespace Go.Proofs.YtnlkfbndlngjaaaGreat
open Go.RowKit
def Hp.setF (H:Hp) (k i:Nat) (v:Rf):Hp:={ H with ob:=updf H.ob k ((H.ob k).set i v) }
theorem Ob.getR_ok {o:Ob} {i:Nat} (h:(i:Int)<o.n):o.getR i = .tuple #[(o.fs i).val,.int .i64 0]:=by
 rw [Ob.getR,if_neg (by omega)];rfl
theorem Ob.setR_ok {o:Ob} {i:Nat} {v:Rf} (h:(i:Int)<o.n) (hb:v.bad=false):o.setR i v = .tuple #[.agg (o.set i v).arr,(o.fs i).val,.int .i64 0]:=by
 rw [Ob.setR,if_neg (by simp [hb]),if_neg (by omega)];rfl
theorem Ob.set_fs {o:Ob} {i j:Nat} {v:Rf} (hi:i<4) (hj:j<4):(o.set i v).fs j=if j=i then v else o.fs j:=by
 match i,hi,j,hj with
 | 0,_,0,_=>rfl
 | 0,_,1,_=>rfl
 | 0,_,2,_=>rfl
 | 0,_,3,_=>rfl
 | 1,_,0,_=>rfl
 | 1,_,1,_=>rfl
 | 1,_,2,_=>rfl
 | 1,_,3,_=>rfl
 | 2,_,0,_=>rfl
 | 2,_,1,_=>rfl
 | 2,_,2,_=>rfl
 | 2,_,3,_=>rfl
 | 3,_,0,_=>rfl
 | 3,_,1,_=>rfl
 | 3,_,2,_=>rfl
 | 3,_,3,_=>rfl
theorem Ob.set_n {o:Ob} {i:Nat} {v:Rf}:(o.set i v).n=o.n∧(o.set i v).h=o.h:=by
 unfold Ob.set
 split <;> exact⟨rfl,rfl⟩
theorem Ob.fs_three {o:Ob} {i:Nat} (h:3≤i):o.fs i=o.fs 3:=by
 match i,h with
 | 3,_=>rfl
 | n+4,_=>rfl
theorem Ob.set_good {o:Ob} {i:Nat} {v:Rf} (hg:o.Good) (hi:(i:Int)<o.n) (hb:v.bad=false) (hv:v.Wf):(o.set i v).Good:=by
 have hi4:i<4:=by have:=hg.n4;omega
 have key:∀ j,j<4→((o.set i v).fs j).Wf:=fun j hj=>by
  rw [Ob.set_fs hi4 hj]
  split
  ·exact hv
  ·exact hg.wf j
 refine⟨by rw [Ob.set_n.1];exact hg.n0,by rw [Ob.set_n.1];exact hg.n4,fun h=>by rw [Ob.set_n.1];rw [Ob.set_n.2] at h;exact hg.hn h,fun j=>?_,fun j hj hn=>?_⟩
 ·rcases Nat.lt_or_ge j 4 with h | h
  ·exact key j h
  ·rw [Ob.fs_three (by omega)];exact key 3 (by omega)
 ·rw [Ob.set_fs hi4 hj] at hn ⊢
  rw [Ob.set_n.1]
  split at hn
  ·rename_i e;subst e;simp only [if_true];exact⟨hi,hb⟩
  ·rename_i e;rw [if_neg e];exact hg.ok j hj hn
theorem hst0 (b o:Nat) (w:World):Calls Tryz.prog 184 #[.pointer (some ⟨b,o,none⟩)] w fun e w'=>e = .returned (.int .i64 0)∧w'=w:=by
 go_enter Tryz.func184,Tryz.ntmps184
 go_wp2
 go_ret
 exact⟨rfl,rfl⟩
theorem hthere (b t:Nat) (H:Hp) (s g:Int) (w:World) (h:HpAt w b t H) (hc:ckV H.T s g=0):
 Calls Tryz.prog 171 #[.pointer (some ⟨b,0,none⟩),.agg #[.int .i64 s,.int .u32 g],.func (.func 184) #[] #[]] w fun e w'=>e = .returned (.int .i64 0)∧Keeps (fun _=>False) w w':=by
 obtain⟨i,rfl,_⟩:=ckV_ok hc
 refine (hwith_ok b t H i g 184 #[] (fun k w'=>k=0∧Keeps (fun _=>False) w w') w h hc (enters_of Tryz.func184 (by kernel_rfl) rfl)
  (fun w' hk _=>(hst0 b (2+i * 10) w').mono (by rintro e w2 ⟨rfl,h2⟩;exact⟨0,rfl,rfl,by rw [h2];exact hk⟩)) (fun k w h=>⟨h.1,h.2.drew⟩)).mono ?_
 rintro e w2 ⟨k,rfl,rfl,hk⟩
 exact⟨rfl,hk⟩
def HeldS (w:World) (b o Bi Bv i:Nat) (O:Ob) (v:Rf) (W:World):Prop:=
 Keeps (fun y=>w.heap.size≤y) w W∧W.cell? ⟨b,o,none⟩=some (.int .i64 O.n)∧W.cell? ⟨b,o+1,none⟩=some (.int .i64 O.f0.s)∧W.cell? ⟨b,o+2,none⟩=some (.int .u32 O.f0.g)∧W.cell? ⟨b,o+3,none⟩=some (.int .i64 O.f1.s)∧W.cell? ⟨b,o+4,none⟩=some (.int .u32 O.f1.g)∧W.cell? ⟨b,o+5,none⟩=some (.int .i64 O.f2.s)∧W.cell? ⟨b,o+6,none⟩=some (.int .u32 O.f2.g)∧W.cell? ⟨b,o+7,none⟩=some (.int .i64 O.f3.s)∧W.cell? ⟨b,o+8,none⟩=some (.int .u32 O.f3.g)∧W.cell? ⟨b,o+9,none⟩=some (.bool O.h)∧W.cell? ⟨Bi,0,none⟩=some (.int .i64 i)∧W.cell? ⟨Bv,0,none⟩=some (.int .i64 v.s)∧W.cell? ⟨Bv,1,none⟩=some (.int .u32 v.g)
theorem hst1_ok (b t:Nat) (H:Hp) (k i:Nat) (v:Rf) (Bi Bv Bh Bw:Nat) (w:World) (h:HpAt w b t H) (hk:k<256) (hi:(i:Int)<(H.ob k).n) (hv:v.nz=true→ckV H.T v.s v.g=0) (hb:v.bad=false) (hw:v.Wf)
 (q1:w.heap[Bi]?=some (.cells #[.int .i64 i] 3)) (q2:w.heap[Bv]?=some (.cells #[.int .i64 v.s,.int .u32 v.g] 34)) (q3:w.heap[Bh]?=some (.cells #[.pointer (some ⟨b,0,none⟩)] 47))
 (q4:w.heap[Bw]?=some (.cells #[.int .i64 0,.int .u32 0] 34)) (hbw:Bw≠b) (htw:Bw≠t):
 Calls Tryz.prog 182 #[.pointer (some ⟨b,2+k * 10,none⟩),.pointer (some ⟨Bi,0,none⟩),.pointer (some ⟨Bv,0,none⟩),.pointer (some ⟨Bh,0,none⟩),.pointer (some ⟨Bw,0,none⟩)] w
  fun e w'=>e = .returned (.int .i64 0)∧Keeps (fun y=>y=b∨y=Bw) w w'∧HpAt w' b t (H.setF k i v)∧w'.heap[Bw]?=some (.cells #[.int .i64 ((H.ob k).fs i).s,.int .u32 ((H.ob k).fs i).g] 34):=by
 have hgood:=h.good k
 have hbl:=h.lt
 have hn4:(H.ob k).n≤4:=hgood.n4
 have HGet:∀ w,_:=fun w=>fget_any (H.ob k) i w hgood
 have HSet:∀ w,_:=fun w=>fset_any (H.ob k) i v w hgood hw
 rw [Ob.getR_ok hi] at HGet
 rw [Ob.setR_ok hi hb] at HSet
 have HTh:=hid (fun (w':World) (hk:Keeps (fun _=>False) w w') (hn:v.nz=true)=>hthere b t H v.s v.g w' (h.keeps hk (fun h=>h) (fun h=>h)) (hv hn))
 have HF:=hid (fun (w':World) (hk':Keeps (fun _=>False) w w')=>And.intro (ten ((h.keeps hk' (fun h=>h) (fun h=>h)).obj hk)) (And.intro (cells1 (block_keep q1 hk' (fun h=>h))) (And.intro (cells2 (block_keep q2 hk' (fun h=>h))) (And.intro (cells1 (block_keep q3 hk' (fun h=>h))) (cells2 (block_keep q4 hk' (fun h=>h)))))))
 have HH:=hid (fun (w':World) (hk':Keeps (fun _=>False) w w')=>And.intro (h.keeps hk' (fun h=>h) (fun h=>h)) (block_keep q4 hk' (fun h=>h)))
 have HGood:=hid (Ob.set_good hgood hi hb hw)
 obtain⟨O',hO'⟩:∃ O',(H.ob k).set i v=O':=⟨_,rfl⟩
 have HO':=hid hO'
 obtain⟨r,hr⟩:∃ r,(H.ob k).fs i=r:=⟨_,rfl⟩
 have HR:=hid hr
 rw [hr] at HGet HSet
 rw [hO'] at HSet HGood
 obtain⟨O,hO⟩:∃ O,H.ob k=O:=⟨_,rfl⟩
 have HO:=hid hO
 rw [hO] at HGet HSet HF
 simp only [Ob.arr,Rf.val] at HGet HSet
 have hG:=hid HGet;have hS:=hid HSet
 have HI:=hid hi;have HK:=hid hk;have HN:=hid (And.intro hbw htw)
 clear HGet HSet hgood h hv q1 q2 q3 q4 hr hO' hO hw hb hi hk hn4 hbw htw
 have hn:∀ w,Sem.run Tryz.prog (binOp .neq 34 (.agg #[.int .i64 v.s,.int .u32 v.g]) (.agg #[.int .i64 0,.int .u32 0])) w = .ok (.bool v.nz) w:=fun w=>neq_ref w v.s v.g 0 0
 obtain⟨⟨o0,o1,o2,o3,o4,o5,o6,o7,o8,o9⟩,⟨i0,_,li⟩,⟨v0,v1,_,lv⟩,⟨h0,_,lh⟩,⟨w0,w1,wf,lw⟩⟩:=HF.out _ (Keeps.refl _ _)
 go_enter Tryz.func182,Tryz.ntmps182
 go_upto_region 1 with (fail)
 go_cut [7,8] (fun _ s8 wx=>s8 = .int .i64 0∧Keeps (fun _=>False) w wx)
 case first=>
  go_region_with (go_at_call 183;refine (hG.out _).mono ?_;rintro e w1 ⟨rfl,hk1⟩;(first | (have nab:=block_keep (alloc_new (w:=w)) ((Keeps.drew (Keeps.refl (fun _=>False) _)).trans hk1) (fun h=>h);have nax:=cells2 nab;obtain⟨na0,na1,naf,nat⟩:=nax;have naf0:=naf 0;have naf1:=naf 1) | (have nab:=block_keep (alloc_old (alloc_new (w:=w))) ((Keeps.drew (Keeps.refl (fun _=>False) _)).trans hk1) (fun h=>h);have nax:=cells2 nab;obtain⟨na0,na1,naf,nat⟩:=nax;have naf0:=naf 0;have naf1:=naf 1) | skip);(first | (have nbb:=block_keep (alloc_new' (n:=w.heap.size+1) (World.size_alloc ..).symm) ((Keeps.drew (Keeps.refl (fun _=>False) _)).trans hk1) (fun h=>h);have nbx:=cells2 nbb;obtain⟨nb0,nb1,nbf,nbt⟩:=nbx;have nbf0:=nbf 0;have nbf1:=nbf 1) | skip))
  all_goals
   go_wp2_with fail
   go_meet
   refine⟨rfl,Keeps.fresh ?_⟩
   repeat (first | (with_reducible exact Keeps.refl _ _) | with_reducible refine Keeps.setCell ?_ ?_ _ | with_reducible refine Keeps.alloc ?_ _ | with_reducible refine Keeps.drewN ?_ _ | with_reducible refine Keeps.drew ?_ | with_reducible refine Keeps.trans ?_ (Keeps.up hk1))
   all_goals first | (left;simp;done) | (left;simp;omega) | (right;simp;done) | (right;simp;omega)
 case rest=>
  obtain⟨rfl,hkc⟩:=hcut
  clear o0 o1 o2 o3 o4 o5 o6 o7 o8 o9 i0 li v0 v1 lv h0 lh w0 w1 wf lw
  obtain⟨⟨o0,o1,o2,o3,o4,o5,o6,o7,o8,o9⟩,⟨i0,_,li⟩,⟨v0,v1,_,lv⟩,⟨h0,_,lh⟩,⟨w0,w1,wf,lw⟩⟩:=HF.out _ hkc
  have hbl2:b<wc.heap.size:=by have:=hkc.size;omega
  have HKC:=hid hkc;clear hkc
  go_upto_if 26 with fail
  go_cut [9] (fun _ wx=>Keeps (fun _=>False) w wx)
  case first=>
   rcases he:v.nz with _ | _
   ·go_wp2_with fail
    go_meet
    exact HKC.out
   ·go_wp2_with fail
    refine (HTh.out _ HKC.out he).mono ?_
    rintro e w2 ⟨rfl,hk2⟩
    go_wp2_with fail
    go_meet
    exact HKC.out.trans hk2
  case rest=>
   clear o0 o1 o2 o3 o4 o5 o6 o7 o8 o9 i0 li v0 v1 lv h0 lh w0 w1 wf lw hbl2
   clear HKC
   obtain⟨⟨o0,o1,o2,o3,o4,o5,o6,o7,o8,o9⟩,⟨i0,_,li⟩,⟨v0,v1,_,lv⟩,⟨h0,_,lh⟩,⟨w0,w1,wf,lw⟩⟩:=HF.out _ hcut
   have hbl2:b<wc.heap.size:=by have:=hcut.size;omega
   have HKC:=hid hcut;clear hcut
   go_upto_region 8 with (fail)
   go_cut [10,11,12] (fun s10 s11 s12 wx=>∃ B C,s10 = .pointer (some ⟨B,0,none⟩)∧s11 = .pointer (some ⟨C,0,none⟩)∧s12 = .int .i64 0∧Keeps (fun _=>False) w wx∧wx.heap[B]?=some (.cells O'.arr 111)∧wx.heap[C]?=some (.cells #[.int .i64 r.s,.int .u32 r.g] 34))
   case first=>
    have hcw:=HKC.out.size
    have HKC':Hid (Keeps (fun y=>w.heap.size≤y) w wc):=hid HKC.out.up
    have HSK:=hid (fun (W:World) (hk:Keeps (fun y=>w.heap.size≤y) w W)=>show HeldS w b (2+k * 10) Bi Bv i O v W from by
     obtain⟨⟨o0,o1,o2,o3,o4,o5,o6,o7,o8,o9⟩,⟨i0,_,li⟩,⟨v0,v1,_,lv⟩,_⟩:=HF.out _ hk.fresh
     exact⟨hk,o0,o1,o2,o3,o4,o5,o6,o7,o8,o9,i0,v0,v1⟩)
    unfold HeldS at HSK
    go_region_held3 (fun W=>Keeps (fun y=>w.heap.size≤y) w W∧W.cell? ⟨b,2+k * 10,none⟩=some (.int .i64 O.n)∧W.cell? ⟨b,2+k * 10+1,none⟩=some (.int .i64 O.f0.s)∧W.cell? ⟨b,2+k * 10+2,none⟩=some (.int .u32 O.f0.g)∧W.cell? ⟨b,2+k * 10+3,none⟩=some (.int .i64 O.f1.s)∧W.cell? ⟨b,2+k * 10+4,none⟩=some (.int .u32 O.f1.g)∧W.cell? ⟨b,2+k * 10+5,none⟩=some (.int .i64 O.f2.s)∧W.cell? ⟨b,2+k * 10+6,none⟩=some (.int .u32 O.f2.g)∧W.cell? ⟨b,2+k * 10+7,none⟩=some (.int .i64 O.f3.s)∧W.cell? ⟨b,2+k * 10+8,none⟩=some (.int .u32 O.f3.g)∧W.cell? ⟨b,2+k * 10+9,none⟩=some (.bool O.h)∧W.cell? ⟨Bi,0,none⟩=some (.int .i64 i)∧W.cell? ⟨Bv,0,none⟩=some (.int .i64 v.s)∧W.cell? ⟨Bv,1,none⟩=some (.int .u32 v.g))
     ((refine HSK.out _ ?_;(repeat (first | with_reducible exact HKC'.out | with_reducible refine Keeps.alloc ?_ _ | with_reducible refine Keeps.drew ?_ | with_reducible refine Keeps.setCell ?_ (.inl ?_) _ | with_reducible refine Keeps.trans ?_ (Keeps.up (by assumption)))) <;> (dsimp only;omega)))
     (first | (go_at_call 185;refine (hS.out _).mono ?_;rintro e w1 ⟨rfl,hk1⟩;have hsz1:=((Keeps.drew (Keeps.refl (fun _=>False) _)).trans hk1).size;(try simp only [World.size_alloc] at hsz1);(first | (have nab:=block_keep (alloc_new (w:=wc)) ((Keeps.drew (Keeps.refl (fun _=>False) _)).trans hk1) (fun h=>h);have nax:=cells2 nab;obtain⟨na0,na1,naf,nat⟩:=nax;have naf0:=naf 0;have naf1:=naf 1) | (have nab:=block_keep (alloc_old (alloc_new (w:=wc))) ((Keeps.drew (Keeps.refl (fun _=>False) _)).trans hk1) (fun h=>h);have nax:=cells2 nab;obtain⟨na0,na1,naf,nat⟩:=nax;have naf0:=naf 0;have naf1:=naf 1) | skip);(first | (have nbb:=block_keep (alloc_new' (n:=wc.heap.size+1) (World.size_alloc ..).symm) ((Keeps.drew (Keeps.refl (fun _=>False) _)).trans hk1) (fun h=>h);have nbx:=cells2 nbb;obtain⟨nb0,nb1,nbf,nbt⟩:=nbx;have nbf0:=nbf 0;have nbf1:=nbf 1) | skip);(first | (have ncb:=block_keep (alloc_new (w:=wc)) ((Keeps.drew (Keeps.refl (fun _=>False) _)).trans hk1) (fun h=>h);have ncx:=cells10 ncb;obtain⟨nc0,nc1,nc2,nc3,nc4,nc5,nc6,nc7,nc8,nc9,ncf,nct⟩:=ncx;have ncf0:=ncf 0;have ncf1:=ncf 1;have ncf2:=ncf 2;have ncf3:=ncf 3;have ncf4:=ncf 4;have ncf5:=ncf 5;have ncf6:=ncf 6;have ncf7:=ncf 7;have ncf8:=ncf 8;have ncf9:=ncf 9) | (have ncb:=block_keep (alloc_old (alloc_new (w:=wc))) ((Keeps.drew (Keeps.refl (fun _=>False) _)).trans hk1) (fun h=>h);have ncx:=cells10 ncb;obtain⟨nc0,nc1,nc2,nc3,nc4,nc5,nc6,nc7,nc8,nc9,ncf,nct⟩:=ncx;have ncf0:=ncf 0;have ncf1:=ncf 1;have ncf2:=ncf 2;have ncf3:=ncf 3;have ncf4:=ncf 4;have ncf5:=ncf 5;have ncf6:=ncf 6;have ncf7:=ncf 7;have ncf8:=ncf 8;have ncf9:=ncf 9) | skip);(first | (have ndb:=block_keep (alloc_new' (n:=wc.heap.size+1) (World.size_alloc ..).symm) ((Keeps.drew (Keeps.refl (fun _=>False) _)).trans hk1) (fun h=>h);have ndx:=cells10 ndb;obtain⟨nd0,nd1,nd2,nd3,nd4,nd5,nd6,nd7,nd8,nd9,ndf,ndt⟩:=ndx;have ndf0:=ndf 0;have ndf1:=ndf 1;have ndf2:=ndf 2;have ndf3:=ndf 3;have ndf4:=ndf 4;have ndf5:=ndf 5;have ndf6:=ndf 6;have ndf7:=ndf 7;have ndf8:=ndf 8;have ndf9:=ndf 9) | skip)))
    all_goals
     go_wp2_with fail
     go_meet
     refine⟨_,_,rfl,rfl,rfl,Keeps.fresh ?_,?_,?_⟩
     ·(repeat (first | with_reducible exact HKC'.out | with_reducible refine Keeps.alloc ?_ _ | with_reducible refine Keeps.drew ?_ | with_reducible refine Keeps.setCell ?_ (.inl ?_) _ | with_reducible refine Keeps.trans ?_ (Keeps.up hk1))) <;> (dsimp only;omega)
     ·try dsimp only [Ob.arr]
      repeat (first | (with_reducible assumption) | (with_reducible refine alloc_new' ?_;simp;done) | (with_reducible refine alloc_old ?_) | (with_reducible apply fin10) | (with_reducible apply fin2) | (with_reducible refine set_oth2 ?_ ?_;focus (first | (simp;done) | (dsimp only;omega))))
     ·try dsimp only [Ob.arr]
      repeat (first | (with_reducible assumption) | (with_reducible refine alloc_new' ?_;simp;done) | (with_reducible refine alloc_old ?_) | (with_reducible apply fin10) | (with_reducible apply fin2) | (with_reducible refine set_oth2 ?_ ?_;focus (first | (simp;done) | (dsimp only;omega))))
   case rest=>
    obtain⟨B,C,rfl,rfl,rfl,hk3,hB,hC⟩:=hcut
    clear o0 o1 o2 o3 o4 o5 o6 o7 o8 o9 i0 li v0 v1 lv h0 lh w0 w1 wf lw hbl2 HKC
    obtain⟨⟨o0,o1,o2,o3,o4,o5,o6,o7,o8,o9⟩,⟨i0,_,li⟩,⟨v0,v1,_,lv⟩,⟨h0,_,lh⟩,⟨w0,w1,wf,lw⟩⟩:=HF.out _ hk3
    have hbl2:b<wc.heap.size:=by have:=hk3.size;omega
    obtain⟨b0,b1,b2,b3,b4,b5,b6,b7,b8,b9,bf,bl⟩:=cells10 hB
    obtain⟨r0,r1,rf,rl⟩:=cells2 hC
    obtain⟨HHH,Hw⟩:=HH.out _ hk3
    have df:=HHH.frozen
    have g0:=df (2+k * 10);have g1:=df (2+k * 10+1);have g2:=df (2+k * 10+2);have g3:=df (2+k * 10+3);have g4:=df (2+k * 10+4)
    have g5:=df (2+k * 10+5);have g6:=df (2+k * 10+6);have g7:=df (2+k * 10+7);have g8:=df (2+k * 10+8);have g9:=df (2+k * 10+9)
    have wf0:=wf 0;have wf1:=wf 1
    have HW:=hid Hw;have HX:=hid HHH;have HK3:=hid hk3
    clear hB hC bf rf wf df HHH Hw hk3
    go_upto_region 10 with (fail)
    go_region
    all_goals
     go_wp2_with fail
     go_ret
     have k10:=keeps10 (Keeps.refl (fun y=>y=b) wc) (b:=b) (.inl rfl) (2+k * 10) (.int .i64 O'.n) (.int .i64 O'.f0.s) (.int .u32 O'.f0.g) (.int .i64 O'.f1.s) (.int .u32 O'.f1.g) (.int .i64 O'.f2.s) (.int .u32 O'.f2.g) (.int .i64 O'.f3.s) (.int .u32 O'.f3.g) (.bool O'.h)
     have kk:∀ W:World,Keeps (fun y=>y=Bw) W ((W.setCell ⟨Bw,0,none⟩ (.int .i64 r.s)).setCell ⟨Bw,1,none⟩ (.int .u32 r.g)).drew:=fun W=>((keeps_set1 _ _ _ _).trans (keeps_set1 _ _ _ _)).drew
     have kw:=k10.trans' (kk _) (U:=fun y=>y=b∨y=Bw) (fun _ _ h=>.inl h) (fun _ _ h=>.inr h)
     obtain⟨⟨c,hc,hC⟩,ht,hne,hg⟩:=HX.out
     have q1:=block_keep (set10_block hc (2+k * 10) (.int .i64 O'.n) (.int .i64 O'.f0.s) (.int .u32 O'.f0.g) (.int .i64 O'.f1.s) (.int .u32 O'.f1.g) (.int .i64 O'.f2.s) (.int .u32 O'.f2.g) (.int .i64 O'.f3.s) (.int .u32 O'.f3.g) (.bool O'.h)) (kk _) (fun h=>HN.out.1 h.symm)
     have q2:=(hC.setOb k HK.out O')
     unfold setOb at q2
     have q3:=ht.keeps kw (fun h=>by rcases h with h | h;exact hne h.symm;exact HN.out.2 h.symm)
     have q4:∀ j,((H.setF k i v).ob j).Good:=by
      intro j
      simp only [Hp.setF,updf]
      split
      ·rw [HO'.out];exact HGood.out
      ·exact hg j
     have q5:=block_keep (fin2 (block_keep HW.out k10 HN.out.1) (v0:=.int .i64 r.s) (v1:=.int .u32 r.g)) (Keeps.refl (fun _=>False) _).drew (fun h=>h)
     have q6:=HK3.out.up.trans kw
     clear hC ht hg
     rw [HR.out]
     have q7:H.setF k i v=⟨H.T,updf H.ob k O'⟩:=by rw [← HO'.out];rfl
     rw [q7] at q4 ⊢
     refine⟨rfl,?_,⟨⟨_,?_,q2⟩,?_,hne,q4⟩,?_⟩
     ·with_reducible exact q6
     ·with_reducible exact q1
     ·with_reducible exact q3
     ·with_reducible exact q5
end Go.Proofs.YtnlkfbndlngjaaaGreat
namespace Go.Proofs.YtnlkfbndlngjaaaGreat
open Go.RowKit
theorem hstore_ok (b t:Nat) (H:Hp) (k i:Nat) (g:Int) (v:Rf) (w:World) (h:HpAt w b t H) (hc:ckV H.T k g=0) (hi:(i:Int)<(H.ob k).n) (hv:v.nz=true→ckV H.T v.s v.g=0) (hb:v.bad=false) (hw:v.Wf):
 Calls Tryz.prog 110 #[.pointer (some ⟨b,0,none⟩),.agg #[.int .i64 k,.int .u32 g],.int .i64 i,.agg #[.int .i64 v.s,.int .u32 v.g]] w
  fun e w'=>e = .returned (.tuple #[((H.ob k).fs i).val,.int .i64 0])∧Keeps (fun y=>y=b) w w'∧HpAt w' b t (H.setF k i v):=by
 have hk:=ck_lt h hc
 have hbl:=h.lt
 have htl:=h.tab.lt
 have HW:=hid (fun (w0:World) Bi Bv Bh Bw (hk0:Keeps (fun _=>False) w w0) (q1:w0.heap[Bi]?=some (.cells #[.int .i64 i] 3)) (q2:w0.heap[Bv]?=some (.cells #[.int .i64 v.s,.int .u32 v.g] 34)) (q3:w0.heap[Bh]?=some (.cells #[.pointer (some ⟨b,0,none⟩)] 47))
  (q4:w0.heap[Bw]?=some (.cells #[.int .i64 0,.int .u32 0] 34)) (hbw:Bw≠b) (htw:Bw≠t)=>
  hwith_ok b t H k g 182 #[.pointer (some ⟨Bi,0,none⟩),.pointer (some ⟨Bv,0,none⟩),.pointer (some ⟨Bh,0,none⟩),.pointer (some ⟨Bw,0,none⟩)]
   (fun e w'=>e=0∧Keeps (fun y=>y=b∨y=Bw) w0 w'∧HpAt w' b t (H.setF k i v)∧w'.heap[Bw]?=some (.cells #[.int .i64 ((H.ob k).fs i).s,.int .u32 ((H.ob k).fs i).g] 34)) w0
   (h.keeps hk0 (fun h=>h) (fun h=>h)) hc (enters_of Tryz.func182 (by kernel_rfl) rfl)
   (fun w' hk' _=>(hst1_ok b t H k i v Bi Bv Bh Bw w' (h.keeps (hk0.trans hk') (fun h=>h) (fun h=>h)) hk hi hv hb hw (block_keep q1 hk' (fun h=>h)) (block_keep q2 hk' (fun h=>h)) (block_keep q3 hk' (fun h=>h)) (block_keep q4 hk' (fun h=>h)) hbw htw).mono (by
    rintro e w2 ⟨rfl,h2,h3,h4⟩
    exact⟨0,rfl,rfl,hk'.trans' h2 (fun _ _ h=>h.elim) (fun _ _ h=>h),h3,h4⟩))
   (fun k w h=>⟨h.1,h.2.1.drew,h.2.2.1.keeps ((Keeps.refl (fun _=>False) _).drew) (fun h=>h) (fun h=>h),h.2.2.2⟩))
 clear h hc hi hv hb hw hk
 go_enter Tryz.func110,Tryz.ntmps110
 go_wp2_with fail
 refine (HW.out _ _ _ _ _ ((((((Keeps.refl _ _).alloc _).alloc _).alloc _).alloc _ |>.alloc _).alloc _) (alloc_old <| alloc_old <| alloc_old <| alloc_new' (by simp)) (alloc_old <| alloc_old <| alloc_new' (by simp)) (alloc_old <| alloc_old <| alloc_old <| alloc_old <| alloc_old alloc_new) (alloc_new' (by simp)) (by omega) (by omega)).mono ?_
 rintro e w1 ⟨k',rfl,rfl,hk1,hh1,hq⟩
 obtain⟨r,hr⟩:∃ r,(H.ob k).fs i=r:=⟨_,rfl⟩
 rw [hr] at hq
 have HR:=hid hr
 clear hr
 obtain⟨c0,c1,_,_⟩:=cells2 hq
 obtain⟨a0,a1,af,al⟩:=cells2 (block_keep (b:=w.heap.size+1+1+1+1) (alloc_old <| alloc_new' (by simp)) hk1 (fun h=>by rcases h with h | h <;> omega))
 have f0:=af 0;have f1:=af 1
 have HH:=hid hh1
 have HK:=hid (((((((Keeps.refl (fun y=>y=b∨w.heap.size≤y) w).alloc _).alloc _).alloc _).alloc _ |>.alloc _).alloc _).trans' hk1 (U:=fun y=>y=b∨w.heap.size≤y) (fun _ _ h=>h) (fun y _ h=>by rcases h with h | h;exact .inl h;exact .inr (by omega)))
 clear hk1 hh1 hq af
 go_wp2_with fail
 have kk:∀ W:World,Keeps (fun y=>y=w.heap.size+1+1+1+1) W ((W.setCell ⟨w.heap.size+1+1+1+1,0,none⟩ (.int .i64 r.s)).setCell ⟨w.heap.size+1+1+1+1,1,none⟩ (.int .u32 r.g)):=fun W=>(keeps_set1 _ _ _ _).trans (keeps_set1 _ _ _ _)
 refine bodyPost_ret_by (v:=.tuple #[((H.ob k).fs i).val,.int .i64 0]) (by rw [HR.out];simp [results,Tryz.results110,go_sem,Rf.val, *]) rfl ⟨rfl,?_,HH.out.keeps (kk _) (by omega) (by omega)⟩
 refine Keeps.mono (S:=fun y=>y=b∨w.heap.size≤y) ?_ (fun y hy h=>by rcases h with h | h;exact h;omega)
 exact HK.out.trans' (kk _) (U:=fun y=>y=b∨w.heap.size≤y) (fun _ _ h=>h) (fun y _ h=>.inr (by omega))
end Go.Proofs.YtnlkfbndlngjaaaGreat
