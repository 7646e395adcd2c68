import Derived.Test.YtnlkfbndlngjaaaGreatMgK
set_option maxHeartbeats 1000000
set_option maxRecDepth 100000
namespace Go.Proofs.YtnlkfbndlngjaaaGreat
open Go.RowKit
theorem mnew_bad (n k s p:Int) (w:World) (hb:n<1∨256<n∨k<1∨4<k∨s<1∨64<s∨p<1∨64<p):
 Calls Tryz.prog 21 #[.int .i64 n,.int .i64 k,.int .i64 s,.int .i64 p] w fun e w'=>e = .returned (.tuple #[.pointer none,.int .i64 2])∧Keeps (fun _=>False) w w':=by
 by_cases h1:n<1∨256<n
 ·clear hb
  go_enter Tryz.func21,Tryz.ntmps21
  go_wp2_with fail
  refine (cnew_bad n _ h1).mono ?_
  rintro e w' ⟨rfl,h'⟩
  obtain rfl:=h'.symm
  go_wp2_with fail
  go_ret2
  refine⟨rfl,Keeps.fresh ?_⟩
  repeat (first | (with_reducible exact (Keeps.refl _ _)) | with_reducible refine Keeps.setCell ?_ ?_ _ | with_reducible refine Keeps.alloc ?_ _ | with_reducible refine Keeps.drewN ?_ _ | with_reducible refine Keeps.drew ?_)
  all_goals first | (left;simp;done) | (left;simp;omega) | (right;simp;done) | (right;simp;omega)
 ·have HC:=hid (fun w=>cnew_ok n w (by omega) (by omega))
  by_cases h2:k<1∨4<k
  ·clear hb h1
   go_enter Tryz.func21,Tryz.ntmps21
   go_wp2_with fail
   refine (HC.out _).mono ?_
   rintro e w1 ⟨rfl,hk1,hp1⟩
   have hq:=block_keep (alloc_new (w:=w)) hk1 (fun h=>h)
   obtain⟨c0,c1,c2,c3,c4,c5,cl⟩:=cells6 hq
   have f3:=frozen_block hq 3;have f2:=frozen_block hq 2
   have HK1:=hid (((Keeps.refl (fun y=>w.heap.size≤y) w).alloc _).trans hk1.up)
   have hl1:=hp1.lt
   clear hk1 hp1 hq
   go_wp2_with fail
   refine (ph_bad k _ h2).mono ?_
   rintro e w' ⟨rfl,h'⟩
   obtain rfl:=h'.symm
   go_wp2_with fail
   go_ret2
   refine⟨rfl,Keeps.fresh ?_⟩
   repeat (first | (with_reducible exact HK1.out) | with_reducible refine Keeps.setCell ?_ ?_ _ | with_reducible refine Keeps.alloc ?_ _ | with_reducible refine Keeps.drewN ?_ _ | with_reducible refine Keeps.drew ?_)
   all_goals first | (left;simp;done) | (left;simp;omega) | (right;simp;done) | (right;simp;omega)
  ·obtain⟨k,rfl⟩:∃ j:Nat,k=j:=⟨k.toNat,by omega⟩
   have HP:=hid (fun w=>ph_new k w (by omega) (by omega))
   by_cases h3:s<1∨64<s
   ·clear hb h1 h2
    go_enter Tryz.func21,Tryz.ntmps21
    go_wp2_with fail
    refine (HC.out _).mono ?_
    rintro e w1 ⟨rfl,hk1,hp1⟩
    have hq:=block_keep (alloc_new (w:=w)) hk1 (fun h=>h)
    obtain⟨c0,c1,c2,c3,c4,c5,cl⟩:=cells6 hq
    have f3:=frozen_block hq 3;have f2:=frozen_block hq 2
    have HQ1:=hid hq
    have HK1:=hid (((Keeps.refl (fun y=>w.heap.size≤y) w).alloc _).trans hk1.up)
    clear hk1 hp1 hq
    go_wp2_with fail
    refine (HP.out _).mono ?_
    rintro e w2 ⟨rfl,hk2,hp2⟩
    have hq:=block_keep (set_block HQ1.out 3 _) hk2 (fun h=>h)
    obtain⟨d0,d1,d2,d3,d4,d5,dl⟩:=cells6 (hq.trans rfl)
    have g4:=frozen_block hq 4;have g2:=frozen_block hq 2
    have HK2:=hid ((HK1.out.setCell (p:=⟨w.heap.size,3,none⟩) (.inl (Nat.le_refl _)) _).trans hk2.up)
    clear hk2 hp2 hq c0 c1 c2 c3 c4 c5 f2 f3
    go_wp2_with fail
    refine (qnew_bad s _ h3).mono ?_
    rintro e w' ⟨rfl,h'⟩
    obtain rfl:=h'.symm
    go_wp2_with fail
    go_ret2
    refine⟨rfl,Keeps.fresh ?_⟩
    repeat (first | (with_reducible exact HK2.out) | with_reducible refine Keeps.setCell ?_ ?_ _ | with_reducible refine Keeps.alloc ?_ _ | with_reducible refine Keeps.drewN ?_ _ | with_reducible refine Keeps.drew ?_)
    all_goals first | (left;simp;done) | (left;simp;omega) | (right;simp;done) | (right;simp;omega)
   ·have HS:=hid (fun w=>qnew_ok s w (by omega) (by omega))
    have h4:p<1∨64<p:=by omega
    have hk1:(0:Int)<k:=by omega
    clear hb h1 h2 h3
    go_enter Tryz.func21,Tryz.ntmps21
    go_wp2_with fail
    refine (HC.out _).mono ?_
    rintro e w1 ⟨rfl,hk1,hp1⟩
    have hq:=block_keep (alloc_new (w:=w)) hk1 (fun h=>h)
    obtain⟨c0,c1,c2,c3,c4,c5,cl⟩:=cells6 hq
    have f3:=frozen_block hq 3;have f2:=frozen_block hq 2
    have HQ1:=hid hq
    have HK1:=hid (((Keeps.refl (fun y=>w.heap.size≤y) w).alloc _).trans hk1.up)
    clear hk1 hp1 hq
    go_wp2_with fail
    refine (HP.out _).mono ?_
    rintro e w2 ⟨rfl,hk2,hp2⟩
    have hq:=block_keep (set_block HQ1.out 3 _) hk2 (fun h=>h)
    obtain⟨d0,d1,d2,d3,d4,d5,dl⟩:=cells6 (hq.trans rfl)
    have g4:=frozen_block hq 4;have g2:=frozen_block hq 2
    have HQ2:=hid hq
    have HK2:=hid ((HK1.out.setCell (p:=⟨w.heap.size,3,none⟩) (.inl (Nat.le_refl _)) _).trans hk2.up)
    clear hk2 hp2 hq c0 c1 c2 c3 c4 c5 f2 f3
    go_wp2_with fail
    refine (HS.out _).mono ?_
    rintro e w3 ⟨rfl,hk3,hp3⟩
    have hq:=block_keep (set_block HQ2.out 2 _) hk3 (fun h=>h)
    obtain⟨c0,c1,c2,c3,c4,c5,cl⟩:=cells6 (hq.trans rfl)
    have g4':=frozen_block hq 4
    have HK3:=hid ((HK2.out.setCell (p:=⟨w.heap.size,2,none⟩) (.inl (Nat.le_refl _)) _).trans hk3.up)
    clear hk3 hp3 hq d0 d1 d2 d3 d4 d5 g4 g2
    go_wp2_with fail
    go_loopw [52] (fun ix wr=>ix = .int .i64 0∧Keeps (fun y=>w.heap.size≤y) w wr) (fun _ _=>0)
    case atStart=>
     refine⟨rfl,?_⟩
     repeat (first | (with_reducible exact HK3.out) | with_reducible refine Keeps.setCell ?_ ?_ _ | with_reducible refine Keeps.alloc ?_ _ | with_reducible refine Keeps.drewN ?_ _ | with_reducible refine Keeps.drew ?_)
     all_goals first | (left;simp;done) | (left;simp;omega) | (right;simp;done) | (right;simp;omega)
    case round=>
     obtain⟨rfl,hkk⟩:=hrel
     have HKK:=hid hkk
     clear hkk c0 c1 c2 c3 c4 c5
     go_wp2_with fail
     refine (bnew_bad p _ h4).mono ?_
     rintro e w' ⟨rfl,h'⟩
     obtain rfl:=h'.symm
     go_wp2_with fail
     go_ret2
     exact⟨rfl,HKK.out.fresh⟩
end Go.Proofs.YtnlkfbndlngjaaaGreat
namespace Go.Proofs.YtnlkfbndlngjaaaGreat
open Go.RowKit
theorem pbuf_info:∃ i,Tryz.prog.info? 104=some i∧i.zero=some (.pointer none)∧i.size=1∧i.bytes=8:=by
 have h:(Tryz.prog.info? 104).map (fun i=>(i.zero,i.size,i.bytes))=some (some (.pointer none),1,8):=by kernel_rfl
 rcases hi:Tryz.prog.info? 104 with _ | i
 ·rw [hi] at h;cases h
 ·rw [hi] at h
  simp only [Option.map_some,Option.some.injEq,Prod.mk.injEq] at h
  exact⟨i,rfl,h.1,h.2.1,h.2.2⟩
def ptrs (bb:Nat→Nat) (k:Nat):List Value:=(List.range k).map (fun j=>.pointer (some ⟨bb j,0,none⟩))
theorem ptrs_succ (bb:Nat→Nat) (k x:Nat):ptrs (updf bb k x) (k+1)=ptrs bb k ++ [.pointer (some ⟨x,0,none⟩)]:=by
 rw [ptrs,List.range_succ,List.map_append]
 congr 1
 ·rw [ptrs]
  apply List.map_congr_left
  intro j hj
  rw [updf_ne _ _ (by have:=List.mem_range.1 hj;omega)]
 ·simp [updf]
theorem owns_keeps {w w':World} {base:Nat} {e:TypeId} {size:Nat} {v:Value} {n:Nat} {xs:List Value} {S:Nat→Prop} (h:w.ownsRow base e size v n xs) (hk:Keeps S w w') (hS:∀ k,base≤k→¬ S k):w'.ownsRow base e size v n xs:=by
 obtain⟨h1,h2⟩:=h
 refine⟨h1,?_⟩
 rcases h2 with h2 | ⟨g,cap,cur,rfl,hb,hg,r⟩
 ·exact .inl h2
 ·exact .inr ⟨g,cap,cur,rfl,hb,block_keep hg hk (hS g hb),r⟩
def Mk.new (n many size places:Nat):Mk:=⟨⟨0,many,0,fun _=>false⟩,⟨n,fun _=>0⟩,⟨false,0,size,0,fun _=>0⟩,fun _=>⟨fun _=>0,places,0,0,true⟩⟩
theorem mnew_ok (n k s p:Nat) (w:World) (n1:1≤n) (n2:n≤256) (k1:1≤k) (k4:k≤4) (s1:1≤s) (s2:s≤64) (p1:1≤p) (p2:p≤64):
 Calls Tryz.prog 21 #[.int .i64 n,.int .i64 k,.int .i64 s,.int .i64 p] w fun e w'=>e = .returned (.tuple #[.pointer (some ⟨w.heap.size,0,none⟩),.int .i64 0])∧Keeps (fun _=>False) w w'∧∃ L,MkIn w' w.heap.size L (Mk.new n k s p)∧L.Btw w.heap.size k w.heap.size w'.heap.size:=by
 obtain⟨ii,hi1,hi2,hi3,hi4⟩:=pbuf_info
 have HC:=hid (fun w=>cnew_ok n w (by omega) (by omega))
 have HP:=hid (fun w=>ph_new k w k1 k4)
 have HS:=hid (fun w=>qnew_ok s w (by omega) (by omega))
 have HB:=hid (fun w=>bnew_ok p w (by omega) (by omega))
 go_enter Tryz.func21,Tryz.ntmps21
 go_wp2_with fail
 refine (HC.out _).mono ?_
 rintro e w1 ⟨rfl,hk1,hp1⟩
 have hq:=block_keep (alloc_new (w:=w)) hk1 (fun h=>h)
 obtain⟨c0,c1,c2,c3,c4,c5,cl⟩:=cells6 hq
 have f3:=frozen_block hq 3;have f2:=frozen_block hq 2
 have HQ1:=hid hq
 have HK1:=hid (((Keeps.refl (fun y=>w.heap.size≤y) w).alloc _).trans hk1.up)
 rw [World.size_alloc] at hp1 ⊢
 have HP1:=hid hp1
 have hl1:=hp1.lt
 clear hk1 hp1 hq
 go_wp2_with fail
 refine (HP.out _).mono ?_
 rintro e w2 ⟨rfl,hk2,hp2⟩
 have hsz1:(w1.setCell ⟨w.heap.size,3,none⟩ (.pointer (some ⟨w.heap.size+1,0,none⟩))).heap.size=w1.heap.size:=by simp [World.setCell]
 rw [hsz1] at hp2 ⊢
 have hq:=block_keep (set_block HQ1.out 3 _) hk2 (fun h=>h)
 obtain⟨d0,d1,d2,d3,d4,d5,dl⟩:=cells6 (hq.trans rfl)
 have g4:=frozen_block hq 4;have g2:=frozen_block hq 2
 have HQ2:=hid hq
 have HP2:=hid ((HP1.out.keeps (keeps_set1 _ _ _ _) (by omega)).keeps hk2 (fun h=>h))
 have HCK2:=hid hp2
 have hl2:=hp2.lt
 have HK2:=hid ((HK1.out.setCell (p:=⟨w.heap.size,3,none⟩) (.inl (Nat.le_refl _)) _).trans hk2.up)
 clear hk2 hp2 hq c0 c1 c2 c3 c4 c5 f2 f3 hsz1
 go_wp2_with fail
 refine (HS.out _).mono ?_
 rintro e w3 ⟨rfl,hk3,hp3⟩
 have hsz2:(w2.setCell ⟨w.heap.size,2,none⟩ (.pointer (some ⟨w1.heap.size,0,none⟩))).heap.size=w2.heap.size:=by simp [World.setCell]
 rw [hsz2] at hp3 ⊢
 have hq:=block_keep (set_block HQ2.out 2 _) hk3 (fun h=>h)
 obtain⟨c0,c1,c2,c3,c4,c5,cl⟩:=cells6 (hq.trans rfl)
 have g4':=frozen_block hq 4
 have HQ3:=hid hq
 have hl3:=hp3.lt
 have HP3:=hid ((HP2.out.keeps (keeps_set1 _ _ _ _) (by omega)).keeps hk3 (fun h=>h))
 have HCK3:=hid ((HCK2.out.keeps (keeps_set1 _ _ _ _) (by omega)).keeps hk3 (fun h=>h))
 have HS3:=hid hp3
 have HK3:=hid ((HK2.out.setCell (p:=⟨w.heap.size,2,none⟩) (.inl (Nat.le_refl _)) _).trans hk3.up)
 clear hk3 hp3 hq d0 d1 d2 d3 d4 d5 g4 g2 hsz2
 go_wp2_with fail
 obtain⟨w4,hw4⟩:∃ w4,w3.setCell ⟨w.heap.size,4,none⟩ (.pointer (some ⟨w2.heap.size,0,none⟩))=w4:=⟨_,rfl⟩
 have kw:Keeps (fun y=>y=w.heap.size) w3 w4:=by rw [← hw4];exact keeps_set1 _ _ _ _
 have q4:w4.heap[w.heap.size]?=some (.cells #[.int .i64 n,.int .i64 k,.pointer (some ⟨w1.heap.size,0,none⟩),.pointer (some ⟨w.heap.size+1,0,none⟩),.pointer (some ⟨w2.heap.size,0,none⟩),.slice none 0 0] 100):=by
  rw [← hw4];exact (set_block HQ3.out 4 _).trans rfl
 rw [hw4]
 have HQ4:=hid q4
 have HP4:=hid (HP3.out.keeps kw (by omega));have HCK4:=hid (HCK3.out.keeps kw (by omega));have HS4:=hid (HS3.out.keeps kw (by omega))
 have HK4:=hid (HK3.out.trans' kw (U:=fun y=>w.heap.size≤y) (fun _ _ h=>h) (fun y _ h=>by omega))
 have hz4:=kw.size
 clear kw q4 hw4 c0 c1 c2 c3 c4 c5 g4'
 go_loopw [52] (fun ix wr=>∃ (j:Nat) (bb:Nat→Nat) (v:Value),j≤k∧ix = .int .i64 j∧wr.heap[w.heap.size]?=some (.cells #[.int .i64 n,.int .i64 k,.pointer (some ⟨w1.heap.size,0,none⟩),.pointer (some ⟨w.heap.size+1,0,none⟩),.pointer (some ⟨w2.heap.size,0,none⟩),v] 100)∧
  wr.ownsRow w4.heap.size 104 1 v j (ptrs bb j)∧(∀ x,x<j→BfAt wr (bb x) ⟨fun _=>0,p,0,0,true⟩∧w4.heap.size≤bb x)∧(∀ x y,x<j→y<j→bb x=bb y→x=y)∧Keeps (fun y=>y=w.heap.size∨w4.heap.size≤y) w4 wr) (fun ix _=>k - (intOf ix).toNat)
 case atStart=>exact⟨0,fun _=>0,_,Nat.zero_le _,rfl,HQ4.out,World.ownsRow_nil _ _ _ _,fun _ h=>by omega,fun _ _ h=>by omega,Keeps.refl _ _⟩
 case round=>
  obtain⟨j,bb,v,hj,rfl,hq,hrow,hbf,hinj,hkk⟩:=hrel
  by_cases hlt:j<k
  ·have hlt':(j:Int)<(k:Int):=by omega
   have hj0:(0:Int)≤j:=by omega
   have hszr:=hkk.size
   have HQ:=hid hq;have HROW:=hid hrow;have HBF:=hid hbf;have HINJ:=hid hinj;have HKK:=hid hkk
   clear hq hrow hbf hinj hkk
   go_wp2_with fail
   refine (HB.out _).mono ?_
   rintro e w5 ⟨rfl,hk5,hb5⟩
   have hq5:=block_keep HQ.out hk5 (fun h=>h)
   obtain⟨x0,x1,x2,x3,x4,x5,xl⟩:=cells6 hq5
   have f5:=frozen_block hq5 5
   have HR5:=hid (owns_keeps HROW.out hk5 (fun _ _ h=>h))
   have HQ5:=hid hq5;have HB5:=hid hb5;have HK5:=hid hk5
   have hsz5:=hk5.size
   clear hk5 hb5 hq5
   go_wp2_with (at_builtin;refine wpList_append_own _ rfl _ _ 98 rfl w4.heap.size 104 ii (.pointer none) 1 8 Tryz.underlying98 hi1 hi2 hi3 hi4 rfl (by decide) _ _ _ rfl (World.ownsRow.alloc HR5.out _) ⟨w5.heap.size,0,none⟩ 1 1 [.pointer (some ⟨wr.heap.size,0,none⟩)] rfl ?qc1 ?qc2 ?qc3 ?qc4 ?qc5 ?qc6 ?_)
   case qc1=>rfl
   case qc2=>
    intro i u hi
    match i,hi with
    | 0,hi=>simp at hi;subst hi;simp [Addr.add]
   case qc3=>intro u hu;simp at hu;subst hu;rfl
   case qc4=>unfold maxLen;omega
   case qc5=>omega
   case qc6=>simp;omega
   intro v' w6 hown hgr _
   obtain⟨p',cap',hv'⟩:=own_shape hown
   have hro:=HR5.out.lt
   have hgk:=grown_keeps hgr
   have hnw:¬ v.ownBlock=some w.heap.size:=fun h=>by have:=(hro _ h).1;omega
   have hnb:∀ {x:Nat} {c:Array Value},w5.heap[x]?=some (.cells c 183)→¬ v.ownBlock=some x:=by
    intro x c hx h
    obtain⟨_,h2⟩:=HR5.out
    rcases h2 with⟨h2,_⟩ | ⟨g,cap,cur,rfl,hb,hg,r⟩
    ·subst h2;cases h
    ·simp only [Value.ownBlock,Option.some.injEq] at h
     exact type_ne hx hg (by decide) h.symm
   have q6:=block_keep (alloc_old (o:=.cells #[.pointer (some ⟨wr.heap.size,0,none⟩)] 104) HQ5.out) hgk hnw
   have HR6:=hid hown
   have hbb6:∀ (x:Nat) (B:Bf),BfAt w5 x B→BfAt w6 x B:=by
    rintro x B ⟨c,hx,hc⟩
    exact⟨c,block_keep (alloc_old (o:=.cells #[.pointer (some ⟨wr.heap.size,0,none⟩)] 104) hx) hgk (hnb hx),hc⟩
   have HBB:=hid hbb6
   have f6:=frozen_block q6 5
   have c6:=cell_at (i:=5) q6 rfl
   have HQ6:=hid q6
   have hsz6:=hgk.size
   have HK6:=hid (((HK5.out.up (T:=fun y=>y=w.heap.size∨w4.heap.size≤y)).alloc (.cells #[.pointer (some ⟨wr.heap.size,0,none⟩)] 104)).trans' hgk (U:=fun y=>y=w.heap.size∨w4.heap.size≤y) (fun _ _ h=>h) (fun y _ h=>.inr (hro _ h).1))
   have HV:=hid hv'
   clear hown hgr hgk q6 hro hv' hnw hnb hbb6
   obtain rfl:=HV.out
   simp only [World.size_alloc] at hsz6
   go_wp2_with fail
   have hB0:=HBF.out
   have hsz:=HKK.out.size
   have kl:Keeps (fun y=>y=w.heap.size) w6 (w6.setCell ⟨w.heap.size,5,none⟩ (.slice p' (j+1) cap')):=keeps_set1 _ _ _ _
   refine⟨⟨j+1,updf bb j wr.heap.size,_,by omega,rfl,set_block HQ6.out 5 _,?_,?_,?_,?_⟩,by simp [intOf];omega⟩
   ·rw [ptrs_succ]
    have h:=owns_keeps HR6.out kl (fun y hy h=>by omega)
    exact h
   ·intro x hx
    by_cases he:x=j
    ·subst he
     simp only [updf_same]
     exact⟨(HBB.out _ _ HB5.out).keeps kl (by omega),by omega⟩
    ·simp only [updf_ne _ _ he]
     have h:=hB0 x (by omega)
     have:=h.1.lt
     exact⟨(HBB.out _ _ (h.1.keeps HK5.out (fun h=>h))).keeps kl (by omega),h.2⟩
   ·intro x y hx hy hxy
    by_cases he:x=j <;> by_cases hf:y=j
    ·omega
    ·subst he
     simp only [updf_same,updf_ne _ _ hf] at hxy
     have:=(hB0 y (by omega)).1.lt
     omega
    ·subst hf
     simp only [updf_same,updf_ne _ _ he] at hxy
     have:=(hB0 x (by omega)).1.lt
     omega
    ·simp only [updf_ne _ _ he,updf_ne _ _ hf] at hxy
     exact HINJ.out x y (by omega) (by omega) hxy
   ·exact (HKK.out.trans' HK6.out (U:=fun y=>y=w.heap.size∨w4.heap.size≤y) (fun _ _ h=>h) (fun y _ h=>h)).trans' kl (fun _ _ h=>h) (fun y _ h=>.inl h)
  ·obtain rfl:j=k:=by omega
   have hlt':¬ (j:Int)<(j:Int):=by omega
   have HQ:=hid hq;have HROW:=hid hrow;have HBF:=hid hbf;have HINJ:=hid hinj;have HKK:=hid hkk
   obtain⟨p',cap',hv'⟩:=own_shape HROW.out
   have HV:=hid hv'
   clear hq hrow hbf hinj hkk hv'
   go_wp2_with fail
   obtain rfl:=HV.out
   have hsz:=HKK.out.size
   have hro:=HROW.out.lt
   obtain⟨rl,r2⟩:=HROW.out
   rcases r2 with⟨r2,hj0⟩ | ⟨g,cap,cur,r2,hb,hg,hjc,hcm,hcs,htk⟩
   ·omega
   obtain⟨rfl,rfl⟩:p'=some ⟨g,0,none⟩∧cap'=cap:=by cases r2;exact⟨rfl,rfl⟩
   have hgl:=lt_block hg
   have hkP:PtAt wr (w.heap.size+1) _:=HP4.out.keeps HKK.out (by omega)
   have hkC:CkAt wr w1.heap.size _:=HCK4.out.keeps HKK.out (by omega)
   have hkS:SqAt wr w2.heap.size _:=HS4.out.keeps HKK.out (by omega)
   go_ret2
   refine⟨rfl,?_,⟨w1.heap.size,w.heap.size+1,w2.heap.size,g,cap',bb⟩,⟨HQ.out,⟨cur,hg,?_⟩,hkC,hkP,hkS,fun x hx=>(HBF.out x hx).1,HINJ.out⟩,⟨by omega,by simp only;omega,by simp only;omega,by simp only;omega,by simp only;omega,?_⟩⟩
   ·exact (HK4.out.trans' HKK.out (U:=fun y=>w.heap.size≤y) (fun _ _ h=>h) (fun y _ h=>by rcases h with h | h <;> omega)).fresh
   ·intro x hx
    have e:cur.toList[x]?=(ptrs bb j)[x]?:=by
     rw [← htk,List.getElem?_take_of_lt (by simpa [Mk.new] using hx)]
    rw [Array.getElem?_toList] at e
    rw [e,ptrs,List.getElem?_map,List.getElem?_range (by simpa [Mk.new] using hx)]
    rfl
   ·intro x hx
    have h:=HBF.out x hx
    have:=h.1.lt
    simp only
    omega
end Go.Proofs.YtnlkfbndlngjaaaGreat
namespace Go.Proofs.YtnlkfbndlngjaaaGreat
open Go.RowKit
end Go.Proofs.YtnlkfbndlngjaaaGreat
namespace Go.Proofs.YtnlkfbndlngjaaaGreat
open Go.RowKit
end Go.Proofs.YtnlkfbndlngjaaaGreat
namespace Go.Proofs.YtnlkfbndlngjaaaGreat
open Go.RowKit
def Mk.note (M:Mk) (i:Nat) (x:Int):Mk:=
 if (M.B i).n=(M.B i).size then { M with B:=updf M.B i (M.B i).over,P:=(shd M.P M.S x.toNat).1,S:=(shd M.P M.S x.toNat).2 }
 else { M with B:=updf M.B i ((M.B i).note x) }
theorem Mk.note_P (M:Mk) (i:Nat) (x:Int):(M.note i x).P.n=M.P.n:=by
 unfold Mk.note;split
 ·show (shd M.P M.S x.toNat).1.n=_
  unfold shd;split <;> rfl
 ·rfl
theorem Mk.note_K (M:Mk) (i:Nat) (x:Int):(M.note i x).K=M.K:=by
 unfold Mk.note;split <;> rfl
theorem cells4 {w:World} {b:Nat} {v0 v1 v2 v3:Value} {t:TypeId} (h:w.heap[b]?=some (.cells #[v0,v1,v2,v3] t)):
 w.cell? ⟨b,0,none⟩=some v0∧w.cell? ⟨b,1,none⟩=some v1∧w.cell? ⟨b,2,none⟩=some v2∧w.cell? ⟨b,3,none⟩=some v3∧b<w.heap.size:=
 ⟨cell_at h rfl,cell_at h rfl,cell_at h rfl,cell_at h rfl,lt_block h⟩
end Go.Proofs.YtnlkfbndlngjaaaGreat
namespace Go.Proofs.YtnlkfbndlngjaaaGreat
open Go.RowKit
theorem mmade_bad (m:Nat) (x g:Int) (L:MkL) (M:Mk) (w:World) (h:MkIn w m L M) (hb:x<0∨M.P.n≤x∨g=0):
 Calls Tryz.prog 79 #[.pointer (some ⟨m,0,none⟩),.agg #[.int .i64 x,.int .u32 g]] w fun e w'=>e = .returned (.int .i64 2)∧Keeps (fun _=>False) w w':=by
 have kq:Keeps (fun _=>False) w (w.alloc (.cells #[.int .i64 x,.int .u32 g] 34)):=(Keeps.refl _ w).alloc _
 have hB:=h.keeps0 kq
 have HV:=hid (mvalid m L M _ hB)
 obtain⟨d0,d1,d2,d3,d4,d5,dl⟩:=cells6 hB.own
 have HK:=hid kq
 clear h hB kq
 have fin:∀ (b c d:Bool),decide (x<0)=b→decide ((M.P.n:Int)≤x)=c→decide (g=0)=d→(b || c || d)=true→
  Calls Tryz.prog 79 #[.pointer (some ⟨m,0,none⟩),.agg #[.int .i64 x,.int .u32 g]] w fun e w'=>e = .returned (.int .i64 2)∧Keeps (fun _=>False) w w':=by
  intro b c d hb hc hd hbcd
  cases b
  ·cases c
   ·cases d
    ·cases hbcd
    ·have hd':g=0:=by simpa using hd
     subst hd'
     clear hd hbcd
     go_enter Tryz.func79,Tryz.ntmps79
     go_wp2_with fail
     refine HV.out.mono ?_
     rintro e w' ⟨rfl,h'⟩
     obtain rfl:=h'.symm
     go_wp2_with fail
     go_quiet (fail)
     go_wp2_with fail
     go_ret
     exact⟨rfl,HK.out.drewN _⟩
   ·clear hd hbcd
    go_enter Tryz.func79,Tryz.ntmps79
    go_wp2_with fail
    refine HV.out.mono ?_
    rintro e w' ⟨rfl,h'⟩
    obtain rfl:=h'.symm
    go_wp2_with fail
    go_quiet (fail)
    go_wp2_with fail
    go_ret
    exact⟨rfl,HK.out.drewN _⟩
  ·clear hc hd hbcd
   go_enter Tryz.func79,Tryz.ntmps79
   go_wp2_with fail
   refine HV.out.mono ?_
   rintro e w' ⟨rfl,h'⟩
   obtain rfl:=h'.symm
   go_wp2_with fail
   go_quiet (fail)
   go_wp2_with fail
   go_ret
   exact⟨rfl,HK.out.drewN _⟩
 refine fin _ _ _ rfl rfl rfl ?_
 rcases hb with h | h | h <;> simp [h]
end Go.Proofs.YtnlkfbndlngjaaaGreat
