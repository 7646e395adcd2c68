import Derived.Test.YtnlkfbndlngjaaaGreatSaB
set_option maxHeartbeats 4000000
set_option maxRecDepth 100000
namespace Go.Proofs.YtnlkfbndlngjaaaGreat
open Go.RowKit Go.ChangeShapes Go.WideShapes Go.ChangeAt Go.Deep
set_option linter.unusedVariables false
set_option linter.unusedSimpArgs false
theorem TrioIn.begin {w0 w:World} {N Z a m b:Nat} {LA:ArL} {LM:MkL} {s:Sys} {S:Sw} (h:TrioIn w0 w N Z a m b LA LM s S):
 Calls Tryz.prog 16 #[.pointer (some ⟨b,0,none⟩)] w fun e w'=>e = .returned (.int .i64 0)∧TrioIn w0 w' N Z a m b LA LM s ⟨S.size,0,0⟩∧Keeps (fun y=>N≤y∧y<Z) w w':=by
 refine (trio_begin h.tr).mono ?_
 rintro e w' ⟨rfl,ht,hk⟩
 exact⟨rfl,⟨ht,h.la,h.lm,h.b1,h.b2⟩,hk.mono (fun y _ hy=>by subst hy;exact⟨h.b1,h.b2⟩)⟩
theorem sweepAgain_walk (v:Value) (x y af:Nat) (l mid:List Mv) (w:World) (hv:SetupAt w v x y l mid) (hf:af<256):
 Calls Tryz.prog 4 #[v,.int .u8 af] w fun e w'=>e = .returned (.bool true)∧Keeps (fun _=>False) w w':=by
 have HBG:=hid (fun W (hk:Keeps (fun _=>False) w W)=>begun25 v x y l mid W (hv.keeps0 hk))
 obtain⟨hx,hy,v1,v2,rfl,_,_⟩:=hv
 have HSZ:=hid (fun W=>sizes25 x y v1 v2 W hx hy)
 have HALL:=hid (made_all (n:=1+x % 24) (ms:=1+y % 2) (by omega) (by omega) (by omega) (by omega) l mid)
 obtain⟨n,hnn⟩:∃ n,1+x % 24=n:=⟨_,rfl⟩
 obtain⟨ms,hmm⟩:∃ ms,1+y % 2=ms:=⟨_,rfl⟩
 have hn24:1≤n∧n≤24:=by omega
 rw [hnn,hmm] at HALL HBG HSZ
 obtain⟨s,hs⟩:∃ s,Sys.made n ms l mid=s:=⟨_,rfl⟩
 rw [hs] at HBG HALL
 have HKB:=hid (fun W (hk:Keeps (fun _=>False) (w.alloc (.cells #[.int .u8 x,.int .u8 y,v1,v2] 24)) W)=>cells4 (block_keep (alloc_new (w:=w)) hk (fun h=>h)))
 clear hs hnn hmm
 go_enter Tryz.func4,Tryz.ntmps4
 go_wp2_with fail
 refine (HBG.out _ ((Keeps.refl _ _).alloc _)).mono ?_
 rintro e w1 ⟨a,m,b,LA,LM,w0,rfl,k0,ht⟩
 have HK0:=hid (show Keeps (fun _=>False) w w0 from ((Keeps.refl _ _).alloc _).trans k0)
 have HT1:=hid ht
 obtain⟨z0,z1,z2,z3,zl⟩:=HKB.out _ (k0.trans ht.kp)
 clear k0 ht HBG
 go_wp2_with fail
 refine (HSZ.out _).mono ?_
 rintro e w2 ⟨rfl,k2⟩
 have HT2:=hid (HT1.out.same k2).within
 clear k2 HT1 z0 z1 z2 z3 zl HKB HSZ
 obtain⟨k,hk⟩:∃ k,af % (n+1)=k:=⟨_,rfl⟩
 have hkn:k≤n:=by have h0:=Nat.mod_lt af (show 0<n+1 by omega);rw [hk] at h0;omega
 have HREM:=hid (show (af:Int) % ((n:Int)+1)=(k:Int) by rw [← hk];simp)
 clear hk
 go_wp2_with fail
 refine (acopy_ok a LA s.A w2 HT2.out.tr.both.ar).mono ?_
 rintro e w3 ⟨a2,rfl,k3,LA2,ha3,hb3⟩
 have HT3:=hid (HT2.out.same k3);have HA3:=hid ha3;have HAB:=hid hb3;have HK3:=hid k3
 clear k3 ha3 hb3
 go_wp2_with fail
 refine (mcopy_ok m LM s.M w3 HT3.out.tr.both.mm).mono ?_
 rintro e w4 ⟨m2,LM2,rfl,k4,hm4,hb4⟩
 have HT4:=hid (HT3.out.same k4);have HA4:=hid (HA3.out.keeps0 k4);have HM4:=hid hm4;have HMB:=hid hb4;have HK4:=hid k4
 clear k4 hm4 hb4 HT3 HA3
 go_wp2_with fail
 refine (swcopy_ok b ⟨n,0,0⟩ w4 HT4.out.tr.sw).mono ?_
 rintro e w5 ⟨rfl,k5,hs5⟩
 have hl5:=lt_block hs5.own;have hz3:=HK3.out.size;have hz4:=HK4.out.size
 have HT5:=hid (HT4.out.same k5)
 have HU5:=hid (TrioIn.mk' (N:=w2.heap.size) (Z:=w5.heap.size) (s:=s) (S:=⟨n,0,0⟩) (HA4.out.keeps0 k5) (HM4.out.keeps0 k5) hs5 HT5.out.tr.kp HAB.out HMB.out (.inl (Nat.le_refl _)) (Nat.le_refl _) (by omega) (by omega) (by omega) (by omega) hl5 HT2.out.tr.kp.size)
 have HZ:=hid (show w0.heap.size≤w2.heap.size from HT2.out.tr.kp.size)
 clear k5 hs5 hl5 hz3 hz4 HT4 HA4 HM4 HMB HAB
 go_wp2_with fail
 rw [HREM.out]
 go_loopw [61] (fun ix wr=>∃ i:Nat,i≤k∧ix = .int .i64 i∧Hid (TrioIn w0 wr w0.heap.size w2.heap.size a m b LA LM (s.swp i) ⟨n,i,s.swn i⟩)∧Hid (TrioIn w0 wr w2.heap.size w5.heap.size a2 m2 w4.heap.size LA2 LM2 s ⟨n,0,0⟩)) (fun ix _=>k - (intOf ix).toNat)
 case atStart=>exact⟨0,Nat.zero_le _,rfl,HT5,HU5⟩
 case round=>
  obtain⟨i,hi,rfl,HTi,HUi⟩:=hrel
  by_cases hlt:i<k
  ·have hlt':(i:Int)<(k:Int):=by omega
   have hi0:(0:Int)≤i:=by omega
   have HST:=hid (HTi.out.step HALL.out.1 HALL.out.2.2.2.2 HALL.out.2.1 (by omega:i<n))
   go_wp2_with fail
   refine HST.out.mono ?_
   rintro e w6 ⟨r,is,rfl,ht6,hk6⟩
   dsimp only [Rf.val]
   have kz:Keeps (fun _=>False) w6 (w6.alloc (.cells #[.int .i64 r.s,.int .u32 r.g] 34)):=(Keeps.refl _ _).alloc _
   have HT6:=hid (ht6.same kz)
   have HU6:=hid ((HUi.out.other hk6 (fun y hy=>.inl hy.2) (fun y hy=>hy.1)).same kz)
   clear ht6 hk6 kz HST
   go_wp2_with fail
   exact⟨⟨i+1,by omega,by go_num,HT6,HU6⟩,by simp [intOf];omega⟩
  ·obtain rfl:i=k:=by omega
   have hlt':¬ (i:Int)<(i:Int):=by omega
   obtain⟨wB,rfl⟩:∃ wB:World,wB=wr:=⟨_,rfl⟩
   have HSW:=hid (swept HALL.out.1 i (by rw [HALL.out.2.2.2.2];exact hkn))
   have HEND:=hid (swp_end HALL.out.1 (k:=i) (by rw [HALL.out.2.2.2.2];exact hkn))
   rw [HALL.out.2.2.2.2] at HEND
   obtain⟨u,hu⟩:∃ u,s.swp i=u:=⟨_,rfl⟩
   have HUM:=hid (show u.M=s.M by rw [← hu];exact HSW.out.M)
   have HUO:=hid (show u.Ok by rw [← hu];exact HSW.out.ok)
   rw [hu] at HTi HEND
   have HUN:=hid (show u.M.P.n=n by rw [HUM.out];exact HALL.out.2.2.2.2)
   have HUP:=hid (show u.M.K.ph=5 by rw [HUM.out];exact HALL.out.2.1)
   obtain⟨first,hfirst⟩:∃ first,s.swn i=first:=⟨_,rfl⟩
   have hfl:first≤24:=by have:=HSW.out.cnt;omega
   rw [hfirst] at HTi HEND
   have hdn:((Sw.mk n 0 0).next == (Sw.mk n 0 0).size)=false:=by show (0 == n)=false;simpa using (by omega:¬ 0=n)
   have HDN:=hid (fun W (hk:SwAt W b ⟨n,0,0⟩)=>swdone_ok b ⟨n,0,0⟩ W hk)
   rw [hdn] at HDN
   have HAT0:=hid (fun W (h:SwAt W b ⟨n,0,0⟩)=>show Calls Tryz.prog 11 #[.pointer (some ⟨b,0,none⟩)] W (fun e w'=>e = .returned (.int .i64 0)∧w'=W) from swat_ok _ _ W h)
   have HFR0:=hid (fun W (h:SwAt W b ⟨n,0,0⟩)=>show Calls Tryz.prog 10 #[.pointer (some ⟨b,0,none⟩)] W (fun e w'=>e = .returned (.int .i64 0)∧w'=W) from swfreed_ok _ _ W h)
   clear hu hfirst hdn HSW
   go_wp2_with fail
   clear hlt'
   refine ((swfreed_ok b ⟨n,i,first⟩ wB HTi.out.tr.sw)).mono ?_
   rintro e w' ⟨rfl,h'⟩
   obtain rfl:=h'.symm
   go_wp2_with fail
   refine HTi.out.begin.mono ?_
   rintro e w6 ⟨rfl,ht6,hk6⟩
   have HT6:=hid (show TrioIn w0 w6 w0.heap.size w2.heap.size a m b LA LM u ⟨n,0,0⟩ from ht6)
   have HU6:=hid (HUi.out.other hk6 (fun y hy=>.inl hy.2) (fun y hy=>hy.1))
   clear ht6 hk6 HTi HUi
   go_wp2_with fail
   refine ((HAT0.out _ HT6.out.tr.sw)).mono ?_
   rintro e w' ⟨rfl,h'⟩
   obtain rfl:=h'.symm
   go_wp2_with fail
   refine ((HFR0.out _ HT6.out.tr.sw)).mono ?_
   rintro e w' ⟨rfl,h'⟩
   obtain rfl:=h'.symm
   go_wp2_with fail
   refine (HDN.out _ HT6.out.tr.sw).mono ?_
   rintro e w7 ⟨rfl,k7⟩
   have HT7:=hid (HT6.out.same k7);have HU7:=hid (HU6.out.same k7)
   clear k7 HT6 HU6 HAT0 HFR0 HDN
   go_wp2_with fail
   go_loopw [94] (fun ix wr=>∃ j:Nat,j≤n∧ix = .int .i64 j∧Hid (TrioIn w0 wr w0.heap.size w2.heap.size a m b LA LM (u.swp j) ⟨n,j,u.swn j⟩)∧Hid (TrioIn w0 wr w2.heap.size w5.heap.size a2 m2 w4.heap.size LA2 LM2 (s.swp j) ⟨n,j,s.swn j⟩)) (fun ix _=>n - (intOf ix).toNat)
   case atStart=>exact⟨0,Nat.zero_le _,rfl,HT7,HU7⟩
   case round=>
    obtain⟨j,hj,rfl,HTj,HUj⟩:=hrel
    by_cases hlt:j<n
    ·have hlt':(j:Int)<(n:Int):=by omega
     have hj0:(0:Int)≤j:=by omega
     have HST:=hid (HTj.out.step HUO.out HUN.out HUP.out hlt)
     go_wp2_with fail
     refine HST.out.mono ?_
     rintro e w8 ⟨r,is,rfl,ht8,hk8⟩
     dsimp only [Rf.val]
     have kz:Keeps (fun _=>False) w8 (w8.alloc (.cells #[.int .i64 r.s,.int .u32 r.g] 34)):=(Keeps.refl _ _).alloc _
     have HT8:=hid (ht8.same kz)
     have HU8:=hid ((HUj.out.other hk8 (fun y hy=>.inl hy.2) (fun y hy=>hy.1)).same kz)
     have HSU:=hid (HU8.out.step HALL.out.1 HALL.out.2.2.2.2 HALL.out.2.1 hlt)
     clear ht8 hk8 kz HST HTj HUj
     go_wp2_with fail
     refine HSU.out.mono ?_
     rintro e w9 ⟨r2,is2,rfl,hu9,hk9⟩
     dsimp only [Rf.val]
     have kz:Keeps (fun _=>False) w9 (w9.alloc (.cells #[.int .i64 r2.s,.int .u32 r2.g] 34)):=(Keeps.refl _ _).alloc _
     have HU9:=hid (hu9.same kz)
     have HT9:=hid ((HT8.out.other hk9 (fun y hy=>.inr hy.1) (fun y hy=>Nat.le_trans HZ.out hy.1)).same kz)
     clear hu9 hk9 kz HSU HT8 HU8
     go_wp2_with fail
     exact⟨⟨j+1,by omega,by go_num,HT9,HU9⟩,by simp [intOf];omega⟩
    ·obtain rfl:j=n:=by omega
     have hlt':¬ (j:Int)<(j:Int):=by omega
     obtain⟨wC,rfl⟩:∃ wC:World,wC=wr:=⟨_,rfl⟩
     obtain⟨e1,e2⟩:=HEND.out
     have hq24:u.swn j≤24:=by have:=(swept HUO.out j (by rw [HUN.out];exact Nat.le_refl _)).cnt;omega
     have hzn:(s.swp j).A.H.T.n=j:=by
      rw [(swept HALL.out.1 j (by rw [HALL.out.2.2.2.2];exact Nat.le_refl _)).n,HALL.out.1.n];exact HALL.out.2.2.2.2
     have htk:=tk_len (s.swp j).A.H.T
     have HDU:=hid (fun W c t (hk:SwAt W c ⟨j,j,t⟩)=>show Calls Tryz.prog 12 #[.pointer (some ⟨c,0,none⟩)] W (fun e w'=>e = .returned (.bool true)∧Keeps (fun _=>False) W w') from by
      have:=swdone_ok c ⟨j,j,t⟩ W hk
      rwa [show ((Sw.mk j j t).next == (Sw.mk j j t).size)=true by show (j == j)=true;simp] at this)
     rw [e1] at HTj
     obtain⟨q,hq⟩:∃ q,u.swn j=q:=⟨_,rfl⟩
     obtain⟨z,hz⟩:∃ z,s.swp j=z:=⟨_,rfl⟩
     obtain⟨tn,htn⟩:∃ tn,s.swn j=tn:=⟨_,rfl⟩
     rw [hq] at HTj e2 hq24
     rw [hz] at HTj HUj htk hzn
     rw [htn] at HUj e2
     have HSUM:=hid (show (((first:Int)+(q:Int)) == (tn:Int))=true by rw [← e2];simp)
     have htl:z.A.H.T.tk.length≤24:=by omega
     clear e1 e2 hq hz htn htk hzn HEND
     go_wp2_with fail
     clear hlt'
     refine (HDU.out _ _ _ HTj.out.tr.sw).mono ?_
     rintro e w8 ⟨rfl,k8⟩
     have HT8:=hid (HTj.out.same k8);have HU8:=hid (HUj.out.same k8)
     clear k8 HTj HUj
     go_wp2_with fail
     refine (HDU.out _ _ _ HU8.out.tr.sw).mono ?_
     rintro e w9 ⟨rfl,k9⟩
     have HT9:=hid (HT8.out.same k9);have HU9:=hid (HU8.out.same k9)
     clear k9 HT8 HU8
     go_wp2_with fail
     refine ((swfreed_ok b ⟨j,j,q⟩ w9 HT9.out.tr.sw)).mono ?_
     rintro e w' ⟨rfl,h'⟩
     obtain rfl:=h'.symm
     go_wp2_with fail
     refine ((swfreed_ok w4.heap.size ⟨j,j,tn⟩ w9 HU9.out.tr.sw)).mono ?_
     rintro e w' ⟨rfl,h'⟩
     obtain rfl:=h'.symm
     have hsum:=HSUM.out
     go_wp2_with fail
     clear hsum
     refine (aheap_ok a LA z.A w9 HT9.out.tr.both.ar).mono ?_
     rintro e w10 ⟨bh,bt,rfl,k10,_,_,hh10⟩
     have HU10:=hid (HU9.out.same k10);have HT10:=hid (HT9.out.same k10);have HH10:=hid hh10
     clear k10 hh10 HT9 HU9
     go_wp2_with fail
     refine (hall_ok bh bt z.A.H w10 HH10.out).mono ?_
     rintro e w11 ⟨va,rfl,hr11,k11⟩
     have HU11:=hid (HU10.out.same k11);have HT11:=hid (HT10.out.same k11);have HR11:=hid hr11.refs
     clear k11 hr11 HT10 HU10 HH10
     go_wp2_with fail
     refine (aheap_ok a2 LA2 z.A w11 HU11.out.tr.both.ar).mono ?_
     rintro e w12 ⟨bh2,bt2,rfl,k12,_,_,hh12⟩
     have HT12:=hid (HT11.out.same k12);have HH12:=hid hh12;have HR12:=hid (HR11.out.keeps k12 (fun _ _ h=>h))
     clear k12 hh12 HT11 HU11 HR11
     go_wp2_with fail
     refine (hall_ok bh2 bt2 z.A.H w12 HH12.out).mono ?_
     rintro e w13 ⟨vb,rfl,hr13,k13⟩
     have HT13:=hid (HT12.out.same k13);have HR13:=hid (HR12.out.keeps k13 (fun _ _ h=>h));have HS13:=hid hr13.refs
     clear k13 hr13 HT12 HR12 HH12
     go_wp2_with fail
     refine (requal va vb _ _ w13 HR13.out HS13.out (by omega)).mono ?_
     rintro e w14 ⟨rfl,k14⟩
     rw [decide_eq_true rfl]
     have HKE:=hid ((HK0.out.trans HT13.out.tr.kp).trans k14)
     clear k14 HT13
     go_wp2_with fail
     refine (works25 _).mono ?_
     rintro e w15 ⟨rfl,k15⟩
     go_wp2_with fail
     go_ret
     exact⟨rfl,HKE.out.trans k15⟩
theorem sweepAgain_law {H:Type} {enc:TypeId × Value→H} {base:Nat} {spare:Nat→Bool} {held:Bool} {r:Reach} {b0:Nat} (v:Value) (d:DataW H) (p:List MemPlace) {w:World} (hv:Value.okWide Tryz.prog w r b0 24 v)
 (h:DataW.Trod enc Tryz.prog w base spare held 24 v d p) (af:Int) (hf:(Lit.int .u8 af).wf=true) (w':World) (e':w'=w):Calls Tryz.prog 4 #[v,.int .u8 af] w' fun e w2=>e = .returned (.bool true)∧Keeps (fun _=>False) w' w2:=by
 subst e'
 obtain⟨x,y,l,mid,hs⟩:=setup25_shape hv h
 have hf':0≤af∧af<256:=by
  have e1:IntKind.u8.min=0:=by decide
  have e2:IntKind.u8.max=255:=by decide
  simp [Lit.wf,e1,e2] at hf
  omega
 obtain⟨k,rfl⟩:∃ k:Nat,af=k:=⟨af.toNat,by omega⟩
 exact sweepAgain_walk v x y k l mid w' hs (by omega)
end Go.Proofs.YtnlkfbndlngjaaaGreat
