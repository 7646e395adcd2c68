import Derived.Test.YtnlkfbndlngjaaaGreatCpA
import Derived.Test.YtnlkfbndlngjaaaGreatCyA
set_option maxHeartbeats 4000000
set_option maxRecDepth 100000
namespace Go.Proofs.YtnlkfbndlngjaaaGreat
open Go.RowKit Go.ChangeShapes Go.WideShapes Go.ChangeAt Go.Deep
set_option linter.unusedVariables false
set_option linter.unusedSimpArgs false
theorem sweepApart_walk (v:Value) (x y af:Nat) (l mid:List Mv) (w:World) (hv:SetupAt w v x y l mid) (hf:af<256):
 Calls Tryz.prog 3 #[v,.int .u8 af] w fun e w'=>e = .returned (.bool true)∧Keeps (fun _=>False) w w':=by
 have HBG:=hid (fun W (hk:Keeps (fun _=>False) w W)=>begun25 v x y l mid W (hv.keeps0 hk))
 obtain⟨hx,hy,v1,v2,rfl,_,_⟩:=hv
 have HSZ:=hid (fun W=>sizes25 x y v1 v2 W hx hy)
 have HALL:=hid (made_all (n:=1+x % 24) (ms:=1+y % 2) (by omega) (by omega) (by omega) (by omega) l mid)
 obtain⟨n,hnn⟩:∃ n,1+x % 24=n:=⟨_,rfl⟩
 obtain⟨ms,hmm⟩:∃ ms,1+y % 2=ms:=⟨_,rfl⟩
 have hn24:1≤n∧n≤24:=by omega
 rw [hnn,hmm] at HALL HBG HSZ
 obtain⟨s,hs⟩:∃ s,Sys.made n ms l mid=s:=⟨_,rfl⟩
 rw [hs] at HBG HALL
 have HKB:=hid (fun W (hk:Keeps (fun _=>False) (w.alloc (.cells #[.int .u8 x,.int .u8 y,v1,v2] 24)) W)=>cells4 (block_keep (alloc_new (w:=w)) hk (fun h=>h)))
 clear hs hnn hmm
 go_enter Tryz.func3,Tryz.ntmps3
 go_wp2_with fail
 refine (HBG.out _ ((Keeps.refl _ _).alloc _)).mono ?_
 rintro e w1 ⟨a,m,b,LA,LM,w0,rfl,k0,ht⟩
 have HK0:=hid (show Keeps (fun _=>False) w w0 from ((Keeps.refl _ _).alloc _).trans k0)
 have HT1:=hid ht
 obtain⟨z0,z1,z2,z3,zl⟩:=HKB.out _ (k0.trans ht.kp)
 clear k0 ht HBG
 go_wp2_with fail
 refine (HSZ.out _).mono ?_
 rintro e w2 ⟨rfl,k2⟩
 have HT2:=hid (HT1.out.same k2).within
 clear k2 HT1 z0 z1 z2 z3 zl HKB HSZ
 obtain⟨k,hk⟩:∃ k,af % n=k:=⟨_,rfl⟩
 have hkn:k<n:=by rw [← hk];exact Nat.mod_lt _ (by omega)
 have HREM:=hid (show (af:Int) % (n:Int)=(k:Int) by omega)
 have hn0:¬ n=0:=by omega
 clear hk
 go_wp2_with fail
 rw [HREM.out]
 go_loopw [42] (fun ix wr=>∃ i:Nat,i≤k∧ix = .int .i64 i∧Hid (TrioIn w0 wr w0.heap.size w2.heap.size a m b LA LM (s.swp i) ⟨n,i,s.swn i⟩)∧Hid (w2.heap.size≤wr.heap.size)) (fun ix _=>k - (intOf ix).toNat)
 case atStart=>exact⟨0,Nat.zero_le _,rfl,HT2,hid (Nat.le_refl _)⟩
 case round=>
  obtain⟨i,hi,rfl,HTi,HLi⟩:=hrel
  by_cases hlt:i<k
  ·have hlt':(i:Int)<(k:Int):=by omega
   have hi0:(0:Int)≤i:=by omega
   have HST:=hid (HTi.out.step HALL.out.1 HALL.out.2.2.2.2 HALL.out.2.1 (by omega:i<n))
   have HLi':=HLi.out
   go_wp2_with fail
   refine HST.out.mono ?_
   rintro e w5 ⟨r,is,rfl,ht5,hk5⟩
   dsimp only [Rf.val]
   have HT5:=hid (ht5.same ((Keeps.refl _ _).alloc (.cells #[.int .i64 r.s,.int .u32 r.g] 34)))
   have HL5:=hid (Nat.le_trans HLi' hk5.size)
   clear ht5 hk5 HST HLi'
   go_wp2_with fail
   exact⟨⟨i+1,by omega,by go_num,HT5,hid (by have:=HL5.out;simp;omega)⟩,by simp [intOf];omega⟩
  ·obtain rfl:i=k:=by omega
   have hlt':¬ (i:Int)<(i:Int):=by omega
   obtain⟨wB,rfl⟩:∃ wB:World,wB=wr:=⟨_,rfl⟩
   have hdn:((Sw.mk n i (s.swn i)).next == (Sw.mk n i (s.swn i)).size)=false:=by show (i == n)=false;simpa using (by omega:¬ i=n)
   have HDN:=hid (fun W cb (hk:SwAt W cb ⟨n,i,s.swn i⟩)=>swdone_ok cb ⟨n,i,s.swn i⟩ W hk)
   rw [hdn] at HDN
   have hbB:=lt_block HTi.out.tr.sw.own
   have HN0:=hid (HTi.out.tr.kp.size)
   clear hdn
   go_wp2_with fail
   clear hlt'
   refine (swcopy_ok b ⟨n,i,s.swn i⟩ wB HTi.out.tr.sw).mono ?_
   rintro e w6 ⟨rfl,k6,hs6⟩
   have HT6:=hid (HTi.out.same k6);have HC6:=hid hs6
   have HL6:=hid (lt_block hs6.own)
   clear k6 hs6 HTi
   go_wp2_with fail
   refine ((swfreed_ok b ⟨n,i,s.swn i⟩ w6 HT6.out.tr.sw)).mono ?_
   rintro e w' ⟨rfl,h'⟩
   obtain rfl:=h'.symm
   go_wp2_with fail
   refine ((swat_ok wB.heap.size ⟨n,i,s.swn i⟩ w6 HC6.out)).mono ?_
   rintro e w' ⟨rfl,h'⟩
   obtain rfl:=h'.symm
   go_wp2_with fail
   refine ((swfreed_ok wB.heap.size ⟨n,i,s.swn i⟩ w6 HC6.out)).mono ?_
   rintro e w' ⟨rfl,h'⟩
   obtain rfl:=h'.symm
   go_wp2_with fail
   refine (HDN.out _ _ HC6.out).mono ?_
   rintro e w7 ⟨rfl,k7⟩
   have HT7:=hid (HT6.out.same k7);have HC7:=hid (HC6.out.keeps k7 (fun h=>h));have HL7:=hid (Nat.lt_of_lt_of_le HL6.out k7.size)
   clear k7 HT6 HC6 HL6
   go_wp2_with fail
   refine (acopy_ok a LA (s.swp i).A w7 HT7.out.tr.both.ar).mono ?_
   rintro e w8 ⟨a2,rfl,k8,LA2,ha8,hb8⟩
   have HT8:=hid (HT7.out.same k8);have HC8:=hid (HC7.out.keeps k8 (fun h=>h));have HA8:=hid ha8;have HAB:=hid hb8;have HK8:=hid k8
   clear k8 ha8 hb8 HT7 HC7
   go_wp2_with fail
   refine (mcopy_ok m LM (s.swp i).M w8 HT8.out.tr.both.mm).mono ?_
   rintro e w9 ⟨m2,LM2,rfl,k9,hm9,hb9⟩
   have HT9:=hid (HT8.out.same k9);have HC9:=hid (HC8.out.keeps k9 (fun h=>h));have HL8:=HK8.out.size;have HL9:=k9.size;have HL7':=HL7.out;have HLi2:=HLi.out;have HN0':=HN0.out
   have HU9:=hid (TrioIn.mk' (N:=wB.heap.size) (Z:=w9.heap.size) (s:=s.swp i) (S:=⟨n,i,s.swn i⟩) (HA8.out.keeps0 k9) hm9 HC9.out HT9.out.tr.kp HAB.out hb9 (.inl (Nat.le_refl _)) (by omega) (by omega) (by omega) (by omega) (Nat.le_refl _) (by omega) HN0')
   have HSU:=hid (HU9.out.step HALL.out.1 HALL.out.2.2.2.2 HALL.out.2.1 hkn)
   clear k9 hm9 hb9 HT8 HC8 HA8 HAB HC9
   go_wp2_with fail
   refine HSU.out.mono ?_
   rintro e w10 ⟨r2,is2,rfl,hu10,hk10⟩
   dsimp only [Rf.val]
   have kz:Keeps (fun _=>False) w10 (w10.alloc (.cells #[.int .i64 r2.s,.int .u32 r2.g] 34)):=(Keeps.refl _ _).alloc _
   have HT10:=hid ((HT9.out.other hk10 (fun y hy=>.inr (by omega)) (fun y hy=>by omega)).same kz)
   have HU10:=hid (hu10.same kz)
   have HZ:=hid (show w2.heap.size≤wB.heap.size∧w0.heap.size≤w2.heap.size from⟨HLi2,HT2.out.tr.kp.size⟩)
   clear hu10 hk10 kz HSU HU9 HT9 HL7 HL8 HL9 HL7' HLi2 HN0'
   have HATu:=hid (fun W (h:SwAt W wB.heap.size ⟨n,i+1,s.swn (i+1)⟩)=>show Calls Tryz.prog 11 #[.pointer (some ⟨wB.heap.size,0,none⟩)] W (fun e w'=>e = .returned (.int .i64 ((i:Int)+1))∧w'=W) from by
    have:=swat_ok _ _ W h;simpa using this)
   have HATt:=hid (fun W (h:SwAt W b ⟨n,i+1,s.swn (i+1)⟩)=>show Calls Tryz.prog 11 #[.pointer (some ⟨b,0,none⟩)] W (fun e w'=>e = .returned (.int .i64 ((i:Int)+1))∧w'=W) from by
    have:=swat_ok _ _ W h;simpa using this)
   go_wp2_with fail
   refine ((HATu.out _ HU10.out.tr.sw)).mono ?_
   rintro e w' ⟨rfl,h'⟩
   obtain rfl:=h'.symm
   go_wp2_with fail
   refine ((swat_ok b ⟨n,i,s.swn i⟩ _ HT10.out.tr.sw)).mono ?_
   rintro e w' ⟨rfl,h'⟩
   obtain rfl:=h'.symm
   go_wp2_with fail
   refine ((swfreed_ok b ⟨n,i,s.swn i⟩ _ HT10.out.tr.sw)).mono ?_
   rintro e w' ⟨rfl,h'⟩
   obtain rfl:=h'.symm
   have HSV:=hid (HT10.out.step HALL.out.1 HALL.out.2.2.2.2 HALL.out.2.1 hkn)
   go_wp2_with fail
   refine HSV.out.mono ?_
   rintro e w12 ⟨r3,is3,rfl,ht12,hk12⟩
   dsimp only [Rf.val]
   have kz:Keeps (fun _=>False) w12 (w12.alloc (.cells #[.int .i64 r3.s,.int .u32 r3.g] 34)):=(Keeps.refl _ _).alloc _
   have HT12:=hid (ht12.same kz)
   have HU12:=hid ((HU10.out.other hk12 (fun y hy=>.inl (by have:=HZ.out;omega)) (fun y hy=>by have:=HZ.out;omega)).same kz)
   have HKE:=hid (show Keeps (fun _=>False) w _ from HK0.out.trans HT12.out.tr.kp)
   obtain⟨dn,hdn⟩:∃ dn,(i+1 == n)=dn:=⟨_,rfl⟩
   have HDL:=hid (fun W (hk:SwAt W b ⟨n,i+1,s.swn (i+1)⟩)=>show Calls Tryz.prog 12 #[.pointer (some ⟨b,0,none⟩)] W (fun e w'=>e = .returned (.bool dn)∧Keeps (fun _=>False) W w') from by
    rw [← hdn];exact swdone_ok b ⟨n,i+1,s.swn (i+1)⟩ W hk)
   have hde:(((i:Int)+1) == (n:Int))=dn:=by rw [← hdn,Bool.eq_iff_iff];simp;omega
   clear ht12 hk12 kz HT10 HU10 hdn HSV
   go_wp2_with fail
   refine ((HATt.out _ HT12.out.tr.sw)).mono ?_
   rintro e w' ⟨rfl,h'⟩
   obtain rfl:=h'.symm
   go_wp2_with fail
   refine ((HATu.out _ HU12.out.tr.sw)).mono ?_
   rintro e w' ⟨rfl,h'⟩
   obtain rfl:=h'.symm
   go_wp2_with fail
   refine ((swfreed_ok b ⟨n,i+1,s.swn (i+1)⟩ _ HT12.out.tr.sw)).mono ?_
   rintro e w' ⟨rfl,h'⟩
   obtain rfl:=h'.symm
   go_wp2_with fail
   refine ((swfreed_ok wB.heap.size ⟨n,i+1,s.swn (i+1)⟩ _ HU12.out.tr.sw)).mono ?_
   rintro e w' ⟨rfl,h'⟩
   obtain rfl:=h'.symm
   go_wp2_with fail
   refine (HDL.out _ HT12.out.tr.sw).mono ?_
   rintro e w14 ⟨rfl,k14⟩
   go_wp2_with fail
   refine (works25 _).mono ?_
   rintro e w15 ⟨rfl,k15⟩
   go_wp2_with fail
   go_ret
   exact⟨rfl,(HKE.out.trans k14).trans k15⟩
theorem sweepApart_law {H:Type} {enc:TypeId × Value→H} {base:Nat} {spare:Nat→Bool} {held:Bool} {r:Reach} {b0:Nat} (v:Value) (d:DataW H) (p:List MemPlace) {w:World} (hv:Value.okWide Tryz.prog w r b0 24 v)
 (h:DataW.Trod enc Tryz.prog w base spare held 24 v d p) (af:Int) (hf:(Lit.int .u8 af).wf=true) (w':World) (e':w'=w):Calls Tryz.prog 3 #[v,.int .u8 af] w' fun e w2=>e = .returned (.bool true)∧Keeps (fun _=>False) w' w2:=by
 subst e'
 obtain⟨x,y,l,mid,hs⟩:=setup25_shape hv h
 have hf':0≤af∧af<256:=by
  have e1:IntKind.u8.min=0:=by decide
  have e2:IntKind.u8.max=255:=by decide
  simp [Lit.wf,e1,e2] at hf
  omega
 obtain⟨k,rfl⟩:∃ k:Nat,af=k:=⟨af.toNat,by omega⟩
 exact sweepApart_walk v x y k l mid w' hs (by omega)
end Go.Proofs.YtnlkfbndlngjaaaGreat
