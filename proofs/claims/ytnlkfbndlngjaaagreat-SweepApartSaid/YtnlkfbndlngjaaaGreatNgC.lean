import Derived.Test.YtnlkfbndlngjaaaGreatNgB
set_option maxHeartbeats 4000000
set_option maxRecDepth 100000
namespace Go.Proofs.YtnlkfbndlngjaaaGreat
open Go.RowKit
theorem cells3 {w:World} {b:Nat} {v0 v1 v2:Value} {t:TypeId} (h:w.heap[b]?=some (.cells #[v0,v1,v2] t)):
 w.cell? ⟨b,0,none⟩=some v0∧w.cell? ⟨b,1,none⟩=some v1∧w.cell? ⟨b,2,none⟩=some v2∧b<w.heap.size:=
 ⟨cell_at h rfl,cell_at h rfl,cell_at h rfl,lt_block h⟩
structure Sw where
 size:Nat
 next:Nat
 n:Nat
structure SwAt (w:World) (b:Nat) (S:Sw):Prop where
 own:w.heap[b]?=some (.cells #[.int .i64 S.size,.int .i64 S.next,.int .i64 S.n] 78)
 s1:1≤S.size
 s2:S.size≤256
 nx:S.next≤S.size
 nn:S.n≤S.next
theorem SwAt.keeps {w w':World} {b:Nat} {K:Sw} {S:Nat→Prop} (h:SwAt w b K) (hk:Keeps S w w') (hS:¬ S b):SwAt w' b K:=
 ⟨block_keep h.own hk hS,h.s1,h.s2,h.nx,h.nn⟩
theorem swnew_ok (n:Nat) (w:World) (hn:1≤n) (hn1:n≤256):
 Calls Tryz.prog 30 #[.int .i64 n] w fun e w'=>e = .returned (.tuple #[.pointer (some ⟨w.heap.size,0,none⟩),.int .i64 0])∧Keeps (fun _=>False) w w'∧SwAt w' w.heap.size ⟨n,n,0⟩:=by
 have h1:=hid hn;have h2:=hid hn1
 go_enter Tryz.func30,Tryz.ntmps30
 go_wp2
 go_ret2
 exact⟨rfl,(Keeps.refl _ _).alloc _,alloc_new,h1.out,h2.out,Nat.le_refl _,Nat.zero_le _⟩
theorem swmade (b:Nat) (S:Sw) (w:World) (h:SwAt w b S):
 Calls Tryz.prog 38 #[.pointer (some ⟨b,0,none⟩)] w fun e w'=>e = .returned (.bool true)∧w'=w:=by
 obtain⟨c0,c1,c2,cl⟩:=cells3 h.own
 have hI:0<S.size:=by have:=h.s1;omega
 clear h
 go_enter Tryz.func38,Tryz.ntmps38
 go_wp2
 go_ret
 exact⟨rfl,rfl⟩
theorem swat_ok (b:Nat) (S:Sw) (w:World) (h:SwAt w b S):
 Calls Tryz.prog 11 #[.pointer (some ⟨b,0,none⟩)] w fun e w'=>e = .returned (.int .i64 S.next)∧w'=w:=by
 obtain⟨c0,c1,c2,cl⟩:=cells3 h.own
 have HV:=hid (swmade b S w h)
 clear h
 go_enter Tryz.func11,Tryz.ntmps11
 go_wp2_with fail
 refine (HV.out).mono ?_
 rintro e w' ⟨rfl,h'⟩
 obtain rfl:=h'.symm
 go_wp2_with fail
 go_ret
 exact⟨rfl,rfl⟩
theorem swfreed_ok (b:Nat) (S:Sw) (w:World) (h:SwAt w b S):
 Calls Tryz.prog 10 #[.pointer (some ⟨b,0,none⟩)] w fun e w'=>e = .returned (.int .i64 S.n)∧w'=w:=by
 obtain⟨c0,c1,c2,cl⟩:=cells3 h.own
 have HV:=hid (swmade b S w h)
 clear h
 go_enter Tryz.func10,Tryz.ntmps10
 go_wp2_with fail
 refine (HV.out).mono ?_
 rintro e w' ⟨rfl,h'⟩
 obtain rfl:=h'.symm
 go_wp2_with fail
 go_ret
 exact⟨rfl,rfl⟩
theorem swdone_ok (b:Nat) (S:Sw) (w:World) (h:SwAt w b S):
 Calls Tryz.prog 12 #[.pointer (some ⟨b,0,none⟩)] w fun e w'=>e = .returned (.bool (S.next == S.size))∧Keeps (fun _=>False) w w':=by
 obtain⟨c0,c1,c2,cl⟩:=cells3 h.own
 have hz:∀ n,SwAt (World.drewN w n) b S:=fun n=>h.keeps ((Keeps.refl (fun _=>False) w).drewN n) (fun h=>h)
 clear h
 go_enter Tryz.func12,Tryz.ntmps12
 go_wp2_with fail
 go_quiet (first | (go_at_call 38;refine (swmade b S _ (hz _)).mono ?_;rintro e w' ⟨rfl,rfl⟩;exact⟨rfl,_,rfl⟩))
 go_wp2_with fail
 go_ret
 exact⟨ret_bool (by rw [Bool.eq_iff_iff];simp;omega),(by repeat (first | exact Keeps.refl _ _ | apply Keeps.alloc | apply Keeps.drewN | apply Keeps.drew))⟩
theorem swnote (b:Nat) (S:Sw) (w:World) (h:w.heap[b]?=some (.cells #[.int .i64 S.size,.int .i64 S.next,.int .i64 S.n] 78)) (hn:S.n≤256):
 Calls Tryz.prog 37 #[.pointer (some ⟨b,2,none⟩)] w fun e w'=>e = .returned (.tuple #[])∧Keeps (fun y=>y=b) w w'∧w'.heap[b]?=some (.cells #[.int .i64 S.size,.int .i64 S.next,.int .i64 ((S.n+1:Nat):Int)] 78):=by
 obtain⟨c0,c1,c2,cl⟩:=cells3 h
 have f2:=frozen_block h 2
 have HB:=hid h
 have hnI:(S.n:Int)≤256:=by omega
 have hn0:(0:Int)≤S.n:=by omega
 clear h hn
 go_enter Tryz.func37,Tryz.ntmps37
 go_wp2_with fail
 go_end0
 refine⟨rfl,keeps_set1 _ _ _ _,?_⟩
 have:=set_block HB.out 2 (.int .i64 ((S.n:Int)+1))
 simpa using this
theorem swbegin_ok (b:Nat) (S:Sw) (w:World) (h:SwAt w b S):
 Calls Tryz.prog 16 #[.pointer (some ⟨b,0,none⟩)] w fun e w'=>e = .returned (.int .i64 0)∧Keeps (fun y=>y=b) w w'∧SwAt w' b ⟨S.size,0,0⟩:=by
 obtain⟨c0,c1,c2,cl⟩:=cells3 h.own
 have f0:=frozen_block h.own
 have f1:=f0 1;have f2:=f0 2
 have HV:=hid (swmade b S w h)
 have HB:=hid h.own
 have HH:=hid h
 clear h f0
 go_enter Tryz.func16,Tryz.ntmps16
 go_wp2_with fail
 refine (HV.out).mono ?_
 rintro e w' ⟨rfl,h'⟩
 obtain rfl:=h'.symm
 go_wp2_with fail
 go_ret
 refine⟨rfl,?_,?_,HH.out.s1,HH.out.s2,Nat.zero_le _,Nat.le_refl _⟩
 ·exact ((Keeps.refl (fun y=>y=b) _).setCell (p:=⟨b,1,none⟩) (.inl rfl) _).setCell (p:=⟨b,2,none⟩) (.inl rfl) _
 ·have:=set_block (set_block HB.out 1 (.int .i64 0)) 2 (.int .i64 0)
  simpa using this
theorem swcopy_ok (b:Nat) (S:Sw) (w:World) (h:SwAt w b S):
 Calls Tryz.prog 9 #[.pointer (some ⟨b,0,none⟩)] w fun e w'=>e = .returned (.pointer (some ⟨w.heap.size,0,none⟩))∧Keeps (fun _=>False) w w'∧SwAt w' w.heap.size S:=by
 obtain⟨c0,c1,c2,cl⟩:=cells3 h.own
 have HV:=hid (fun (w':World) (hk:Keeps (fun _=>False) w w')=>swmade b S w' (h.keeps hk (fun h=>h)))
 have HH:=hid h
 clear h
 go_enter Tryz.func9,Tryz.ntmps9
 go_wp2_with fail
 refine ((HV.out _ (Keeps.refl _ _))).mono ?_
 rintro e w' ⟨rfl,h'⟩
 obtain rfl:=h'.symm
 go_wp2_with fail
 go_ret
 exact⟨rfl,(Keeps.refl _ _).alloc _,alloc_new,HH.out.s1,HH.out.s2,HH.out.nx,HH.out.nn⟩
end Go.Proofs.YtnlkfbndlngjaaaGreat
namespace Go.Proofs.YtnlkfbndlngjaaaGreat
open Go.RowKit
set_option linter.unusedVariables false
def Sw.chk (S:Sw) (A:Ar) (M:Mk):Int:=if A.H.T.n≠S.size∨M.P.n≠S.size then 2 else if S.next=S.size∨M.K.ph≠5 then 8 else 0
theorem swcheck (b a m:Nat) (S:Sw) (LA:ArL) (LM:MkL) (A:Ar) (M:Mk) (w:World) (hs:SwAt w b S) (ha:ArIn w a LA A) (hm:MkIn w m LM M):
 Calls Tryz.prog 31 #[.pointer (some ⟨b,0,none⟩),.pointer (some ⟨a,0,none⟩),.pointer (some ⟨m,0,none⟩)] w fun e w'=>e = .returned (.int .i64 (S.chk A M))∧Keeps (fun _=>False) w w':=by
 have hA:=ha.heap.tab.n12
 have hM:=hm.pt.n12
 have hS:=hs.s1;have hS2:=hs.s2
 have HSZ:=hid (fun W (hk:Keeps (fun _=>False) w W)=>asizes_ok a LA A W (ha.keeps0 hk))
 have HMK:=hid (fun (k:Int) W (hk:Keeps (fun _=>False) w W)=>mmarked_any m LM M k W (hm.keeps0 hk))
 have HSW:=hid (fun W (hk:Keeps (fun _=>False) w W)=>hs.keeps hk (fun h=>h))
 have HPH:=hid (fun W (hk:Keeps (fun _=>False) w W)=>mphase m LM M W (hm.keeps0 hk))
 have hz0:∀ x,M.markedR 0=x→x.2=0:=by
  rintro x rfl
  unfold Mk.markedR;rw [if_neg (by omega)]
 obtain⟨q0,hq0⟩:∃ q,M.markedR 0=q:=⟨_,rfl⟩
 have h0:=hz0 _ hq0
 obtain⟨q1,hq1⟩:∃ q,M.markedR ((S.size:Int) - 1)=q:=⟨_,rfl⟩
 obtain⟨q2,hq2⟩:∃ q,M.markedR (S.size:Int)=q:=⟨_,rfl⟩
 have h1:q1.2=if M.P.n<S.size then 3 else 0:=by
  rw [← hq1];unfold Mk.markedR
  by_cases h:M.P.n<S.size
  ·rw [if_pos (by omega),if_pos h]
  ·rw [if_neg (by omega),if_neg h]
 have h2:q2.2=if M.P.n≤S.size then 3 else 0:=by
  rw [← hq2];unfold Mk.markedR
  by_cases h:M.P.n≤S.size
  ·rw [if_pos (by omega),if_pos h]
  ·rw [if_neg (by omega),if_neg h]
 have HM0:=hid (fun W hk=>HMK.out 0 W hk)
 have HM1:=hid (fun W hk=>HMK.out ((S.size:Int) - 1) W hk)
 have HM2:=hid (fun W hk=>HMK.out (S.size:Int) W hk)
 rw [hq0,h0] at HM0
 rw [hq1] at HM1
 rw [hq2] at HM2
 obtain⟨b0,e0⟩:=q0;obtain⟨b1,e1⟩:=q1;obtain⟨b2,e2⟩:=q2
 dsimp only at h1 h2 HM0 HM1 HM2
 have hn0:((A.H.T.n:Int) == 0)=false:=by simp;omega
 have hSI:(1:Int)≤S.size:=by omega
 have hSI2:(S.size:Int)≤256:=by omega
 clear hs ha hm hz0 hq0 hq1 hq2 h0 HMK
 by_cases hA1:A.H.T.n=S.size
 ·have hAe:((A.H.T.n:Int) == S.size)=true:=by simp;omega
  rcases Nat.lt_trichotomy M.P.n S.size with hlt | heq | hgt
  ·rw [show S.chk A M=2 by unfold Sw.chk;rw [if_pos (.inr (by omega))]]
   rw [if_pos hlt] at h1;subst h1
   clear h2
   go_enter Tryz.func31,Tryz.ntmps31
   go_wp2_with fail
   refine (HSZ.out _ (Keeps.refl _ _)).mono ?_
   rintro e w1 ⟨rfl,hk1⟩
   have HK1:=hid hk1
   clear hk1
   go_wp2_with fail
   refine (HM0.out _ HK1.out).mono ?_
   rintro e w2 ⟨rfl,hk2⟩
   have HK2:=hid (HK1.out.trans hk2)
   have HS2:=hid (HSW.out _ HK2.out)
   obtain⟨c0,c1,c2,cl⟩:=cells3 HS2.out.own
   clear hk2
   go_wp2_with fail
   refine ((swmade b S _ HS2.out)).mono ?_
   rintro e w' ⟨rfl,h'⟩
   obtain rfl:=h'.symm
   go_wp2_with fail
   refine (HM1.out _ HK2.out).mono ?_
   rintro e w3 ⟨rfl,hk3⟩
   have HK3:=hid (HK2.out.trans hk3)
   have HS3:=hid (HSW.out _ HK3.out)
   obtain⟨d0,d1,d2,dl⟩:=cells3 HS3.out.own
   clear hk3 c0 c1 c2 cl
   go_wp2_with fail
   refine (HM2.out _ HK3.out).mono ?_
   rintro e w4 ⟨rfl,hk4⟩
   have HK4:=hid (HK3.out.trans hk4)
   have HS4:=hid (HSW.out _ HK4.out)
   obtain⟨f0,f1,f2,fl⟩:=cells3 HS4.out.own
   clear hk4 d0 d1 d2 dl
   go_wp2_with fail
   go_ret
   exact⟨rfl,HK4.out⟩
  ·rw [if_neg (by omega)] at h1;subst h1
   rw [if_pos (by omega)] at h2;subst h2
   by_cases hd:S.next=S.size
   ·rw [show S.chk A M=8 by unfold Sw.chk;rw [if_neg (by omega),if_pos (.inl hd)]]
    have HDN:=hid (fun W (hk:Keeps (fun _=>False) w W)=>swdone_ok b S W (HSW.out W hk))
    rw [show (S.next == S.size)=true by simpa using hd] at HDN
    clear hd
    go_enter Tryz.func31,Tryz.ntmps31
    go_wp2_with fail
    refine (HSZ.out _ (Keeps.refl _ _)).mono ?_
    rintro e w1 ⟨rfl,hk1⟩
    have HK1:=hid hk1
    clear hk1
    go_wp2_with fail
    refine (HM0.out _ HK1.out).mono ?_
    rintro e w2 ⟨rfl,hk2⟩
    have HK2:=hid (HK1.out.trans hk2)
    have HS2:=hid (HSW.out _ HK2.out)
    obtain⟨c0,c1,c2,cl⟩:=cells3 HS2.out.own
    clear hk2
    go_wp2_with fail
    refine ((swmade b S _ HS2.out)).mono ?_
    rintro e w' ⟨rfl,h'⟩
    obtain rfl:=h'.symm
    go_wp2_with fail
    refine (HM1.out _ HK2.out).mono ?_
    rintro e w3 ⟨rfl,hk3⟩
    have HK3:=hid (HK2.out.trans hk3)
    have HS3:=hid (HSW.out _ HK3.out)
    obtain⟨d0,d1,d2,dl⟩:=cells3 HS3.out.own
    clear hk3 c0 c1 c2 cl
    go_wp2_with fail
    refine (HM2.out _ HK3.out).mono ?_
    rintro e w4 ⟨rfl,hk4⟩
    have HK4:=hid (HK3.out.trans hk4)
    have HS4:=hid (HSW.out _ HK4.out)
    obtain⟨f0,f1,f2,fl⟩:=cells3 HS4.out.own
    clear hk4 d0 d1 d2 dl
    go_wp2_with fail
    refine (HDN.out _ HK4.out).mono ?_
    rintro e w5 ⟨rfl,hk5⟩
    have HK5:=hid (HK4.out.trans hk5)
    clear hk5
    go_wp2_with fail
    go_ret
    exact⟨rfl,HK5.out⟩
   ·have HDN:=hid (fun W (hk:Keeps (fun _=>False) w W)=>swdone_ok b S W (HSW.out W hk))
    rw [show (S.next == S.size)=false by simpa using hd] at HDN
    by_cases hp:M.K.ph=5
    ·rw [show S.chk A M=0 by unfold Sw.chk;rw [if_neg (by omega),if_neg (by omega)]]
     rw [hp] at HPH
     clear hd hp
     go_enter Tryz.func31,Tryz.ntmps31
     go_wp2_with fail
     refine (HSZ.out _ (Keeps.refl _ _)).mono ?_
     rintro e w1 ⟨rfl,hk1⟩
     have HK1:=hid hk1
     clear hk1
     go_wp2_with fail
     refine (HM0.out _ HK1.out).mono ?_
     rintro e w2 ⟨rfl,hk2⟩
     have HK2:=hid (HK1.out.trans hk2)
     have HS2:=hid (HSW.out _ HK2.out)
     obtain⟨c0,c1,c2,cl⟩:=cells3 HS2.out.own
     clear hk2
     go_wp2_with fail
     refine ((swmade b S _ HS2.out)).mono ?_
     rintro e w' ⟨rfl,h'⟩
     obtain rfl:=h'.symm
     go_wp2_with fail
     refine (HM1.out _ HK2.out).mono ?_
     rintro e w3 ⟨rfl,hk3⟩
     have HK3:=hid (HK2.out.trans hk3)
     have HS3:=hid (HSW.out _ HK3.out)
     obtain⟨d0,d1,d2,dl⟩:=cells3 HS3.out.own
     clear hk3 c0 c1 c2 cl
     go_wp2_with fail
     refine (HM2.out _ HK3.out).mono ?_
     rintro e w4 ⟨rfl,hk4⟩
     have HK4:=hid (HK3.out.trans hk4)
     have HS4:=hid (HSW.out _ HK4.out)
     obtain⟨f0,f1,f2,fl⟩:=cells3 HS4.out.own
     clear hk4 d0 d1 d2 dl
     go_wp2_with fail
     refine (HDN.out _ HK4.out).mono ?_
     rintro e w5 ⟨rfl,hk5⟩
     have HK5:=hid (HK4.out.trans hk5)
     clear hk5
     go_wp2_with fail
     refine ((HPH.out _ HK5.out)).mono ?_
     rintro e w' ⟨rfl,h'⟩
     obtain rfl:=h'.symm
     go_wp2_with fail
     go_ret
     exact⟨rfl,HK5.out⟩
    ·rw [show S.chk A M=8 by unfold Sw.chk;rw [if_neg (by omega),if_pos (.inr hp)]]
     have hp5:((M.K.ph:Int) == 5)=false:=by simp;omega
     clear hd hp
     go_enter Tryz.func31,Tryz.ntmps31
     go_wp2_with fail
     refine (HSZ.out _ (Keeps.refl _ _)).mono ?_
     rintro e w1 ⟨rfl,hk1⟩
     have HK1:=hid hk1
     clear hk1
     go_wp2_with fail
     refine (HM0.out _ HK1.out).mono ?_
     rintro e w2 ⟨rfl,hk2⟩
     have HK2:=hid (HK1.out.trans hk2)
     have HS2:=hid (HSW.out _ HK2.out)
     obtain⟨c0,c1,c2,cl⟩:=cells3 HS2.out.own
     clear hk2
     go_wp2_with fail
     refine ((swmade b S _ HS2.out)).mono ?_
     rintro e w' ⟨rfl,h'⟩
     obtain rfl:=h'.symm
     go_wp2_with fail
     refine (HM1.out _ HK2.out).mono ?_
     rintro e w3 ⟨rfl,hk3⟩
     have HK3:=hid (HK2.out.trans hk3)
     have HS3:=hid (HSW.out _ HK3.out)
     obtain⟨d0,d1,d2,dl⟩:=cells3 HS3.out.own
     clear hk3 c0 c1 c2 cl
     go_wp2_with fail
     refine (HM2.out _ HK3.out).mono ?_
     rintro e w4 ⟨rfl,hk4⟩
     have HK4:=hid (HK3.out.trans hk4)
     have HS4:=hid (HSW.out _ HK4.out)
     obtain⟨f0,f1,f2,fl⟩:=cells3 HS4.out.own
     clear hk4 d0 d1 d2 dl
     go_wp2_with fail
     refine (HDN.out _ HK4.out).mono ?_
     rintro e w5 ⟨rfl,hk5⟩
     have HK5:=hid (HK4.out.trans hk5)
     clear hk5
     go_wp2_with fail
     refine ((HPH.out _ HK5.out)).mono ?_
     rintro e w' ⟨rfl,h'⟩
     obtain rfl:=h'.symm
     go_wp2_with fail
     go_ret
     exact⟨rfl,HK5.out⟩
  ·rw [show S.chk A M=2 by unfold Sw.chk;rw [if_pos (.inr (by omega))]]
   rw [if_neg (by omega)] at h1;subst h1
   rw [if_neg (by omega)] at h2;subst h2
   go_enter Tryz.func31,Tryz.ntmps31
   go_wp2_with fail
   refine (HSZ.out _ (Keeps.refl _ _)).mono ?_
   rintro e w1 ⟨rfl,hk1⟩
   have HK1:=hid hk1
   clear hk1
   go_wp2_with fail
   refine (HM0.out _ HK1.out).mono ?_
   rintro e w2 ⟨rfl,hk2⟩
   have HK2:=hid (HK1.out.trans hk2)
   have HS2:=hid (HSW.out _ HK2.out)
   obtain⟨c0,c1,c2,cl⟩:=cells3 HS2.out.own
   clear hk2
   go_wp2_with fail
   refine ((swmade b S _ HS2.out)).mono ?_
   rintro e w' ⟨rfl,h'⟩
   obtain rfl:=h'.symm
   go_wp2_with fail
   refine (HM1.out _ HK2.out).mono ?_
   rintro e w3 ⟨rfl,hk3⟩
   have HK3:=hid (HK2.out.trans hk3)
   have HS3:=hid (HSW.out _ HK3.out)
   obtain⟨d0,d1,d2,dl⟩:=cells3 HS3.out.own
   clear hk3 c0 c1 c2 cl
   go_wp2_with fail
   refine (HM2.out _ HK3.out).mono ?_
   rintro e w4 ⟨rfl,hk4⟩
   have HK4:=hid (HK3.out.trans hk4)
   have HS4:=hid (HSW.out _ HK4.out)
   obtain⟨f0,f1,f2,fl⟩:=cells3 HS4.out.own
   clear hk4 d0 d1 d2 dl
   go_wp2_with fail
   go_ret
   exact⟨rfl,HK4.out⟩
 ·rw [show S.chk A M=2 by unfold Sw.chk;rw [if_pos (.inl hA1)]]
  have hAe:((A.H.T.n:Int) == S.size)=false:=by simp;omega
  clear h1 h2
  go_enter Tryz.func31,Tryz.ntmps31
  go_wp2_with fail
  refine (HSZ.out _ (Keeps.refl _ _)).mono ?_
  rintro e w1 ⟨rfl,hk1⟩
  have HK1:=hid hk1
  clear hk1
  go_wp2_with fail
  refine (HM0.out _ HK1.out).mono ?_
  rintro e w2 ⟨rfl,hk2⟩
  have HK2:=hid (HK1.out.trans hk2)
  have HS2:=hid (HSW.out _ HK2.out)
  obtain⟨c0,c1,c2,cl⟩:=cells3 HS2.out.own
  clear hk2
  go_wp2_with fail
  refine ((swmade b S _ HS2.out)).mono ?_
  rintro e w' ⟨rfl,h'⟩
  obtain rfl:=h'.symm
  go_wp2_with fail
  refine (HM1.out _ HK2.out).mono ?_
  rintro e w3 ⟨rfl,hk3⟩
  have HK3:=hid (HK2.out.trans hk3)
  have HS3:=hid (HSW.out _ HK3.out)
  obtain⟨d0,d1,d2,dl⟩:=cells3 HS3.out.own
  clear hk3 c0 c1 c2 cl
  go_wp2_with fail
  refine (HM2.out _ HK3.out).mono ?_
  rintro e w4 ⟨rfl,hk4⟩
  have HK4:=hid (HK3.out.trans hk4)
  have HS4:=hid (HSW.out _ HK4.out)
  obtain⟨f0,f1,f2,fl⟩:=cells3 HS4.out.own
  clear hk4 d0 d1 d2 dl
  go_wp2_with fail
  go_ret
  exact⟨rfl,HK4.out⟩
end Go.Proofs.YtnlkfbndlngjaaaGreat
namespace Go.Proofs.YtnlkfbndlngjaaaGreat
open Go.RowKit
set_option linter.unusedVariables false
section
variable {w0 w w':World} {a m b:Nat} {LA:ArL} {LM:MkL} {s:Sys} {S:Sw}
theorem Both.sw (h:Both w0 w a m LA LM s) (hs:SwAt w b S) (hk:Keeps (fun y=>y=b) w w') (hb:w0.heap.size≤b):Both w0 w' a m LA LM s:=by
 obtain⟨h1,h2,h3,h4⟩:=h
 have ho:=hs.own
 obtain⟨⟨cx,hcx,_⟩,hox,hhp,⟨cg,hcg,_⟩,hst,_⟩:=id h1
 obtain⟨⟨cy,hcy,_⟩,⟨cz,hcz,_⟩,_,_⟩:=hhp
 obtain⟨ex,⟨er,her,_⟩,ek,⟨ep,hep,_⟩,⟨es,hes,_⟩,eb,_⟩:=id h2
 refine⟨h1.keeps hk (type_ne hcx ho (by decide)) (type_ne hox ho (by decide)) (type_ne hcy ho (by decide)) (type_ne hcz ho (by decide)) (type_ne hcg ho (by decide)) (fun k hk=>?_),h2.keeps hk (type_ne ex ho (by decide)) (type_ne ek.own ho (by decide)) (type_ne hep ho (by decide)) (type_ne hes ho (by decide)) (type_ne her ho (by decide)) (fun k hk=>?_),h3.trans' hk (fun _ _ h=>h) (fun y hy h=>by omega),h4⟩
 ·obtain⟨c,hc,_⟩:=hst k hk;exact type_ne hc ho (by decide)
 ·obtain⟨c,hc,_⟩:=eb k hk;exact type_ne hc ho (by decide)
theorem SwAt.foot (h:Both w0 w a m LA LM s) (hs:SwAt w b S):¬ foot2 LA LM s b:=by
 have ho:=hs.own
 obtain⟨h1,h2,_,_⟩:=h
 obtain⟨_,_,hhp,⟨cg,hcg,_⟩,hst,_⟩:=h1
 obtain⟨⟨cy,hcy,_⟩,⟨cz,hcz,_⟩,_,_⟩:=hhp
 obtain⟨_,_,ek,⟨ep,hep,_⟩,⟨es,hes,_⟩,eb,_⟩:=h2
 rintro (h | h)
 ·rcases h with h | h | h | ⟨k,hk,h⟩
  ·exact type_ne hcy ho (by decide) h.symm
  ·exact type_ne hcz ho (by decide) h.symm
  ·exact type_ne hcg ho (by decide) h.symm
  ·obtain⟨c,hc,_⟩:=hst k hk;exact type_ne hc ho (by decide) h.symm
 ·rcases h with h | h | h | ⟨k,hk,h⟩
  ·exact type_ne ek.own ho (by decide) h.symm
  ·exact type_ne hep ho (by decide) h.symm
  ·exact type_ne hes ho (by decide) h.symm
  ·obtain⟨c,hc,_⟩:=eb k hk;exact type_ne hc ho (by decide) h.symm
end
def Sys.free (s:Sys) (i:Nat):Sys:=⟨(s.A.freeR ⟨i,s.A.H.T.gn i⟩).1,(s.M.freedR i).1⟩
theorem Ar.freeR_n (A:Ar) (r:Rf):(A.freeR r).1.H.T.n=A.H.T.n∧(A.freeR r).1.many=A.many:=by
 refine⟨?_,rfl⟩
 show (A.H.freeR r).1.T.n=_
 unfold Hp.freeR
 split
 ·rfl
 ·unfold Hp.free Tb.give
  dsimp only
  split <;> rfl
theorem Sys.Ok.free {s:Sys} (h:s.Ok) {i:Nat} (hi:i<s.M.P.n) (hc:s.M.P.c i=0):(s.free i).Ok:=by
 have e:(s.M.freedR i).1={ s.M with P:=s.M.P.put i 0 }:=by
  unfold Mk.freedR;rw [if_neg (by omega),Int.toNat_natCast]
 have hm:=h.m.freedR i
 have hp:s.M.P.put i 0=s.M.P:=by
  unfold Pt.put
  have:updf s.M.P.c i 0=s.M.P.c:=by
   funext j
   by_cases ej:j=i
   ·subst ej;rw [updf_same,hc]
   ·rw [updf_ne _ _ ej]
  rw [this]
 unfold Sys.free
 rw [e] at hm ⊢
 rw [hp] at hm ⊢
 exact⟨h.a.freeR _,hm,(Ar.freeR_n _ _).1.trans h.n,(Ar.freeR_n _ _).2.trans h.k,h.g⟩
structure SwRes where
 S:Sw
 s:Sys
 r:Rf
 is:Bool
def Sw.stepR (S:Sw) (s:Sys):SwRes:=
 if s.M.P.c S.next≠0∨s.A.H.T.st S.next≠1 then ⟨⟨S.size,S.next+1,S.n⟩,s,.no,false⟩
 else ⟨⟨S.size,S.next+1,S.n+1⟩,s.free S.next,⟨S.next,s.A.H.T.gn S.next⟩,true⟩
end Go.Proofs.YtnlkfbndlngjaaaGreat
namespace Go.Proofs.YtnlkfbndlngjaaaGreat
set_option linter.unusedSimpArgs false
open Go.RowKit
set_option linter.unusedVariables false
theorem swstep1 (B:Nat) (i:Nat) (r:Rf) (W:World) (h:W.heap[B]?=some (.cells #[.int .i64 i] 3)):Calls Tryz.prog 33 (#[.agg #[.int .i64 r.s,.int .u32 r.g]] ++ #[.pointer (some ⟨B,0,none⟩)]) W fun e W'=>e = .returned (.bool (r.s == (i:Int)))∧Keeps (fun _=>False) W W':=by
 obtain⟨c0,_,cl⟩:=cells1 h
 clear h
 show Calls Tryz.prog 33 #[.agg #[.int .i64 r.s,.int .u32 r.g],.pointer (some ⟨B,0,none⟩)] W _
 go_enter Tryz.func33,Tryz.ntmps33
 go_wp2_with fail
 go_ret
 exact⟨rfl,(by repeat (first | exact Keeps.refl _ _ | apply Keeps.alloc | apply Keeps.drewN | apply Keeps.drew))⟩
theorem swstep_err {w0:World} {LA:ArL} {LM:MkL} (va vm:Value) (b:Nat) (w:World) (k:Int) (hk:(k == 0)=false) (hc:∀ W,Keeps (fun _=>False) w W→Calls Tryz.prog 31 #[.pointer (some ⟨b,0,none⟩),va,vm] W fun e w'=>e = .returned (.int .i64 k)∧Keeps (fun _=>False) W w'):
 Calls Tryz.prog 8 #[.pointer (some ⟨b,0,none⟩),va,vm] w fun e w'=>e = .returned (.tuple #[Rf.no.val,.bool false,.int .i64 k])∧Keeps (fun _=>False) w w':=by
 have HC:=hid hc
 clear hc
 go_enter Tryz.func8,Tryz.ntmps8
 go_wp2_with fail
 refine (HC.out _ ((Keeps.refl _ _).alloc _)).mono ?_
 rintro e w1 ⟨rfl,hk1⟩
 have HK1:=hid (((Keeps.refl (fun _=>False) w).alloc _).trans hk1)
 obtain⟨a0,a1,af,al⟩:=cells2 (block_keep (alloc_new (w:=w)) hk1 (fun h=>h))
 have a0f:=af 0;have a1f:=af 1
 clear hk1 af
 go_wp2_with fail
 refine bodyPost_ret_by (v:=.tuple #[Rf.no.val,.bool false,.int .i64 k]) (by simp [results,Tryz.results8,go_sem,Rf.val,Rf.no, *]) rfl ⟨rfl,Keeps.fresh ?_⟩
 repeat (first | (with_reducible exact HK1.out.up) | with_reducible refine Keeps.setCell ?_ ?_ _ | with_reducible refine Keeps.alloc ?_ _ | with_reducible refine Keeps.drewN ?_ _ | with_reducible refine Keeps.drew ?_)
 all_goals first | (left;simp;done) | (left;simp;omega) | (right;simp;done) | (right;simp;omega)
theorem Both.far {w0 w W W':World} {a m:Nat} {LA:ArL} {LM:MkL} {s t:Sys} (h:Both w0 w a m LA LM s) (h2:Both w0 W a m LA LM t) (h3:t.A.many=s.A.many) (h4:t.M.K.many=s.M.K.many) (hk:Keeps (fun y=>w.heap.size≤y) W W'):Both w0 W' a m LA LM t:=
 ⟨h2.ar.keepsB (by rw [h3];exact h.ar.btw) hk,h2.mm.keepsB (by rw [h4];exact h.mm.btw) hk,h2.kp.trans' hk (fun _ _ h=>h) (fun y hy hz=>by have:=h.kp.size;omega),h2.sep⟩
theorem swstep_ok {w0:World} {LA:ArL} {LM:MkL} (a m b:Nat) (s:Sys) (S:Sw) (w:World) (h:Both w0 w a m LA LM s) (hs:SwAt w b S) (hb:w0.heap.size≤b) (hok:s.Ok) (hc:S.chk s.A s.M=0):
 Calls Tryz.prog 8 #[.pointer (some ⟨b,0,none⟩),.pointer (some ⟨a,0,none⟩),.pointer (some ⟨m,0,none⟩)] w fun e w'=>e = .returned (.tuple #[(S.stepR s).r.val,.bool (S.stepR s).is,.int .i64 0])∧Both w0 w' a m LA LM (S.stepR s).s∧SwAt w' b (S.stepR s).S∧Keeps (fun y=>y=b∨foot2 LA LM s y) w w':=by
 have hne:=hs.foot h
 have hck:s.A.H.T.n=S.size∧s.M.P.n=S.size∧S.next≠S.size∧s.M.K.ph=5:=by
  unfold Sw.chk at hc
  split at hc
  ·cases hc
  ·split at hc
   ·cases hc
   ·omega
 have hS:=hs.s2;have hnx:=hs.nx;have hnn:=hs.nn;have hs1:=hs.s1
 have HCK:=hid (fun W (hk:Keeps (fun _=>False) w W)=>swcheck b a m S LA LM s.A s.M W (hs.keeps hk (fun h=>h)) (h.ar.keeps0 hk) (h.mm.keeps0 hk))
 rw [hc] at HCK
 have HH:=hid h;have HS:=hid hs;have HNE:=hid hne;have HOK:=hid hok
 clear h hs hc hne hok
 go_enter Tryz.func8,Tryz.ntmps8
 go_wp2_with fail
 refine (HCK.out _ ((Keeps.refl _ _).alloc _)).mono ?_
 rintro e w1 ⟨rfl,hk1⟩
 have HK1:=hid (((Keeps.refl (fun _=>False) w).alloc _).trans hk1)
 have HQ1:=hid (block_keep (alloc_new (w:=w)) hk1 (fun h=>h))
 have hs1':=HS.out.keeps HK1.out (fun h=>h)
 have HS1:=hid hs1'
 obtain⟨c0,c1,c2,cl⟩:=cells3 hs1'.own
 have cf:=frozen_block hs1'.own 1
 clear hk1 hs1'
 go_wp2_with fail
 obtain⟨w2,hw2⟩:∃ w2,(w1.setCell ⟨b,1,none⟩ (.int .i64 ((S.next:Int)+1))).alloc (.cells #[.int .i64 S.next] 3)=w2:=⟨_,rfl⟩
 have k2:Keeps (fun y=>y=b) w1 w2:=by rw [← hw2];exact ((Keeps.refl (fun y=>y=b) _).setCell (p:=⟨b,1,none⟩) (.inl rfl) _).alloc _
 have q2:w2.heap[w1.heap.size]?=some (.cells #[.int .i64 S.next] 3):=by rw [← hw2];exact alloc_new' (by simp [World.setCell])
 have b2:w2.heap[b]?=some (.cells #[.int .i64 S.size,.int .i64 ((S.next+1:Nat):Int),.int .i64 S.n] 78):=by
  rw [← hw2]
  refine alloc_old ?_
  have:=set_block HS1.out.own 1 (.int .i64 ((S.next:Int)+1))
  simpa using this
 have hd1:=Duo.same HH.out HK1.out
 have HD2:=hid (Both.sw (s:=s) hd1 HS1.out k2 hb)
 have HS2:=hid (show SwAt w2 b ⟨S.size,S.next+1,S.n⟩ from⟨b2,hs1,hS,by show S.next+1≤S.size;omega,by show S.n≤S.next+1;omega⟩)
 have HQ2:=hid q2
 have HR2:=hid (block_keep HQ1.out k2 (fun h=>by have:=lt_block HS.out.own;omega))
 have HK2:=hid (show Keeps (fun y=>y=b∨foot2 LA LM s y) w w2 from HK1.out.up.trans (k2.mono (fun _ _ h=>.inl h)))
 rw [hw2]
 clear hw2 k2 q2 b2 hd1 c0 c1 c2 cl cf
 refine (aheap_ok a LA s.A w2 HD2.out.ar).mono ?_
 rintro e w3 ⟨hb3,ht3,rfl,k3,_,_,hh3⟩
 have HK3:=hid k3;have HH3:=hid hh3
 clear k3 hh3
 go_wp2_with fail
 refine (hall_ok hb3 ht3 s.A.H w3 HH3.out).mono ?_
 rintro e w4 ⟨v,rfl,hr4,k4⟩
 have HK4:=hid (HK3.out.trans k4);have HR4:=hid hr4
 have hlen:=tk_len s.A.H.T
 clear hr4 k4
 go_wp2_with fail
 have eg:∀ args w,(callFunc 33 args).run Tryz.prog w = .ok (.enter 33 args) w:=enters_of Tryz.func33 (by kernel_rfl) rfl
 refine (rindex 33 _ (fun r=>r.s == (S.next:Int)) v s.A.H.T.tk w4 HR4.out.refs (by omega) eg (fun x _ W hk=>swstep1 _ S.next x W (block_keep HQ2.out (HK4.out.trans hk) (fun h=>h)))).mono ?_
 rintro e w5 ⟨hix,k5⟩
 have HK5:=hid (HK4.out.trans k5)
 have HK45:=hid k5
 have hq5:=(cells1 (block_keep HQ2.out HK5.out (fun h=>h))).1
 clear k5 eg
 have HMK:=hid (fun W (hk:Keeps (fun _=>False) w2 W)=>mmarked_any m LM s.M (S.next:Int) W (HD2.out.mm.keeps0 hk))
 have hmk:s.M.markedR (S.next:Int)=(!(s.M.P.c S.next == 0),0):=by
  unfold Mk.markedR;rw [if_neg (by omega),Int.toNat_natCast]
 rw [hmk] at HMK
 clear hmk
 have FIN:=hid (fun W (hk:Keeps (fun y=>y=w.heap.size) w2 W) (he:S.stepR s=⟨⟨S.size,S.next+1,S.n⟩,s,.no,false⟩)=>(show Both w0 W a m LA LM (S.stepR s).s∧SwAt W b (S.stepR s).S∧Keeps (fun y=>y=b∨foot2 LA LM s y) w W by
  have hbl:=lt_block HS.out.own
  rw [he]
  exact⟨Both.far HH.out HD2.out rfl rfl (hk.mono (fun y _ h=>by omega)),HS2.out.keeps hk (by omega),HK2.out.trans' hk (fun _ _ h=>h) (fun y hy h=>by omega)⟩))
 have hr5:=(cells2 (block_keep HR2.out HK5.out (fun h=>h)))
 obtain⟨x0,x1,xf,xl⟩:=hr5
 have x0f:=xf 0;have x1f:=xf 1
 clear xf
 rcases hix with⟨k,r,hkr,hp,hpre,rfl⟩ | ⟨hno,rfl⟩
 ·obtain⟨i,e1,e2,e3,e4⟩:=tk_of (List.mem_of_getElem? hkr)
  have hin:i=S.next:=by have:r.s=(S.next:Int):=by simpa using hp
                        omega
  subst hin
  clear hp hpre
  go_wp2_with fail
  refine (HMK.out _ HK5.out).mono ?_
  rintro e w6 ⟨rfl,k6⟩
  have HK6:=hid (HK5.out.trans k6)
  have HK46:=hid (HK45.out.trans k6)
  clear k6
  obtain⟨y0,y1,yf,yl⟩:=cells2 (block_keep HR2.out HK6.out (fun h=>h))
  have y0f:=yf 0;have y1f:=yf 1
  clear yf x0 x1 x0f x1f xl hq5
  by_cases hc:s.M.P.c S.next=0
  ·rw [show (!(s.M.P.c S.next == 0))=false by simpa using hc]
   have hst:S.stepR s=⟨⟨S.size,S.next+1,S.n+1⟩,s.free S.next,⟨S.next,s.A.H.T.gn S.next⟩,true⟩:=by
    unfold Sw.stepR;rw [if_neg (by rintro (h | h);exact h hc;exact h e3)]
   have HST:=hid hst
   have hkc:¬ ((k:Int)<0):=by omega
   rcases HR4.out.cells with⟨rfl,h0⟩ | ⟨g,cap,cur,rfl,hgb,hg,hcur⟩
   ·rw [h0] at hkr;cases hkr
   obtain⟨cu0,cu1⟩:=hcur k r hkr
   have hklt:(k:Int)<(s.A.H.T.tk.length:Int):=by
    have:=(List.getElem?_eq_some_iff.1 hkr).1;omega
   obtain⟨tn,htn⟩:∃ tn,s.A.H.T.tk.length=tn:=⟨_,rfl⟩
   rw [htn] at hklt hlen ⊢
   have hg6:=block_keep hg HK46.out (fun h=>h)
   have hgl:=lt_block hg6
   have u0:=cell_at hg6 cu0
   have u1:=cell_at hg6 cu1
   have hk0:(0:Int)≤k:=by omega
   have hrr:r=⟨(S.next:Int),s.A.H.T.gn S.next⟩:=by
    obtain⟨rs,rg⟩:=r
    dsimp only at e1 e4
    rw [e1,e4]
   subst hrr
   dsimp only at cu0 cu1 u0 u1
   have hwb:=lt_block HS.out.own
   have hw1:=HK1.out.size
   have hw2:=lt_block HQ2.out
   have hw3:=HK3.out.size
   have hno:∀ y,w.heap.size≤y→¬ foot2 LA LM s y:=fun y hy hf=>by have:=Both.footlt HH.out y hf;omega
   have HNO:=hid hno
   have HG:=hid hg6
   have HFR:=hid (show Calls Tryz.prog 35 #[.pointer (some ⟨a,0,none⟩),.agg #[.int .i64 S.next,.int .u32 (s.A.H.T.gn S.next)]] w6 _ from afree_any a LA s.A ⟨S.next,s.A.H.T.gn S.next⟩ w6 (Duo.same HD2.out HK6.out).ar HOK.out.a)
   have HD6:=hid (Duo.same HD2.out HK6.out)
   clear hkr e1 e2 e3 e4 hg hcur HMK FIN hno hg6
   go_wp2_with fail
   refine HFR.out.mono ?_
   rintro e w7 ⟨rfl,k7,h7⟩
   have HD7:=hid (Duo.arenaF HD6.out k7 h7 (Ar.freeR_n _ _).2)
   have HK7:=hid (show Keeps (foot2 LA LM s) w2 w7 from HK6.out.up.trans (k7.mono (fun _ _ h=>.inl h)))
   have HG7:=hid (block_keep HG.out k7 (fun h=>HNO.out g (by omega) (.inl h)))
   have hq7:=(cells1 (block_keep HQ2.out HK7.out (HNO.out _ hw1))).1
   clear k7 h7 y0 y1 y0f y1f yl u0 u1 hgl HFR
   go_wp2_with fail
   refine (duo_freed_any HD7.out (S.next:Int)).mono ?_
   rintro e w8 ⟨rfl,hd8,k8⟩
   have HD8:=hid (show Both w0 w8 a m LA LM (s.free S.next) from hd8)
   have HG8:=hid (block_keep HG7.out k8 (fun h=>HNO.out g (by omega) (.inr h)))
   have HK8:=hid (show Keeps (foot2 LA LM s) w2 w8 from HK7.out.trans (k8.mono (fun _ _ h=>.inr h)))
   have HS8:=hid (HS2.out.keeps HK8.out HNE.out)
   clear hd8 k8 hq7
   go_wp2_with fail
   refine (swnote b ⟨S.size,S.next+1,S.n⟩ w8 HS8.out.own (by show S.n≤256;omega)).mono ?_
   rintro e w9 ⟨rfl,k9,h9⟩
   have HD9:=hid (Both.sw HD8.out HS8.out k9 hb)
   have hg9:=block_keep HG8.out k9 (by omega)
   have hgl:=lt_block hg9
   have u0:=cell_at hg9 cu0
   have u1:=cell_at hg9 cu1
   have HK9:=hid (show Keeps (fun y=>y=b∨foot2 LA LM s y) w2 w9 from (HK8.out.mono (fun _ _ h=>.inr h)).trans (k9.mono (fun _ _ h=>.inl h)))
   have HB9:=hid h9
   obtain⟨y0,y1,yf,yl⟩:=cells2 (block_keep HR2.out HK9.out (by rintro (h | h);omega;exact HNO.out _ (Nat.le_refl _) h))
   have y0f:=yf 0;have y1f:=yf 1
   clear yf k9 h9 hg9
   go_wp2_with fail
   refine bodyPost_ret_by (v:=.tuple #[(S.stepR s).r.val,.bool (S.stepR s).is,.int .i64 0]) (by rw [HST.out];simp [results,Tryz.results8,go_sem,Rf.val,Rf.no, *]) rfl ⟨rfl,?_⟩
   rw [HST.out]
   obtain⟨W,hW⟩:∃ W,(w9.setCell ⟨w.heap.size,0,none⟩ (.int .i64 S.next)).setCell ⟨w.heap.size,1,none⟩ (.int .u32 (s.A.H.T.gn S.next))=W:=⟨_,rfl⟩
   have kk:Keeps (fun y=>y=w.heap.size) w9 W:=by rw [← hW];exact (keeps_set1 _ _ _ _).trans (keeps_set1 _ _ _ _)
   rw [hW]
   have hmk:(s.free S.next).M.K.many=s.M.K.many:=by
    show (s.M.freedR S.next).1.K.many=_
    unfold Mk.freedR;split <;> rfl
   refine⟨Both.far HH.out HD9.out (Ar.freeR_n _ _).2 hmk (kk.mono (fun y _ h=>by omega)),?_,?_⟩
   ·exact SwAt.keeps (K:=⟨S.size,S.next+1,S.n+1⟩) ⟨HB9.out,hs1,hS,by show S.next+1≤S.size;omega,by show S.n+1≤S.next+1;omega⟩ kk (by omega)
   ·exact (HK2.out.trans HK9.out).trans' kk (fun _ _ h=>h) (fun y hy h=>by omega)
  ·rw [show (!(s.M.P.c S.next == 0))=true by simpa using hc]
   have hst:S.stepR s=⟨⟨S.size,S.next+1,S.n⟩,s,.no,false⟩:=by
    unfold Sw.stepR;rw [if_pos (.inl hc)]
   have HST:=hid hst
   clear hc hst
   go_wp2_with fail
   refine bodyPost_ret_by (v:=.tuple #[(S.stepR s).r.val,.bool (S.stepR s).is,.int .i64 0]) (by rw [HST.out];simp [results,Tryz.results8,go_sem,Rf.val,Rf.no, *]) rfl ⟨rfl,FIN.out _ ?_ HST.out⟩
   repeat (first | (with_reducible exact HK6.out.up) | with_reducible refine Keeps.setCell ?_ ?_ _ | with_reducible refine Keeps.alloc ?_ _ | with_reducible refine Keeps.drewN ?_ _ | with_reducible refine Keeps.drew ?_)
   all_goals first | (left;simp;done) | (left;simp;omega) | (right;simp;done) | (right;simp;omega)
 ·go_wp2_with fail
  refine (HMK.out _ HK5.out).mono ?_
  rintro e w6 ⟨rfl,k6⟩
  have HK6:=hid (HK5.out.trans k6)
  clear k6
  obtain⟨y0,y1,yf,yl⟩:=cells2 (block_keep HR2.out HK6.out (fun h=>h))
  have y0f:=yf 0;have y1f:=yf 1
  clear yf x0 x1 x0f x1f xl hq5
  have hst:S.stepR s=⟨⟨S.size,S.next+1,S.n⟩,s,.no,false⟩:=by
   have h1:s.A.H.T.st S.next≠1:=fun h1=>by
    have:=hno _ (tk_mem (T:=s.A.H.T) (i:=S.next) (by omega) h1)
    simp at this
   unfold Sw.stepR;rw [if_pos (.inr h1)]
  have HST:=hid hst
  clear hst hno
  obtain⟨mk,hmk⟩:∃ mk,(!(s.M.P.c S.next == 0))=mk:=⟨_,rfl⟩
  rw [hmk]
  clear hmk
  cases mk
  all_goals
   go_wp2_with fail
   refine bodyPost_ret_by (v:=.tuple #[(S.stepR s).r.val,.bool (S.stepR s).is,.int .i64 0]) (by rw [HST.out];simp [results,Tryz.results8,go_sem,Rf.val,Rf.no, *]) rfl ⟨rfl,FIN.out _ ?_ HST.out⟩
   repeat (first | (with_reducible exact HK6.out.up) | with_reducible refine Keeps.setCell ?_ ?_ _ | with_reducible refine Keeps.alloc ?_ _ | with_reducible refine Keeps.drewN ?_ _ | with_reducible refine Keeps.drew ?_)
   all_goals first | (left;simp;done) | (left;simp;omega) | (right;simp;done) | (right;simp;omega)
end Go.Proofs.YtnlkfbndlngjaaaGreat
