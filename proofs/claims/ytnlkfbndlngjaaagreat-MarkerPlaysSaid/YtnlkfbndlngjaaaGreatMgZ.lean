import Derived.Test.YtnlkfbndlngjaaaGreatMgX
import Derived.Test.YtnlkfbndlngjaaaGreatMgY
set_option maxHeartbeats 2000000
set_option maxRecDepth 100000
namespace Go.Proofs.YtnlkfbndlngjaaaGreat
open Go.RowKit
theorem cborn1 (b i B:Nat) (P:Pt) (w:World) (h:PtAt w b P) (hi:i<P.n) (hB:w.heap[B]?=some (.cells #[.int .u8 0] 5)):
 Calls Tryz.prog 261 #[.pointer (some ⟨b,1+i,none⟩),.pointer (some ⟨B,0,none⟩)] w fun e w'=>(∃ k,e = .returned (.int .i64 k))∧Keeps (fun y=>y=b) w w'∧PtAt w' b (P.born i):=by
 obtain⟨c0,cf,cl⟩:=cells1 hB
 have hc:=h.cell hi
 have fc:=h.frozen (1+i)
 have hl:=h.lt
 have HP:=hid h;have HI:=hid hi
 clear h hi hB cf
 by_cases hx:P.c i=0
 ·have HX:=hid (show P.born i=P.put i 2 from if_pos hx)
  rw [hx] at hc
  clear hx
  go_enter Tryz.func261,Tryz.ntmps261
  go_wp2_with fail
  go_quiet (fail)
  go_wp2_with fail
  go_ret
  have k1:Keeps (fun _=>False) w (w.drewN nq):=(Keeps.refl _ _).drewN _
  rw [HX.out]
  exact⟨⟨_,rfl⟩,k1.up.trans (keeps_set1 _ _ _ _),(HP.out.keeps k1 (fun h=>h)).set HI.out 2 (by decide) (by decide)⟩
 ·have HX:=hid (show P.born i=P from if_neg hx)
  have hq:(P.c i == 0)=false:=by simpa using hx
  have hq':(!(P.c i == 0))=true:=by simpa using hx
  clear hx
  go_enter Tryz.func261,Tryz.ntmps261
  go_wp2_with fail
  go_quiet (fail)
  go_wp2_with fail
  go_ret
  have k1:Keeps (fun _=>False) w (w.drewN nq):=(Keeps.refl _ _).drewN _
  rw [HX.out]
  exact⟨⟨_,rfl⟩,k1.up,HP.out.keeps k1 (fun h=>h)⟩
theorem cborn_ok (b:Nat) (P:Pt) (i:Nat) (w:World) (h:PtAt w b P) (hi:i<P.n):
 Calls Tryz.prog 156 #[.pointer (some ⟨b,0,none⟩),.int .i64 i] w fun e w'=>(∃ k,e = .returned (.int .i64 k))∧Keeps (fun y=>y=b) w w'∧PtAt w' b (P.born i):=by
 have HW:=hid (fun (w0:World) B (hk0:Keeps (fun _=>False) w w0) (hq:w0.heap[B]?=some (.cells #[.int .u8 0] 5))=>
  cwith_ok b P i 261 #[.pointer (some ⟨B,0,none⟩)] (fun k w'=>Keeps (fun y=>y=b) w0 w'∧PtAt w' b (P.born i)) w0 (h.keeps hk0 (fun h=>h)) hi (enters_of Tryz.func261 (by kernel_rfl) rfl)
   (fun w' hk=>(cborn1 b i B P w' (h.keeps (hk0.trans hk) (fun h=>h)) hi (block_keep hq hk (fun h=>h))).mono (by
    rintro e w2 ⟨⟨k,rfl⟩,h2,h3⟩
    exact⟨k,rfl,hk.up.trans h2,h3⟩)))
 clear h hi
 go_enter Tryz.func156,Tryz.ntmps156
 go_wp2_with (first | (go_at_call 169;refine (HW.out _ _ ((Keeps.refl _ _).alloc _) alloc_new).mono ?_;rintro e w1 ⟨k,rfl,hk,hp⟩) | go_in)
 go_ret
 exact⟨⟨_,rfl⟩,((Keeps.refl _ _).alloc _).trans hk,hp⟩
theorem cbleach1 (b i:Nat) (P:Pt) (w:World) (h:PtAt w b P) (hi:i<P.n):
 Calls Tryz.prog 174 #[.pointer (some ⟨b,1+i,none⟩)] w fun e w'=>e = .returned (.int .i64 0)∧Keeps (fun y=>y=b) w w'∧PtAt w' b (P.put i 0):=by
 have hc:=h.cell hi
 have fc:=h.frozen (1+i)
 have hl:=h.lt
 have HP:=hid h;have HI:=hid hi
 clear h hi
 go_enter Tryz.func174,Tryz.ntmps174
 go_wp2_with fail
 go_ret
 exact⟨rfl,keeps_set1 _ _ _ _,HP.out.set HI.out 0 (by decide) (by decide)⟩
theorem cbleach_ok (b:Nat) (P:Pt) (i:Nat) (w:World) (h:PtAt w b P) (hi:i<P.n):
 Calls Tryz.prog 95 #[.pointer (some ⟨b,0,none⟩),.int .i64 i] w fun e w'=>e = .returned (.int .i64 0)∧Keeps (fun y=>y=b) w w'∧PtAt w' b (P.put i 0):=by
 have HW:=hid (cwith_ok b P i 174 #[] (fun k w'=>k=0∧Keeps (fun y=>y=b) w w'∧PtAt w' b (P.put i 0)) w h hi (enters_of Tryz.func174 (by kernel_rfl) rfl)
  (fun w' hk=>(cbleach1 b i P w' (h.keeps hk (fun h=>h)) hi).mono (by
   rintro e w2 ⟨rfl,h2,h3⟩
   exact⟨0,rfl,rfl,hk.up.trans h2,h3⟩)))
 clear h hi
 go_enter Tryz.func95,Tryz.ntmps95
 go_wp2_with fail
 refine HW.out.mono ?_
 rintro e w1 ⟨k,rfl,rfl,hk,hp⟩
 go_wp2_with fail
 go_ret
 exact⟨rfl,hk,hp⟩
theorem mfreed_any (m:Nat) (L:MkL) (M:Mk) (s:Int) (w:World) (h:MkIn w m L M):
 Calls Tryz.prog 36 #[.pointer (some ⟨m,0,none⟩),.int .i64 s] w fun e w'=>e = .returned (.int .i64 (M.freedR s).2)∧Keeps (fun y=>L.foot M.K.many y) w w'∧MkIn w' m L (M.freedR s).1:=by
 unfold Mk.freedR
 split
 ·rename_i hs
  exact (mfreed_bad m L M s w h hs).mono fun e w' ⟨h1,h2⟩=>⟨h1,h2.up,h.keeps0 h2⟩
 ·obtain⟨i,rfl⟩:∃ i:Nat,s=i:=⟨s.toNat,by omega⟩
  have hi:i<M.P.n:=by omega
  rw [Int.toNat_natCast]
  obtain⟨c0,c1,c2,c3,c4,c5,cl⟩:=cells6 h.own
  have HV:=hid (mvalid m L M w h)
  have HP:=hid (cbleach_ok L.p M.P i w h.pt hi)
  have hne:L.s≠L.p:=by
   obtain⟨_,q1,_⟩:=h.pt
   obtain⟨_,q2,_⟩:=h.st
   exact type_ne q2 q1 (by decide)
  have HM:=hid (fun (w':World) (hk:Keeps (fun y=>y=L.p) w w') (hp:PtAt w' L.p (M.P.put i 0))=>h.setPS (P:=M.P.put i 0) (S:=M.S) rfl (hk.mono (fun _ _ h=>.inl h)) hp (h.st.keeps hk hne))
  clear h hne
  go_enter Tryz.func36,Tryz.ntmps36
  go_wp2_with fail
  refine (HV.out).mono ?_
  rintro e w' ⟨rfl,h'⟩
  obtain rfl:=h'.symm
  go_wp2_with fail
  refine HP.out.mono ?_
  rintro e w1 ⟨rfl,hk,hp⟩
  go_wp2_with fail
  go_ret
  exact⟨rfl,hk.mono (fun y _ h=>.inr (.inl h)),HM.out _ hk hp⟩
theorem mmarked_bad (m:Nat) (L:MkL) (M:Mk) (s:Int) (w:World) (h:MkIn w m L M) (hs:s<0∨(M.P.n:Int)≤s):
 Calls Tryz.prog 34 #[.pointer (some ⟨m,0,none⟩),.int .i64 s] w fun e w'=>e = .returned (.tuple #[.bool false,.int .i64 3])∧Keeps (fun _=>False) w w':=by
 obtain⟨c0,c1,c2,c3,c4,c5,cl⟩:=cells6 h.own
 have HV:=hid (mvalid m L M w h)
 have HP:=hid (cof_bad L.p M.P s w h.pt hs)
 clear h hs
 go_enter Tryz.func34,Tryz.ntmps34
 go_wp2_with (first | (go_at_call 43;refine HV.out.mono ?_;rintro e w' ⟨rfl,h'⟩;obtain rfl:=h'.symm) | (go_at_call 93;refine HP.out.mono ?_;rintro e w' ⟨rfl,hk⟩))
 go_ret2
 exact⟨rfl,hk⟩
theorem mmarked_any (m:Nat) (L:MkL) (M:Mk) (s:Int) (w:World) (h:MkIn w m L M):
 Calls Tryz.prog 34 #[.pointer (some ⟨m,0,none⟩),.int .i64 s] w fun e w'=>e = .returned (.tuple #[.bool (M.markedR s).1,.int .i64 (M.markedR s).2])∧Keeps (fun _=>False) w w':=by
 unfold Mk.markedR
 split
 ·rename_i hs;exact mmarked_bad m L M s w h hs
 ·obtain⟨i,rfl⟩:∃ i:Nat,s=i:=⟨s.toNat,by omega⟩
  rw [Int.toNat_natCast]
  exact mmarked_ok m L M i w h (by omega)
theorem mmade_any (m:Nat) (r:Rf) (L:MkL) (M:Mk) (w:World) (h:MkIn w m L M):
 Calls Tryz.prog 79 #[.pointer (some ⟨m,0,none⟩),.agg #[.int .i64 r.s,.int .u32 r.g]] w fun e w'=>e = .returned (.int .i64 (M.madeR r).2)∧Keeps (fun y=>L.foot M.K.many y) w w'∧MkIn w' m L (M.madeR r).1:=by
 unfold Mk.madeR
 split
 ·rename_i hb
  exact (mmade_bad m r.s r.g L M w h hb).mono fun e w' ⟨h1,h2⟩=>⟨h1,h2.up,h.keeps0 h2⟩
 ·rename_i hb
  obtain⟨s,g⟩:=r
  dsimp only at hb ⊢
  obtain⟨i,rfl⟩:∃ i:Nat,s=i:=⟨s.toNat,by omega⟩
  have hi:i<M.P.n:=by omega
  rw [Int.toNat_natCast]
  have h12:=h.pt.n12
  have kq:Keeps (fun _=>False) w (w.alloc (.cells #[.int .i64 i,.int .u32 g] 34)):=(Keeps.refl _ w).alloc _
  have HK:=hid kq
  have hB:=h.keeps0 kq
  have HB:=hid hB
  have HV:=hid (mvalid m L M _ hB)
  obtain⟨d0,d1,d2,d3,d4,d5,dl⟩:=cells6 hB.own
  have HPH:=hid (fun n=>phPhase L.c M.K _ (hB.keeps0 ((Keeps.refl (fun _=>False) _).drewN n)).clk)
  have hg:(g == 0)=false:=by simp;omega
  have hi0:decide ((i:Int)<0)=false:=by simp
  have hi1:decide (M.P.n≤i)=false:=by simp;omega
  have hne:L.s≠L.p:=by
   obtain⟨_,q1,_⟩:=h.pt
   obtain⟨_,q2,_⟩:=h.st
   exact type_ne q2 q1 (by decide)
  have HP:=hid (fun W (hk:Keeps (fun _=>False) (w.alloc (.cells #[.int .i64 i,.int .u32 g] 34)) W)=>(cborn_ok L.p M.P i W (hB.keeps0 hk).pt hi).mono (fun e w' ⟨h1,h2,h3⟩=>And.intro h1 (And.intro h2 ((hB.keeps0 hk).setPS (P:=M.P.born i) (S:=M.S) (by unfold Pt.born;split <;> rfl) (h2.mono (fun _ _ h=>.inl h)) h3 ((hB.keeps0 hk).st.keeps h2 hne)))))
  clear h hB kq hne hb
  by_cases hp:2≤M.K.ph
  ·rw [if_pos hp]
   go_enter Tryz.func79,Tryz.ntmps79
   go_wp2_with fail
   refine (HV.out).mono ?_
   rintro e w' ⟨rfl,h'⟩
   obtain rfl:=h'.symm
   go_wp2_with fail
   go_quiet (fail)
   go_wp2_with fail
   refine ((HPH.out _)).mono ?_
   rintro e w' ⟨rfl,h'⟩
   obtain rfl:=h'.symm
   go_wp2_with fail
   have kW:Keeps (fun _=>False) (w.alloc (.cells #[.int .i64 i,.int .u32 g] 34)) ((w.alloc (.cells #[.int .i64 i,.int .u32 g] 34)).drewN nq):=(Keeps.refl _ _).drewN _
   have hWq:((w.alloc (.cells #[.int .i64 i,.int .u32 g] 34)).drewN nq).heap[w.heap.size]?=some (.cells #[.int .i64 i,.int .u32 g] 34):=block_keep alloc_new kW (fun h=>h)
   obtain⟨e0,e1,e2,e3,e4,e5,el⟩:=cells6 (HB.out.keeps0 kW).own
   obtain⟨x0,x1,xf,xl⟩:=cells2 hWq
   have HW:=hid kW
   clear d0 d1 d2 d3 d4 d5 dl kW hWq xf
   obtain⟨W,hW⟩:∃ W,(w.alloc (.cells #[.int .i64 i,.int .u32 g] 34)).drewN nq=W:=⟨_,rfl⟩
   rw [hW] at e0 e1 e2 e3 e4 e5 el x0 x1 xl HW ⊢
   clear hW
   go_still_tail 6,(by kernel_rfl)
   change wpList _ _ _ _ _ (World.drew _)
   go_wp2_with fail
   refine (HP.out _ HW.out.drew).mono ?_
   rintro e w1 ⟨⟨k,rfl⟩,h2,h3⟩
   go_wp2_with fail
   go_ret
   exact⟨rfl,((HK.out.trans HW.out).drew.up).trans (h2.mono (fun y _ h=>.inr (.inl h))),h3⟩
  ·rw [if_neg hp]
   go_enter Tryz.func79,Tryz.ntmps79
   go_wp2_with fail
   refine (HV.out).mono ?_
   rintro e w' ⟨rfl,h'⟩
   obtain rfl:=h'.symm
   go_wp2_with fail
   go_quiet (fail)
   go_wp2_with fail
   refine ((HPH.out _)).mono ?_
   rintro e w' ⟨rfl,h'⟩
   obtain rfl:=h'.symm
   go_wp2_with fail
   go_ret
   exact⟨rfl,(HK.out.drewN _).up,HB.out.keeps0 ((Keeps.refl _ _).drewN _)⟩
end Go.Proofs.YtnlkfbndlngjaaaGreat
namespace Go.Proofs.YtnlkfbndlngjaaaGreat
open Go.RowKit
theorem glL_len (A:Ar):A.glL.length≤8:=by
 unfold Ar.glL
 exact Nat.le_trans (List.length_filter_le _ _) (by simp)
theorem mshake_any (m a:Nat) (L:MkL) (M:Mk) (LA:ArL) (A:Ar) (w:World) (h:MkIn w m L M) (ha:ArIn w a LA A) (hn:A.H.T.n=M.P.n) (hp:M.K.ph=1) (hr:M.K.all=true) (hcy:M.K.cy<4611686018427387904)
 (hsep:∀ {W W'},ArIn W a LA A→Keeps (fun y=>y=L.c) W W'→ArIn W' a LA A):
 Calls Tryz.prog 166 #[.pointer (some ⟨m,0,none⟩),.pointer (some ⟨a,0,none⟩)] w fun e w'=>e = .returned (.tuple #[])∧Keeps (fun y=>y=L.c∨y=L.p∨y=L.s) w w'∧MkIn w' m L (Mk.shade { M with K:=M.K.go } ((hres A.H A.glL).map (·.s))):=by
 have hrd:M.K.ready=true:=by simp [Ck.ready,hp,hr]
 have HR:=hid (phReady L.c M.K w h.clk)
 rw [hrd] at HR
 have HGo:=hid (fun (w':World) (hk:Keeps (fun _=>False) w w')=>phGo_ok L.c M.K w' (h.clk.keeps hk (fun h=>h)) (by omega) (fun _=>hr) hcy)
 have HM:=hid (fun (w1 w2:World) (k1:Keeps (fun _=>False) w w1) (k2:Keeps (fun y=>y=L.c) w1 w2) hK=>(h.keeps0 k1).setC (K:=M.K.go) rfl k2 hK)
 have HA:=hid (fun (w1 w2:World) (k1:Keeps (fun _=>False) w w1) (k2:Keeps (fun y=>y=L.c) w1 w2)=>hsep (ha.keeps0 k1) k2)
 have HC:=hid (fun (w':World) (hk:Keeps (fun _=>False) w w')=>cells6 (h.keeps0 hk).own)
 have hgl:=glL_len A
 obtain⟨c0,c1,c2,c3,c4,c5,cl⟩:=cells6 h.own
 clear h ha hr hcy hp hrd hsep
 go_enter Tryz.func166,Tryz.ntmps166
 go_wp2_with fail
 refine HR.out.mono ?_
 rintro e w1 ⟨rfl,hk1⟩
 obtain⟨d0,d1,d2,d3,d4,d5,dl⟩:=HC.out _ hk1
 have HK1:=hid hk1
 clear hk1
 go_wp2_with fail
 refine (HGo.out _ HK1.out).mono ?_
 rintro e w2 ⟨rfl,hk2,hK2⟩
 have HM2:=hid (HM.out _ _ HK1.out hk2 hK2)
 have HA2:=hid (HA.out _ _ HK1.out hk2)
 have HK2:=hid (HK1.out.up.trans hk2)
 clear hk2 hK2
 go_wp2_with fail
 refine (mshader m a LA A w2 HA2.out).mono ?_
 rintro e w3 ⟨Bh,Bm,b,t,rfl,hk3,q1,q2,hh3⟩
 have HK3:=hid hk3;have HQ1:=hid q1;have HQ2:=hid q2;have HH3:=hid hh3
 clear hk3 q1 q2 hh3
 have e1:=enters_of Tryz.func190 (by kernel_rfl) rfl
 go_wp2_with fail
 refine (aglobals_any a LA A w3 (HA2.out.keeps0 HK3.out)).mono ?_
 rintro e w4 ⟨v,rfl,hv,hk4,_⟩
 have HK4:=hid hk4;have HV:=hid hv
 clear hk4 hv
 go_wp2_with fail
 refine (mshade1 m b t Bh Bm L { M with K:=M.K.go } A.H v A.glL w4 (HM2.out.keeps0 (HK3.out.trans HK4.out)) (HH3.out.keeps HK4.out (fun h=>h) (fun h=>h)) hn HV.out (by omega) (block_keep HQ1.out HK4.out (fun h=>h)) (block_keep HQ2.out HK4.out (fun h=>h))).mono ?_
 rintro e w5 ⟨rfl,hk5,hm5⟩
 go_wp2_with fail
 go_end0
 refine⟨rfl,?_,hm5⟩
 exact ((HK2.out.mono (T:=fun y=>y=L.c∨y=L.p∨y=L.s) (fun _ _ h=>.inl h)).trans (HK3.out.trans HK4.out).up).trans' hk5 (fun _ _ h=>h) (fun _ _ h=>.inr h)
theorem tk_no {T:Tb} {i:Nat} (hs:T.st i≠1) {r:Rf} (h:r∈T.tk):r.s≠i:=by
 obtain⟨j,h1,_,h2,_⟩:=tk_of h
 intro e
 have:j=i:=by omega
 exact hs (this ▸ h2)
theorem mscan_none (m a i:Nat) (L:MkL) (M:Mk) (LA:ArL) (A:Ar) (w:World) (h:MkIn w m L M) (ha:ArIn w a LA A) (hn:A.H.T.n=M.P.n) (hi:i<A.H.T.n) (hs:A.H.T.st i≠1) (hc:M.P.c i=1):
 Calls Tryz.prog 239 #[.pointer (some ⟨m,0,none⟩),.pointer (some ⟨a,0,none⟩),.int .i64 i] w fun e w'=>e = .returned (.tuple #[])∧Keeps (fun y=>y=L.p∨y=L.s) w w'∧MkIn w' m L { M with P:=M.P.put i 2 }:=by
 have HAH:=hid (aheap_ok a LA A w ha)
 have HM:=hid (fun (w':World) (hk:Keeps (fun _=>False) w w')=>h.keeps0 hk)
 have hne:L.s≠L.p:=by
  obtain⟨_,q1,_⟩:=h.pt
  obtain⟨_,q2,_⟩:=h.st
  exact type_ne q2 q1 (by decide)
 have hno:∀ r∈A.H.T.tk,r.s≠i:=fun r hr=>tk_no hs hr
 clear h ha
 go_enter Tryz.func239,Tryz.ntmps239
 go_wp2_with fail
 refine HAH.out.mono ?_
 rintro e w1 ⟨b,t,rfl,hk1,_,_,hh1⟩
 have HK1:=hid hk1;have HH1:=hid hh1
 clear hk1 hh1
 go_wp2_with fail
 refine (hall_ok b t A.H w1 HH1.out).mono ?_
 rintro e w2 ⟨v,rfl,hr2,hk2⟩
 have HK2:=hid (HK1.out.trans hk2)
 have HH2:=hid (HH1.out.keeps hk2 (fun h=>h) (fun h=>h))
 have hlen:=tk_len A.H.T
 have n256:=HH1.out.tab.n12.2
 obtain⟨tk,htk⟩:∃ tk,A.H.T.tk=tk:=⟨_,rfl⟩
 rw [htk] at hr2 hlen hno
 have HNO:=hid hno
 have hin:i<M.P.n:=by omega
 have key:∀ W,Keeps (fun _=>False) w2 W→Calls Tryz.prog 265 #[.pointer (some ⟨L.p,0,none⟩),.int .i64 i] W fun e w'=>e = .returned (.int .i64 0)∧Keeps (fun y=>y=L.p) W w'∧MkIn w' m L { M with P:=M.P.put i 2 }:=fun W hk=>
  (cblacken_ok L.p M.P i W (HM.out _ (HK2.out.trans hk)).pt hin hc).mono (fun e w' ⟨h1,h2,h3⟩=>⟨h1,h2,(HM.out _ (HK2.out.trans hk)).setPS (P:=M.P.put i 2) (S:=M.S) rfl (h2.mono (fun _ _ h=>.inl h)) h3 ((HM.out _ (HK2.out.trans hk)).st.keeps h2 hne)⟩)
 have KEY:=hid key
 clear htk hno key hne hs
 rcases hr2.refs with⟨rfl,h0⟩ | ⟨g,cap,cur,rfl,hg,hcur⟩
 ·obtain⟨d0,d1,d2,d3,d4,d5,dl⟩:=cells6 (HM.out _ HK2.out).own
  clear hr2 hk2
  go_wp2_with fail
  go_loopw [14] (fun ix wr=>ix = .int .i64 0∧w2=wr) (fun _ _=>0)
  case atStart=>exact⟨rfl,rfl⟩
  case round=>
   obtain⟨rfl,rfl⟩:=hrel
   go_wp2_with fail
   refine (KEY.out _ (Keeps.refl _ _)).mono ?_
   rintro e w7 ⟨rfl,hk7,hm7⟩
   go_wp2_with fail
   go_end0
   exact⟨rfl,HK2.out.up.trans (hk7.mono (fun _ _ h=>.inl h)),hm7⟩
 ·have HG:=hid hg;have HC:=hid hcur
  clear hr2 hk2 hg hcur
  go_wp2_with fail
  go_loopw [14] (fun ix wr=>∃ k:Nat,k≤tk.length∧ix = .int .i64 k∧Keeps (fun _=>False) w2 wr) (fun ix _=>tk.length - (intOf ix).toNat)
  case atStart=>exact⟨0,Nat.zero_le _,rfl,Keeps.refl _ _⟩
  case round=>
   obtain⟨k,hk,rfl,hkk⟩:=hrel
   have HKK:=hid hkk
   by_cases hlt:k<tk.length
   ·obtain⟨r,hr⟩:∃ r,tk[k]?=some r:=⟨_,List.getElem?_eq_getElem hlt⟩
    obtain⟨c0,c1⟩:=HC.out k r hr
    have hg:=block_keep HG.out hkk (fun h=>h)
    have x0:=cell_at hg c0
    have x1:=cell_at hg c1
    have hlt':(k:Int)<(tk.length:Int):=by omega
    have hk0:(0:Int)≤k:=by omega
    have hk256:(k:Int)<256:=by omega
    have he:(r.s == (i:Int))=false:=by simpa using HNO.out r (List.mem_of_getElem? hr)
    clear hkk hr c0 c1 hg
    go_wp2_with fail
    exact⟨⟨k+1,by omega,by go_num,HKK.out.alloc _⟩,by simp [intOf];omega⟩
   ·have hnl:¬ (k:Int)<(tk.length:Int):=by omega
    obtain⟨d0,d1,d2,d3,d4,d5,dl⟩:=cells6 (HM.out _ (HK2.out.trans HKK.out)).own
    clear hkk
    go_wp2_with fail
    refine (KEY.out _ HKK.out).mono ?_
    rintro e w7 ⟨rfl,hk7,hm7⟩
    go_wp2_with fail
    go_end0
    exact⟨rfl,(HK2.out.trans HKK.out).up.trans (hk7.mono (fun _ _ h=>.inl h)),hm7⟩
theorem mscan_any (m a i:Nat) (L:MkL) (M:Mk) (LA:ArL) (A:Ar) (w:World) (h:MkIn w m L M) (ha:ArIn w a LA A) (hn:A.H.T.n=M.P.n) (hi:i<A.H.T.n) (hc:M.P.c i=1):
 Calls Tryz.prog 239 #[.pointer (some ⟨m,0,none⟩),.pointer (some ⟨a,0,none⟩),.int .i64 i] w fun e w'=>e = .returned (.tuple #[])∧Keeps (fun y=>y=L.p∨y=L.s) w w'∧MkIn w' m L (M.scanAt A.H i):=by
 unfold Mk.scanAt
 split
 ·rename_i hs;exact mscan_ok m a i L M LA A w h ha hn hi hs hc
 ·rename_i hs;exact mscan_none m a i L M LA A w h ha hn hi hs hc
end Go.Proofs.YtnlkfbndlngjaaaGreat
namespace Go.Proofs.YtnlkfbndlngjaaaGreat
open Go.RowKit
def Mk.dr0 (M:Mk) (k:Nat):Mk:={ M.drains k with B:=updf (M.drains k).B k ((M.drains k).B k).drain }
theorem Mk.dr0_done (M:Mk) (k:Nat):(M.dr0 k).shade ((M.drains k).B k).list=M.drains (k+1):=rfl
theorem Mk.shade_snoc (M:Mk) (l:List Int) (x:Int):M.shade (l ++ [x])={ M with P:=(shd (M.shade l).P (M.shade l).S x.toNat).1,S:=(shd (M.shade l).P (M.shade l).S x.toNat).2 }:=by
 unfold Mk.shade;rw [shds_snoc]
theorem gr_of {P:Pt} {n i:Nat} (h:i∈P.gr n):i<n∧P.c i=1:=by
 induction n with
 | zero=>simp [Pt.gr] at h
 | succ n ih=>
  rw [Pt.gr,List.mem_append] at h
  rcases h with h | h
  ·obtain⟨h1,h2⟩:=ih h;exact⟨by omega,h2⟩
  ·split at h
   ·rename_i hc;obtain rfl:i=n:=by simpa using h
    exact⟨by omega,hc⟩
   ·cases h
theorem gr_head {P:Pt} {n i:Nat} {r:List Nat} (h:P.gr n=i :: r):i<n∧P.c i=1:=by
 have:i∈P.gr n:=by rw [h];simp
 exact gr_of this
theorem mtrace_any (m a:Nat) (L:MkL) (M:Mk) (LA:ArL) (A:Ar) (w:World) (h:MkIn w m L M) (ha:ArIn w a LA A) (hok:M.Ok) (hn:A.H.T.n=M.P.n) (hp3:M.K.ph=3) (hcy:M.K.cy<4611686018427387904)
 (hsep:∀ {W W'},ArIn W a LA A→Keeps (fun y=>L.foot M.K.many y) W W'→ArIn W' a LA A):
 Calls Tryz.prog 168 #[.pointer (some ⟨m,0,none⟩),.pointer (some ⟨a,0,none⟩)] w fun e w'=>e = .returned (.tuple #[])∧Keeps (fun y=>L.foot M.K.many y) w w'∧MkIn w' m L (M.traceR A.H):=by
 have hm4:=h.clk.m4
 obtain⟨c0,c1,c2,c3,c4,c5,cl⟩:=cells6 h.own
 have HM:=hid h
 have HA:=hid (fun (w':World) (hk:Keeps (fun y=>L.foot M.K.many y) w w')=>hsep ha hk)
 have HOK:=hid (fun k (hk:k≤M.K.many)=>hok.drains hk)
 have HDK:=hid (fun k=>Mk.drains_K M k)
 have hKm:∀ k,(M.drains k).K.many=M.K.many:=fun k=>by rw [(HDK.out k).1]
 have hPn:∀ k,(M.drains k).P.n=M.P.n:=fun k=>(HDK.out k).2
 have HKm:=hid hKm;have HPn:=hid hPn
 clear h ha hok hKm hPn
 go_enter Tryz.func168,Tryz.ntmps168
 go_wp2_with fail
 go_loopw [19] (fun ix wr=>∃ k:Nat,k≤M.K.many∧ix = .int .i64 k∧MkIn wr m L (M.drains k)∧Keeps (fun y=>L.foot M.K.many y) w wr) (fun ix _=>M.K.many - (intOf ix).toNat)
 case atStart=>exact⟨0,Nat.zero_le _,rfl,HM.out,Keeps.refl _ _⟩
 case round=>
  obtain⟨k,hk,rfl,hmk,hkk⟩:=hrel
  by_cases hlt:k<M.K.many
  ·obtain⟨cur,hr,hcur⟩:=hmk.row
   have hlt2:k<(M.drains k).K.many:=by rw [HKm.out];exact hlt
   have x0:=cell_at hr (hcur k hlt2)
   have hlt':(k:Int)<(M.K.many:Int):=by omega
   have hk0:(0:Int)≤k:=by omega
   have hk4:(k:Int)<4:=by omega
   have HD:=hid (bdrain_any (L.bb k) ((M.drains k).B k) wr (hmk.bf k hlt2))
   have HST:=hid (fun (w':World) (hk':Keeps (fun y=>y=L.bb k) wr w') (hB:BfAt w' (L.bb k) ((M.drains k).B k).drain)=>show MkIn w' m L (M.dr0 k) from hmk.setB hlt2 hk' hB)
   have HKK:=hid hkk
   have HLS:=hid ((HOK.out k hk).list hlt2)
   have hll:((M.drains k).B k).list.length≤64:=by
    obtain⟨c,_,hC⟩:=hmk.bf k hlt2
    rw [Bf.list_len];exact Nat.le_trans hC.nn hC.s2
   obtain⟨wo,hwo⟩:∃ wo:World,wo=wr:=⟨_,rfl⟩
   subst hwo
   clear hr hcur hmk hkk c0 c1 c2 c3 c4 c5 cl
   go_wp2_with fail
   refine HD.out.mono ?_
   rintro e w1 ⟨v,rfl,hv,hk1,hB1⟩
   have hm1:=HST.out _ hk1 hB1
   have HM1:=hid hm1
   have HK1:=hid (HKK.out.trans' hk1 (U:=fun y=>L.foot M.K.many y) (fun _ _ h=>h) (fun y _ h=>.inr (.inr (.inr ⟨k,hlt,h⟩))))
   have HDN:=hid (Mk.dr0_done M k)
   obtain⟨l,hl⟩:∃ l,((M.drains k).B k).list=l:=⟨_,rfl⟩
   rw [hl] at hll HLS HDN hv
   clear hk1 hB1 hl HD HST
   rcases hv.cells with⟨rfl,rfl⟩ | ⟨g,cap,cur,rfl,_,hg,hcur⟩
   ·clear hv hm1
    go_wp2_with fail
    go_loopw [30] (fun ix wr=>ix = .int .i64 0∧w1=wr) (fun _ _=>0)
    case atStart=>exact⟨rfl,rfl⟩
    case round=>
     obtain⟨rfl,rfl⟩:=hrel
     go_wp2_with fail
     exact⟨⟨k+1,by omega,by go_num,HDN.out ▸ HM1.out,HK1.out⟩,by simp [intOf];omega⟩
   ·have HG:=hid hg;have HC:=hid hcur
    have HNO:=hid (show g≠L.p∧g≠L.s by
     obtain⟨_,q1,_⟩:=hm1.pt
     obtain⟨_,q2,_⟩:=hm1.st
     exact⟨type_ne hg q1 (by decide),type_ne hg q2 (by decide)⟩)
    clear hv hm1 hg hcur
    go_wp2_with fail
    go_loopw [30] (fun ix wr=>∃ j:Nat,j≤l.length∧ix = .int .i64 j∧MkIn wr m L ((M.dr0 k).shade (l.take j))∧Keeps (fun y=>y=L.p∨y=L.s) w1 wr) (fun ix _=>l.length - (intOf ix).toNat)
    case atStart=>exact⟨0,Nat.zero_le _,rfl,HM1.out,Keeps.refl _ _⟩
    case round=>
     obtain⟨j,hj,rfl,hmj,hkj⟩:=hrel
     by_cases hjl:j<l.length
     ·obtain⟨x,hx⟩:∃ x,l[j]?=some x:=⟨_,List.getElem?_eq_getElem hjl⟩
      have hxr:=HLS.out x (List.mem_of_getElem? hx)
      obtain⟨i,rfl⟩:∃ i:Nat,x=i:=⟨x.toNat,by omega⟩
      have hg:=block_keep HG.out hkj (fun h=>by rcases h with h | h;exact HNO.out.1 h;exact HNO.out.2 h)
      have x0:=cell_at hg (HC.out j _ hx)
      have hgl:=lt_block hg
      have hjl':(j:Int)<(l.length:Int):=by omega
      have hj0:(0:Int)≤j:=by omega
      have hj64:(j:Int)<64:=by omega
      obtain⟨d0,d1,d2,d3,d4,d5,dl⟩:=cells6 hmj.own
      have hin:i<((M.dr0 k).shade (l.take j)).P.n:=by
       have e1:((M.dr0 k).shade (l.take j)).P.n=(M.drains k).P.n:=shds_n _ _
       rw [e1];omega
      have HSH:=hid (fun (w':World) (hk':Keeps (fun _=>False) wr w')=>scshade_ok L.p L.s _ _ i w' (hmj.pt.keeps hk' (fun h=>h)) (hmj.st.keeps hk' (fun h=>h)) hin)
      have HSET:=hid (fun (w' w2:World) (hk':Keeps (fun _=>False) wr w') (hk2:Keeps (fun y=>y=L.p∨y=L.s) w' w2) (h1:PtAt w2 L.p _) (h2:SqAt w2 L.s _)=>(hmj.keeps0 hk').setPS (P:=(shd ((M.dr0 k).shade (l.take j)).P ((M.dr0 k).shade (l.take j)).S i).1) (S:=(shd ((M.dr0 k).shade (l.take j)).P ((M.dr0 k).shade (l.take j)).S i).2) (shd_n _ _ _) hk2 h1 h2)
      have HSN:=hid ((congrArg (Mk.shade (M.dr0 k)) (take_get hx).2.symm).trans (Mk.shade_snoc (M.dr0 k) (l.take j) i))
      have HKJ:=hid hkj
      clear hg hx hmj hkj hin
      go_wp2_with fail
      go_still_tail 9,(by kernel_rfl)
      change wpList _ _ _ _ _ (World.drew _)
      go_wp2_with fail
      refine (HSH.out _ (Keeps.refl _ _).drew).mono ?_
      rintro e w7 ⟨rfl,hk7,hp7,hs7⟩
      have HM7:=hid (HSET.out _ _ (Keeps.refl _ _).drew hk7 hp7 hs7)
      have HK7:=hid (HKJ.out.drew.trans hk7)
      clear hk7 hp7 hs7
      go_wp2_with fail
      refine⟨⟨j+1,by omega,by go_num,?_,HK7.out⟩,by simp [intOf];omega⟩
      rw [HSN.out]
      have:=HM7.out
      rw [Int.toNat_natCast]
      exact this
     ·have hnl:¬ (j:Int)<(l.length:Int):=by omega
      have HT:=hid (show l.take j=l by rw [List.take_of_length_le (by omega)])
      have HMJ:=hid hmj
      have HKJ:=hid (HK1.out.trans' hkj (U:=fun y=>L.foot M.K.many y) (fun _ _ h=>h) (fun y _ h=>by rcases h with h | h;exact .inr (.inl h);exact .inr (.inr (.inl h))))
      clear hmj hkj
      go_wp2_with fail
      refine⟨⟨k+1,by omega,by go_num,?_,HKJ.out⟩,by simp [intOf];omega⟩
      have:=HMJ.out
      rw [HT.out,HDN.out] at this
      exact this
  ·obtain rfl:k=M.K.many:=by omega
   have hnl:¬ ((M.K.many:Nat):Int)<(M.K.many:Int):=by omega
   have HTR:=hid (show M.traceR A.H=(M.drains M.K.many).trace1 A.H from rfl)
   have hok:=HOK.out _ (Nat.le_refl _)
   have hKe:=(HDK.out M.K.many).1
   have hPe:=HPn.out M.K.many
   obtain⟨M',hM'⟩:∃ M',M.drains M.K.many=M':=⟨_,rfl⟩
   rw [hM'] at hmk hok hKe hPe HTR
   obtain⟨d0,d1,d2,d3,d4,d5,dl⟩:=cells6 hmk.own
   have HMK:=hid hmk;have HKK:=hid hkk;have HO:=hid hok
   have hne:L.p≠L.s:=by
    obtain⟨_,q1,_⟩:=hmk.pt
    obtain⟨_,q2,_⟩:=hmk.st
    exact type_ne q1 q2 (by decide)
   have HNE:=hid hne
   clear c0 c1 c2 c3 c4 c5 cl hmk hkk hM' hok hne HM HOK HDK HKm HPn hlt hk
   rcases Nat.eq_zero_or_pos M'.S.n with hs0 | hs0
   ·have HPO:=hid (qpop_none L.s M'.S wr HMK.out.st hs0)
    have HTR2:=hid (show M.traceR A.H=match M'.P.gr M'.P.n with | []=>{ M' with K:=M'.K.go } | i :: _=>M'.scanAt A.H i by rw [HTR.out];unfold Mk.trace1;rw [if_pos hs0];cases M'.P.gr M'.P.n <;> rfl)
    clear HTR hs0
    go_wp2_with fail
    refine HPO.out.mono ?_
    rintro e w1 ⟨rfl,hk1⟩
    have HM1:=hid (HMK.out.keeps0 hk1)
    have HK1:=hid (HKK.out.trans hk1.up)
    obtain⟨e0,e1,e2,e3,e4,e5,el⟩:=cells6 HM1.out.own
    have HGR:=hid (cgrey_ok L.p M'.P w1 HM1.out.pt)
    clear hk1 d0 d1 d2 d3 d4 d5
    go_wp2_with fail
    refine HGR.out.mono ?_
    rintro e w2 ⟨hk2,⟨hg0,rfl⟩ | ⟨i,r,hg0,rfl⟩⟩
    ·have HM2:=hid (HM1.out.keeps0 hk2)
     have HK2:=hid (HK1.out.trans hk2.up)
     have HRES:=hid (show M.traceR A.H={ M' with K:=M'.K.go } by rw [HTR2.out,hg0])
     obtain⟨f0,f1,f2,f3,f4,f5,fl⟩:=cells6 HM2.out.own
     have HGO:=hid (phGo_ok L.c M'.K w2 HM2.out.clk (by rw [hKe];omega) (fun h=>by rw [hKe] at h;omega) (by rw [hKe];exact hcy))
     clear hk2 e0 e1 e2 e3 e4 e5 hg0
     go_wp2_with fail
     refine HGO.out.mono ?_
     rintro e w3 ⟨rfl,hk3,hK3⟩
     have HK3:=hid hk3
     have HM3:=hid (HM2.out.setC (K:=M'.K.go) rfl hk3 hK3)
     clear hk3 hK3
     go_wp2_with fail
     refine bodyPost_ret (results_none rfl _ _ _) rfl ?_
     exact⟨rfl,HK2.out.trans' HK3.out (fun _ _ h=>h) (fun y _ h=>.inl h),HRES.out ▸ HM3.out⟩
    ·have HM2:=hid (HM1.out.keeps0 hk2)
     have HK2:=hid (HK1.out.trans hk2.up)
     have HRES:=hid (show M.traceR A.H=M'.scanAt A.H i by rw [HTR2.out,hg0])
     obtain⟨hi,hc⟩:=gr_head hg0
     obtain⟨f0,f1,f2,f3,f4,f5,fl⟩:=cells6 HM2.out.own
     have HOF:=hid (cof_ok L.p M'.P i w2 HM2.out.pt hi)
     rw [hc] at HOF
     have HC:=hid hc
     clear hk2 e0 e1 e2 e3 e4 e5 hg0 hc
     go_wp2_with fail
     refine HOF.out.mono ?_
     rintro e w3 ⟨rfl,hk3⟩
     have HM3:=hid (HM2.out.keeps0 hk3)
     have HK3:=hid (HK2.out.trans hk3.up)
     have HA3:=hid (HA.out _ HK3.out)
     clear hk3
     go_wp2_with fail
     refine (mscan_any m a i L M' LA A w3 HM3.out HA3.out (by omega) (by omega) HC.out).mono ?_
     rintro e w4 ⟨rfl,hk4,hm4⟩
     have HK4:=hid hk4;have HM4:=hid hm4
     clear hk4 hm4
     go_wp2_with fail
     go_end0
     exact⟨rfl,HK3.out.trans' HK4.out (fun _ _ h=>h) (fun y _ h=>by rcases h with h | h;exact .inr (.inl h);exact .inr (.inr (.inl h))),HRES.out ▸ HM4.out⟩
   ·have HPO:=hid (qpop_ok L.s M'.S wr HMK.out.st hs0)
    obtain⟨x,hx⟩:∃ x,M'.S.f (M'.S.n - 1)=x:=⟨_,rfl⟩
    have hxr:=HO.out.st (M'.S.n - 1)
    rw [hx] at HPO hxr
    obtain⟨i,rfl⟩:∃ i:Nat,x=i:=⟨x.toNat,by omega⟩
    have hi:i<M'.P.n:=by omega
    have HTR2:=hid (show M.traceR A.H=if M'.P.c i=1 then Mk.scanAt { M' with S:=M'.S.pop } A.H i else { M' with S:=M'.S.pop } by rw [HTR.out];unfold Mk.trace1;rw [if_neg (by omega),hx,Int.toNat_natCast])
    clear HTR hs0 hx
    go_wp2_with fail
    refine HPO.out.mono ?_
    rintro e w1 ⟨rfl,hk1,hs1⟩
    have hm1:MkIn w1 m L { M' with P:=M'.P,S:=M'.S.pop }:=HMK.out.setPS rfl (hk1.mono (fun _ _ h=>.inr h)) (HMK.out.pt.keeps hk1 HNE.out) hs1
    have HM1:=hid hm1
    have HK1:=hid (HKK.out.trans' hk1 (U:=fun y=>L.foot M.K.many y) (fun _ _ h=>h) (fun y _ h=>.inr (.inr (.inl h))))
    obtain⟨e0,e1,e2,e3,e4,e5,el⟩:=cells6 hm1.own
    have HOF:=hid (cof_ok L.p M'.P i w1 hm1.pt hi)
    clear hk1 hs1 hm1 d0 d1 d2 d3 d4 d5
    rcases hc:(M'.P.c i == 1) with _ | _
    ·have HRES:=hid (show M.traceR A.H={ M' with S:=M'.S.pop } by rw [HTR2.out,if_neg (by simpa using hc)])
     go_wp2_with fail
     refine HOF.out.mono ?_
     rintro e w2 ⟨rfl,hk2⟩
     have HM2:=hid (HM1.out.keeps0 hk2)
     have HK2:=hid (HK1.out.trans hk2.up)
     clear hk2
     go_wp2_with fail
     go_end0
     exact⟨rfl,HK2.out,HRES.out ▸ HM2.out⟩
    ·have hc1:M'.P.c i=1:=by simpa using hc
     have HRES:=hid (show M.traceR A.H=Mk.scanAt { M' with S:=M'.S.pop } A.H i by rw [HTR2.out,if_pos hc1])
     have HC:=hid hc1
     rw [hc1] at HOF
     clear hc hc1
     go_wp2_with fail
     refine HOF.out.mono ?_
     rintro e w2 ⟨rfl,hk2⟩
     have HM2:=hid (HM1.out.keeps0 hk2)
     have HK2:=hid (HK1.out.trans hk2.up)
     have HA2:=hid (HA.out _ HK2.out)
     clear hk2
     go_wp2_with fail
     refine (mscan_any m a i L { M' with P:=M'.P,S:=M'.S.pop } LA A w2 HM2.out HA2.out (by show A.H.T.n=M'.P.n;omega) (by omega) HC.out).mono ?_
     rintro e w4 ⟨rfl,hk4,hm4⟩
     have HK4:=hid hk4;have HM4:=hid hm4
     clear hk4 hm4
     go_wp2_with fail
     go_end0
     exact⟨rfl,HK2.out.trans' HK4.out (fun _ _ h=>h) (fun y _ h=>by rcases h with h | h;exact .inr (.inl h);exact .inr (.inr (.inl h))),HRES.out ▸ HM4.out⟩
end Go.Proofs.YtnlkfbndlngjaaaGreat
