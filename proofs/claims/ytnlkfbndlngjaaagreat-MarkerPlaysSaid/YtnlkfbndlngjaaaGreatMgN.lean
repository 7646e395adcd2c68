import Derived.Test.YtnlkfbndlngjaaaGreatMgM
set_option maxHeartbeats 1000000
set_option maxRecDepth 100000
namespace Go.Proofs.YtnlkfbndlngjaaaGreat
open Go.RowKit
theorem tk_mem {T:Tb} {i:Nat} (hi:i<T.n) (hs:T.st i=1):(⟨i,T.gn i⟩:Rf)∈T.tk:=by
 obtain⟨suf,h⟩:=Tb.inn_split hi hs
 rw [Tb.tk,h]
 simp [rfOf]
theorem tk_of {T:Tb} {r:Rf} (h:r∈T.tk):∃ i:Nat,r.s=i∧i<T.n∧T.st i=1∧T.gn i=r.g:=by
 rw [Tb.tk,List.mem_map] at h
 obtain⟨⟨i,g⟩,h,rfl⟩:=h
 obtain⟨a,b,c⟩:=Tb.inn_mem h
 exact⟨i,rfl,c,a,b⟩
theorem ckV_tk {T:Tb} {i:Nat} (hi:i<T.n) (hs:T.st i=1):ckV T i (T.gn i)=0:=by
 rw [ckV,if_neg (by omega),if_pos ⟨by simpa using hs,by simp⟩]
theorem tk_len (T:Tb):T.tk.length≤T.n:=by rw [Tb.tk,List.length_map];exact Tb.inn_len _ _ _
def Mk.scan (M:Mk) (H:Hp) (i:Nat):Mk:={ M with P:=(shds (M.P,M.S) (chs H (H.ob i))).1.put i 2,S:=(shds (M.P,M.S) (chs H (H.ob i))).2 }
theorem mscan_ok (m a i:Nat) (L:MkL) (M:Mk) (LA:ArL) (A:Ar) (w:World) (h:MkIn w m L M) (ha:ArIn w a LA A) (hn:A.H.T.n=M.P.n) (hi:i<A.H.T.n) (hs:A.H.T.st i=1) (hc:M.P.c i=1):
 Calls Tryz.prog 239 #[.pointer (some ⟨m,0,none⟩),.pointer (some ⟨a,0,none⟩),.int .i64 i] w fun e w'=>e = .returned (.tuple #[])∧Keeps (fun y=>y=L.p∨y=L.s) w w'∧MkIn w' m L (M.scan A.H i):=by
 have HAH:=hid (aheap_ok a LA A w ha)
 have HM:=hid (fun (w':World) (hk:Keeps (fun _=>False) w w')=>h.keeps0 hk)
 have HSET:=hid (fun (w' w2:World) (P:Pt) (S:Sq) (k1:Keeps (fun _=>False) w w') (hn':P.n=M.P.n) (hk:Keeps (fun y=>y=L.p∨y=L.s) w' w2) (h1:PtAt w2 L.p P) (h2:SqAt w2 L.s S)=>(h.keeps0 k1).setPS hn' hk h1 h2)
 clear h ha
 go_enter Tryz.func239,Tryz.ntmps239
 go_wp2_with fail
 refine HAH.out.mono ?_
 rintro e w1 ⟨b,t,rfl,hk1,_,_,hh1⟩
 have HK1:=hid hk1;have HH1:=hid hh1
 clear hk1 hh1
 go_wp2_with fail
 refine (hall_ok b t A.H w1 HH1.out).mono ?_
 rintro e w2 ⟨v,rfl,hr2,hk2⟩
 have HK2:=hid (HK1.out.trans hk2)
 have HH2:=hid (HH1.out.keeps hk2 (fun h=>h) (fun h=>h))
 have hmem:=tk_mem hi hs
 have hlen:=tk_len A.H.T
 have n256:=HH1.out.tab.n12.2
 obtain⟨tk,htk⟩:∃ tk,A.H.T.tk=tk:=⟨_,rfl⟩
 rw [htk] at hr2 hmem hlen
 have HTK:=hid htk
 clear htk
 rcases hr2.refs with⟨rfl,h0⟩ | ⟨g,cap,cur,rfl,hg,hcur⟩
 ·rw [h0] at hmem;simp at hmem
 ·have HG:=hid hg;have HC:=hid hcur;have HMEM:=hid hmem
  clear hr2 hk2 hg hcur hmem
  go_wp2_with fail
  go_loopw [14] (fun ix wr=>∃ k:Nat,k≤tk.length∧ix = .int .i64 k∧(∀ (j:Nat) (r:Rf),j<k→tk[j]?=some r→r.s≠i)∧Keeps (fun _=>False) w2 wr) (fun ix _=>tk.length - (intOf ix).toNat)
  case atStart=>exact⟨0,Nat.zero_le _,rfl,fun _ _ h=>by omega,Keeps.refl _ _⟩
  case round=>
   obtain⟨k,hk,rfl,hno,hkk⟩:=hrel
   have HNO:=hid hno;have HKK:=hid hkk
   by_cases hlt:k<tk.length
   ·obtain⟨r,hr⟩:∃ r,tk[k]?=some r:=⟨_,List.getElem?_eq_getElem hlt⟩
    obtain⟨c0,c1⟩:=HC.out k r hr
    have hg:=block_keep HG.out hkk (fun h=>h)
    have x0:=cell_at hg c0
    have x1:=cell_at hg c1
    have hlt':(k:Int)<(tk.length:Int):=by omega
    have hk0:(0:Int)≤k:=by omega
    have hk256:(k:Int)<256:=by omega
    obtain⟨j,hj,hj1,hj2,hj3⟩:=tk_of (T:=A.H.T) (r:=r) (by rw [HTK.out];exact List.mem_of_getElem? hr)
    have HRR:=hid hr
    clear hno hkk hr c0 c1 hg
    rcases he:(r.s == (i:Int)) with _ | _
    ·have hne:r.s≠i:=by simpa using he
     have HNE:=hid hne
     clear hne hj
     go_wp2_with fail
     refine⟨⟨k+1,by omega,by go_num,?_,HKK.out.alloc _⟩,by simp [intOf];omega⟩
     intro j' r' hj' hr'
     by_cases e:j'=k
     ·subst e
      rw [HRR.out] at hr'
      obtain rfl:r=r':=by simpa using hr'
      exact HNE.out
     ·exact HNO.out j' r' (by omega) hr'
    ·have hij:j=i:=by have:r.s=i:=by simpa using he
                      omega
     subst hij
     have hgr:r=⟨j,A.H.T.gn j⟩:=by
      obtain⟨rs,rg⟩:=r
      simp only at hj hj3
      rw [hj,hj3]
     subst hgr
     have hck:=ckV_tk hj1 hj2
     clear he hj
     dsimp only at x0 x1
     have K2w:=HK2.out.trans HKK.out
     have HS:=hid (fun (w':World) (hk':Keeps (fun _=>False) wr w')=>sscan_ok b t L.p L.s A.H M.P M.S j (A.H.T.gn j) w' ((HH2.out.keeps (HKK.out.trans hk') (fun h=>h) (fun h=>h))) (HM.out _ (K2w.trans hk')).pt (HM.out _ (K2w.trans hk')).st hck hn hc)
     go_upto_region 5 with (fail)
     obtain⟨w3,hw3⟩:∃ w3,wr.alloc (.cells #[.int .i64 j,.int .u32 (A.H.T.gn j)] 34)=w3:=⟨_,rfl⟩
     have k3:Keeps (fun _=>False) wr w3:=by rw [← hw3];exact (Keeps.refl _ _).alloc _
     have q3:w3.heap[wr.heap.size]?=some (.cells #[.int .i64 j,.int .u32 (A.H.T.gn j)] 34):=by rw [← hw3];exact alloc_new
     obtain⟨z0,z1,_,_⟩:=cells2 q3
     obtain⟨d0,d1,d2,d3,d4,d5,dl⟩:=cells6 (HM.out _ (K2w.trans k3)).own
     rw [hw3]
     have HK3:=hid k3
     have HKW:=hid (K2w.trans k3)
     clear hw3 k3 q3 x0 x1 K2w
     go_still_tail 10,(by kernel_rfl)
     change wpList _ _ _ _ _ (World.drew _)
     go_wp2_with fail
     refine (HS.out _ HK3.out.drew).mono ?_
     rintro e w7 ⟨⟨vv,rfl⟩,hk7,hp7,hs7⟩
     have HK7:=hid hk7;have HP7:=hid hp7;have HS7:=hid hs7
     clear hk7 hp7 hs7
     go_wp2_with fail
     refine bodyPost_ret (results_none rfl _ _ _) rfl ?_
     refine⟨rfl,HKW.out.drew.up.trans HK7.out,?_⟩
     exact HSET.out _ _ _ _ HKW.out.drew (by show (shds (M.P,M.S) _).1.n=_;rw [shds_n]) HK7.out HP7.out HS7.out
   ·exfalso
    obtain⟨k',hk'⟩:=List.mem_iff_getElem?.1 HMEM.out
    have hlt':k'<tk.length:=(List.getElem?_eq_some_iff.1 hk').1
    exact hno k' _ (by omega) hk' rfl
end Go.Proofs.YtnlkfbndlngjaaaGreat
namespace Go.Proofs.YtnlkfbndlngjaaaGreat
open Go.RowKit
def MkL.foot (L:MkL) (many y:Nat):Prop:=y=L.c∨y=L.p∨y=L.s∨∃ j,j<many∧y=L.bb j
theorem mtrace_scan (m a i:Nat) (L:MkL) (M:Mk) (LA:ArL) (A:Ar) (w:World) (h:MkIn w m L M) (ha:ArIn w a LA A) (hn:A.H.T.n=M.P.n) (hb0:∀ j,j<M.K.many→(M.B j).n=0)
 (hs0:0<M.S.n) (hsi:M.S.f (M.S.n - 1)=i) (hi:i<A.H.T.n) (hst:A.H.T.st i=1) (hc:M.P.c i=1) (hsep:∀ {W W'},ArIn W a LA A→Keeps (fun y=>L.foot M.K.many y) W W'→ArIn W' a LA A):
 Calls Tryz.prog 168 #[.pointer (some ⟨m,0,none⟩),.pointer (some ⟨a,0,none⟩)] w fun e w'=>e = .returned (.tuple #[])∧Keeps (fun y=>L.foot M.K.many y) w w'∧MkIn w' m L (Mk.scan { M with S:=M.S.pop } A.H i):=by
 have hm4:=h.clk.m4
 obtain⟨c0,c1,c2,c3,c4,c5,cl⟩:=cells6 h.own
 have HM:=hid h
 have HA:=hid (fun (w':World) (hk:Keeps (fun y=>L.foot M.K.many y) w w')=>hsep ha hk)
 clear h ha
 go_enter Tryz.func168,Tryz.ntmps168
 go_wp2_with fail
 go_loopw [19] (fun ix wr=>∃ k:Nat,k≤M.K.many∧ix = .int .i64 k∧MkIn wr m L M∧Keeps (fun y=>L.foot M.K.many y) w wr) (fun ix _=>M.K.many - (intOf ix).toNat)
 case atStart=>exact⟨0,Nat.zero_le _,rfl,HM.out,Keeps.refl _ _⟩
 case round=>
  obtain⟨k,hk,rfl,hmk,hkk⟩:=hrel
  by_cases hlt:k<M.K.many
  ·obtain⟨cur,hr,hcur⟩:=hmk.row
   have x0:=cell_at hr (hcur k hlt)
   have hlt':(k:Int)<(M.K.many:Int):=by omega
   have hk0:(0:Int)≤k:=by omega
   have hk4:(k:Int)<4:=by omega
   have HD:=hid (bdrain_none (L.bb k) (M.B k) wr (hmk.bf k hlt) (hb0 k hlt))
   have HST:=hid (fun (w':World) (hk':Keeps (fun y=>y=L.bb k) wr w') (hB:BfAt w' (L.bb k) (M.B k))=>hmk.setB hlt hk' hB)
   have HKK:=hid hkk
   clear hr hcur hmk hkk c0 c1 c2 c3 c4 c5 cl
   go_wp2_with fail
   refine HD.out.mono ?_
   rintro e w1 ⟨rfl,hk1,hB1⟩
   have hm1:=HST.out _ hk1 hB1
   have hupd:({ M with B:=updf M.B k (M.B k) }:Mk)=M:=by
    have:updf M.B k (M.B k)=M.B:=by funext j;simp only [updf];split;rename_i e;rw [e];rfl
    rw [this]
   rw [hupd] at hm1
   have HM1:=hid hm1
   have HK1:=hid (HKK.out.trans' hk1 (U:=fun y=>L.foot M.K.many y) (fun _ _ h=>h) (fun y _ h=>.inr (.inr (.inr ⟨k,hlt,h⟩))))
   clear hm1 hk1 hB1 hupd
   go_wp2_with fail
   go_loopw [30] (fun ix wr=>ix = .int .i64 0∧w1=wr) (fun _ _=>0)
   case atStart=>exact⟨rfl,rfl⟩
   case round=>
    obtain⟨rfl,rfl⟩:=hrel
    go_wp2_with fail
    exact⟨⟨k+1,by omega,by go_num,HM1.out,HK1.out⟩,by simp [intOf];omega⟩
  ·have hnl:¬ (k:Int)<(M.K.many:Int):=by omega
   obtain⟨d0,d1,d2,d3,d4,d5,dl⟩:=cells6 hmk.own
   have HMK:=hid hmk;have HKK:=hid hkk
   clear c0 c1 c2 c3 c4 c5 cl hmk hkk
   have HPO:=hid (qpop_ok L.s M.S wr HMK.out.st hs0)
   rw [hsi] at HPO
   go_wp2_with fail
   refine HPO.out.mono ?_
   rintro e w1 ⟨rfl,hk1,hs1⟩
   have hne:L.p≠L.s:=by
    obtain⟨_,q1,_⟩:=HMK.out.pt
    obtain⟨_,q2,_⟩:=HMK.out.st
    exact type_ne q1 q2 (by decide)
   have hm1:MkIn w1 m L { M with P:=M.P,S:=M.S.pop }:=HMK.out.setPS rfl (hk1.mono (fun _ _ h=>.inr h)) (HMK.out.pt.keeps hk1 hne) hs1
   have HM1:=hid hm1
   have HK1:=hid (HKK.out.trans' hk1 (U:=fun y=>L.foot M.K.many y) (fun _ _ h=>h) (fun y _ h=>.inr (.inr (.inl h))))
   obtain⟨e0,e1,e2,e3,e4,e5,el⟩:=cells6 hm1.own
   have HOF:=hid (cof_ok L.p M.P i w1 hm1.pt (by omega))
   rw [hc] at HOF
   clear hk1 hs1 hm1 d0 d1 d2 d3 d4 d5
   go_wp2_with fail
   refine HOF.out.mono ?_
   rintro e w2 ⟨rfl,hk2⟩
   have HM2:=hid (HM1.out.keeps0 hk2)
   have HK2:=hid (HK1.out.trans hk2.up)
   have HA2:=hid (HA.out _ HK2.out)
   clear hk2 e0 e1 e2 e3 e4 e5
   go_wp2_with fail
   refine (mscan_ok m a i L { M with P:=M.P,S:=M.S.pop } LA A w2 HM2.out HA2.out hn hi hst hc).mono ?_
   rintro e w3 ⟨rfl,hk3,hm3⟩
   have HK3:=hid hk3;have HM3:=hid hm3
   clear hk3 hm3
   go_wp2_with fail
   go_end0
   exact⟨rfl,HK2.out.trans' HK3.out (fun _ _ h=>h) (fun y _ h=>by rcases h with h | h;exact .inr (.inl h);exact .inr (.inr (.inl h))),HM3.out⟩
theorem mtrace_end (m a:Nat) (L:MkL) (M:Mk) (w:World) (h:MkIn w m L M) (hb0:∀ j,j<M.K.many→(M.B j).n=0)
 (hs0:M.S.n=0) (hgr:M.P.gr M.P.n=[]) (hp3:M.K.ph=3) (hcy:M.K.cy<4611686018427387904):
 Calls Tryz.prog 168 #[.pointer (some ⟨m,0,none⟩),.pointer (some ⟨a,0,none⟩)] w fun e w'=>e = .returned (.tuple #[])∧Keeps (fun y=>L.foot M.K.many y) w w'∧MkIn w' m L { M with K:=M.K.go }:=by
 have hm4:=h.clk.m4
 obtain⟨c0,c1,c2,c3,c4,c5,cl⟩:=cells6 h.own
 have HM:=hid h
 clear h
 go_enter Tryz.func168,Tryz.ntmps168
 go_wp2_with fail
 go_loopw [19] (fun ix wr=>∃ k:Nat,k≤M.K.many∧ix = .int .i64 k∧MkIn wr m L M∧Keeps (fun y=>L.foot M.K.many y) w wr) (fun ix _=>M.K.many - (intOf ix).toNat)
 case atStart=>exact⟨0,Nat.zero_le _,rfl,HM.out,Keeps.refl _ _⟩
 case round=>
  obtain⟨k,hk,rfl,hmk,hkk⟩:=hrel
  by_cases hlt:k<M.K.many
  ·obtain⟨cur,hr,hcur⟩:=hmk.row
   have x0:=cell_at hr (hcur k hlt)
   have hlt':(k:Int)<(M.K.many:Int):=by omega
   have hk0:(0:Int)≤k:=by omega
   have hk4:(k:Int)<4:=by omega
   have HD:=hid (bdrain_none (L.bb k) (M.B k) wr (hmk.bf k hlt) (hb0 k hlt))
   have HST:=hid (fun (w':World) (hk':Keeps (fun y=>y=L.bb k) wr w') (hB:BfAt w' (L.bb k) (M.B k))=>hmk.setB hlt hk' hB)
   have HKK:=hid hkk
   clear hr hcur hmk hkk c0 c1 c2 c3 c4 c5 cl
   go_wp2_with fail
   refine HD.out.mono ?_
   rintro e w1 ⟨rfl,hk1,hB1⟩
   have hm1:=HST.out _ hk1 hB1
   have hupd:({ M with B:=updf M.B k (M.B k) }:Mk)=M:=by
    have:updf M.B k (M.B k)=M.B:=by funext j;simp only [updf];split;rename_i e;rw [e];rfl
    rw [this]
   rw [hupd] at hm1
   have HM1:=hid hm1
   have HK1:=hid (HKK.out.trans' hk1 (U:=fun y=>L.foot M.K.many y) (fun _ _ h=>h) (fun y _ h=>.inr (.inr (.inr ⟨k,hlt,h⟩))))
   clear hm1 hk1 hB1 hupd
   go_wp2_with fail
   go_loopw [30] (fun ix wr=>ix = .int .i64 0∧w1=wr) (fun _ _=>0)
   case atStart=>exact⟨rfl,rfl⟩
   case round=>
    obtain⟨rfl,rfl⟩:=hrel
    go_wp2_with fail
    exact⟨⟨k+1,by omega,by go_num,HM1.out,HK1.out⟩,by simp [intOf];omega⟩
  ·have hnl:¬ (k:Int)<(M.K.many:Int):=by omega
   obtain⟨d0,d1,d2,d3,d4,d5,dl⟩:=cells6 hmk.own
   have HMK:=hid hmk;have HKK:=hid hkk
   clear c0 c1 c2 c3 c4 c5 cl hmk hkk
   have HPO:=hid (qpop_none L.s M.S wr HMK.out.st hs0)
   go_wp2_with fail
   refine HPO.out.mono ?_
   rintro e w1 ⟨rfl,hk1⟩
   have HM1:=hid (HMK.out.keeps0 hk1)
   have HK1:=hid (HKK.out.trans hk1.up)
   obtain⟨e0,e1,e2,e3,e4,e5,el⟩:=cells6 HM1.out.own
   have HGR:=hid (cgrey_ok L.p M.P w1 HM1.out.pt)
   clear hk1 d0 d1 d2 d3 d4 d5
   go_wp2_with fail
   refine HGR.out.mono ?_
   rintro e w2 ⟨hk2,⟨_,rfl⟩ | ⟨i,r,hx,_⟩⟩
   ·have HM2:=hid (HM1.out.keeps0 hk2)
    have HK2:=hid (HK1.out.trans hk2.up)
    obtain⟨f0,f1,f2,f3,f4,f5,fl⟩:=cells6 HM2.out.own
    have HGO:=hid (phGo_ok L.c M.K w2 HM2.out.clk (by omega) (fun h=>by omega) hcy)
    clear hk2 e0 e1 e2 e3 e4 e5
    go_wp2_with fail
    refine HGO.out.mono ?_
    rintro e w3 ⟨rfl,hk3,hK3⟩
    have HK3:=hid hk3
    have HM3:=hid (HM2.out.setC (K:=M.K.go) rfl hk3 hK3)
    clear hk3 hK3
    go_wp2_with fail
    refine bodyPost_ret (results_none rfl _ _ _) rfl ?_
    exact⟨rfl,HK2.out.trans' HK3.out (fun _ _ h=>h) (fun y _ h=>.inl h),HM3.out⟩
   ·rw [hgr] at hx;cases hx
end Go.Proofs.YtnlkfbndlngjaaaGreat
namespace Go.Proofs.YtnlkfbndlngjaaaGreat
open Go.RowKit
theorem setCells_keeps (b:Nat) (vs:List Value) (o:Nat) (w:World):Keeps (fun y=>y=b) w (w.setCells b o vs):=by
 induction vs generalizing o w with
 | nil=>exact Keeps.refl _ _
 | cons v vs ih=>exact (keeps_set1 w b o v).trans (ih (o+1) _)
theorem setCells_block (b:Nat) (vs:List Value) (o:Nat) (w:World) (c:Array Value) (t:TypeId) (h:w.heap[b]?=some (.cells c t)) (hs:o+vs.length≤c.size):
 ∃ c',(w.setCells b o vs).heap[b]?=some (.cells c' t)∧c'.size=c.size∧∀ j,c'[j]?=if o≤j∧j<o+vs.length then vs[j - o]? else c[j]?:=by
 induction vs generalizing o w c with
 | nil=>exact⟨c,h,rfl,fun j=>by rw [if_neg (by simp)]⟩
 | cons v vs ih=>
  simp only [List.length_cons] at hs
  obtain⟨c',h1,h2,h3⟩:=ih (o+1) _ _ (set_block h o v) (by simp;omega)
  refine⟨c',h1,by simpa using h2,fun j=>?_⟩
  rw [h3 j]
  by_cases e:j=o
  ·subst e
   rw [if_neg (by omega),if_pos ⟨Nat.le_refl _,by simp⟩,Array.getElem?_setIfInBounds_self_of_lt (by omega)]
   simp
  ·by_cases hr:o+1≤j∧j<o+1+vs.length
   ·rw [if_pos hr,if_pos (by simp;omega),show j - o=(j - (o+1))+1 by omega,List.getElem?_cons_succ]
   ·rw [if_neg hr,if_neg (by simp;omega),Array.getElem?_setIfInBounds_ne (by omega)]
def Pt.clear (P:Pt):Pt:={ P with c:=fun _=>0 }
theorem cclear_ok (b:Nat) (P:Pt) (w:World) (h:PtAt w b P):
 Calls Tryz.prog 118 #[.pointer (some ⟨b,0,none⟩)] w fun e w'=>e = .returned (.tuple #[])∧Keeps (fun y=>y=b) w w'∧PtAt w' b P.clear:=by
 have HV:=hid (cmade b P w h)
 obtain⟨c,hc,hC⟩:=h
 have hs:=hC.size
 obtain⟨W2,hW2,hk2,c',h1,h2,h3⟩:∃ W2,(∀ ty,Sem.run Tryz.prog (Builtin.clear_ #[253] ty #[.slice (some ⟨b,1,none⟩) 256 256]) w = .ok (.tuple #[]) W2)∧Keeps (fun y=>y=b) w W2∧∃ c',W2.heap[b]?=some (.cells c' 176)∧c'.size=c.size∧∀ j,c'[j]?=if 1≤j∧j<1+256 then (List.replicate 256 (Value.int .u8 0))[j - 1]? else c[j]?:=by
  refine⟨w.setCells b 1 (List.replicate 256 (.int .u8 0)),fun ty=>?_,setCells_keeps _ _ _ _,?_⟩
  ·exact Lib.run_clear_slice w 253 5 ty (.int .u8 0) Tryz.underlying253 (fun w=>by kernel_rfl) rfl rfl b 1 256 256 (by decide) (fun j hj=>by rw [cell_at hc (hC.col j hj)];rfl) (fun j _=>frozen_block hc _)
  ·have:=setCells_block b (List.replicate 256 (.int .u8 0)) 1 w c _ hc (by rw [List.length_replicate];omega)
   rwa [List.length_replicate] at this
 have HC:=hid hC
 have hl:=lt_block hc
 clear hc hC
 go_enter Tryz.func118,Tryz.ntmps118
 go_wp2_with fail
 refine HV.out.mono ?_
 rintro e w' ⟨rfl,h'⟩
 obtain rfl:=h'.symm
 go_wp2_with fail
 go_end0
 refine⟨rfl,hk2,c',h1,⟨by rw [h2];exact HC.out.size,?_,?_,HC.out.n1,HC.out.n2,fun i=>by simp [Pt.clear],fun i=>by simp [Pt.clear]⟩⟩
 ·rw [h3,if_neg (by omega)];exact HC.out.len
 ·intro i hi
  rw [h3,if_pos ⟨by omega,by omega⟩,show 1+i - 1=i by omega,List.getElem?_replicate,if_pos hi];rfl
theorem mgo_idle (m:Nat) (L:MkL) (M:Mk) (w:World) (h:MkIn w m L M) (hp:M.K.ph<4):
 Calls Tryz.prog 56 #[.pointer (some ⟨m,0,none⟩)] w fun e w'=>e = .returned (.int .i64 8)∧w'=w:=by
 have HV:=hid (mvalid m L M w h)
 have HE:=hid (mended m L M w h)
 rw [show decide (4≤M.K.ph)=false by simp;omega] at HE
 clear h hp
 go_enter Tryz.func56,Tryz.ntmps56
 go_wp2_with (first | (go_at_call 43;refine HV.out.mono ?_;rintro e w' ⟨rfl,h'⟩;obtain rfl:=h'.symm) | (go_at_call 55;refine HE.out.mono ?_;rintro e w' ⟨rfl,h'⟩;obtain rfl:=h'.symm))
 go_ret
 exact⟨rfl,rfl⟩
theorem mgo_mid (m:Nat) (L:MkL) (M:Mk) (w:World) (h:MkIn w m L M) (hp:M.K.ph=4) (hcy:M.K.cy<4611686018427387904):
 Calls Tryz.prog 56 #[.pointer (some ⟨m,0,none⟩)] w fun e w'=>e = .returned (.int .i64 0)∧Keeps (fun y=>y=L.c) w w'∧MkIn w' m L { M with K:=M.K.go }:=by
 have HV:=hid (mvalid m L M w h)
 have HE:=hid (mended m L M w h)
 rw [show decide (4≤M.K.ph)=true by simp;omega] at HE
 have HG:=hid (phGo_ok L.c M.K w h.clk (by omega) (fun h=>by omega) hcy)
 have HM:=hid (fun (w':World) (hk:Keeps (fun y=>y=L.c) w w') hK=>h.setC (K:=M.K.go) rfl hk hK)
 have HPH:=hid (fun (w':World) (h':CkAt w' L.c M.K.go)=>phPhase L.c M.K.go w' h')
 rw [show M.K.go.ph=5 by simp [Ck.go,hp]] at HPH
 obtain⟨c0,c1,c2,c3,c4,c5,cl⟩:=cells6 h.own
 clear h hp hcy
 go_enter Tryz.func56,Tryz.ntmps56
 go_wp2_with (first | (go_at_call 43;refine HV.out.mono ?_;rintro e w' ⟨rfl,h'⟩;obtain rfl:=h'.symm) | (go_at_call 55;refine HE.out.mono ?_;rintro e w' ⟨rfl,h'⟩;obtain rfl:=h'.symm) | fail)
 refine HG.out.mono ?_
 rintro e w1 ⟨rfl,hk1,hK1⟩
 have HM1:=hid (HM.out _ hk1 hK1)
 have HP1:=hid (HPH.out _ hK1)
 have HK1:=hid hk1
 obtain⟨d0,d1,d2,d3,d4,d5,dl⟩:=cells6 HM1.out.own
 clear hk1 hK1 c0 c1 c2 c3 c4 c5
 go_wp2_with fail
 refine HP1.out.mono ?_
 rintro e w' ⟨rfl,h'⟩
 obtain rfl:=h'.symm
 go_wp2_with fail
 go_ret
 exact⟨rfl,HK1.out,HM1.out⟩
end Go.Proofs.YtnlkfbndlngjaaaGreat
namespace Go.Proofs.YtnlkfbndlngjaaaGreat
open Go.RowKit
def setl (B:Nat→Bf) (k:Nat):Nat→Bf:=fun j=>if j<k then (B j).settle else B j
theorem setl_step (B:Nat→Bf) (k:Nat):updf (setl B k) k ((setl B k k).settle)=setl B (k+1):=by
 funext j
 simp only [updf,setl]
 by_cases e:j=k
 ·subst e;rw [if_pos rfl,if_neg (Nat.lt_irrefl _),if_pos (Nat.lt_succ_self _)]
 ·rw [if_neg e]
  by_cases h:j<k
  ·rw [if_pos h,if_pos (by omega)]
  ·rw [if_neg h,if_neg (by omega)]
def Mk.ended (M:Mk):Mk:=⟨M.K.go,M.P.clear,M.S.clear,setl M.B M.K.many⟩
theorem mgo_end (m:Nat) (L:MkL) (M:Mk) (w:World) (h:MkIn w m L M) (hp:M.K.ph=5) (hcy:M.K.cy<4611686018427387904) (hb0:∀ j,j<M.K.many→(M.B j).n=0):
 Calls Tryz.prog 56 #[.pointer (some ⟨m,0,none⟩)] w fun e w'=>e = .returned (.int .i64 0)∧Keeps (fun y=>L.foot M.K.many y) w w'∧MkIn w' m L M.ended:=by
 have HV:=hid (mvalid m L M w h)
 have HE:=hid (mended m L M w h)
 rw [show decide (4≤M.K.ph)=true by simp;omega] at HE
 have HG:=hid (phGo_ok L.c M.K w h.clk (by omega) (fun h=>by omega) hcy)
 have HM:=hid (fun (w':World) (hk:Keeps (fun y=>y=L.c) w w') hK=>h.setC (K:=M.K.go) rfl hk hK)
 have HPH:=hid (fun (w':World) (h':CkAt w' L.c M.K.go)=>phPhase L.c M.K.go w' h')
 rw [show M.K.go.ph=0 by simp [Ck.go,hp]] at HPH
 have hm4:=h.clk.m4
 obtain⟨c0,c1,c2,c3,c4,c5,cl⟩:=cells6 h.own
 clear h hp hcy
 go_enter Tryz.func56,Tryz.ntmps56
 go_wp2_with (first | (go_at_call 43;refine HV.out.mono ?_;rintro e w' ⟨rfl,h'⟩;obtain rfl:=h'.symm) | (go_at_call 55;refine HE.out.mono ?_;rintro e w' ⟨rfl,h'⟩;obtain rfl:=h'.symm) | fail)
 refine HG.out.mono ?_
 rintro e w1 ⟨rfl,hk1,hK1⟩
 have HM1:=hid (HM.out _ hk1 hK1)
 have HP1:=hid (HPH.out _ hK1)
 have HK1:=hid (hk1.mono (T:=fun y=>L.foot M.K.many y) (fun y _ h=>.inl h))
 obtain⟨d0,d1,d2,d3,d4,d5,dl⟩:=cells6 HM1.out.own
 clear hk1 hK1 c0 c1 c2 c3 c4 c5
 go_wp2_with fail
 refine HP1.out.mono ?_
 rintro e w' ⟨rfl,h'⟩
 obtain rfl:=h'.symm
 go_wp2_with fail
 refine (cclear_ok L.p M.P _ HM1.out.pt).mono ?_
 rintro e w2 ⟨rfl,hk2,hp2⟩
 have hne:L.s≠L.p:=by
  obtain⟨_,q1,_⟩:=HM1.out.pt
  obtain⟨_,q2,_⟩:=HM1.out.st
  exact type_ne q2 q1 (by decide)
 have HM2:=hid (show MkIn w2 m L ⟨M.K.go,M.P.clear,M.S,M.B⟩ from HM1.out.setPS (P:=M.P.clear) (S:=M.S) rfl (hk2.mono (fun _ _ h=>.inl h)) hp2 (HM1.out.st.keeps hk2 hne))
 have HK2:=hid (HK1.out.trans' hk2 (U:=fun y=>L.foot M.K.many y) (fun _ _ h=>h) (fun y _ h=>.inr (.inl h)))
 obtain⟨e0,e1,e2,e3,e4,e5,el⟩:=cells6 HM2.out.own
 clear hk2 hp2 d0 d1 d2 d3 d4 d5
 go_wp2_with fail
 refine (qclear_ok L.s M.S w2 HM2.out.st).mono ?_
 rintro e w3 ⟨rfl,hk3,hs3⟩
 have HM3:=hid (show MkIn w3 m L ⟨M.K.go,M.P.clear,M.S.clear,M.B⟩ from HM2.out.setPS (P:=M.P.clear) (S:=M.S.clear) rfl (hk3.mono (fun _ _ h=>.inr h)) (HM2.out.pt.keeps hk3 hne.symm) hs3)
 have HK3:=hid (HK2.out.trans' hk3 (U:=fun y=>L.foot M.K.many y) (fun _ _ h=>h) (fun y _ h=>.inr (.inr (.inl h))))
 obtain⟨f0,f1,f2,f3,f4,f5,fl⟩:=cells6 HM3.out.own
 clear hk3 hs3 e0 e1 e2 e3 e4 e5
 go_wp2_with fail
 go_loopw [45] (fun ix wr=>∃ k:Nat,k≤M.K.many∧ix = .int .i64 k∧MkIn wr m L ⟨M.K.go,M.P.clear,M.S.clear,setl M.B k⟩∧Keeps (fun y=>L.foot M.K.many y) w wr) (fun ix _=>M.K.many - (intOf ix).toNat)
 case atStart=>exact⟨0,Nat.zero_le _,rfl,(show setl M.B 0=M.B by funext j;simp [setl]) ▸ HM3.out,HK3.out⟩
 case round=>
  obtain⟨k,hk,rfl,hmk,hkk⟩:=hrel
  clear f0 f1 f2 f3 f4 f5 fl
  by_cases hlt:k<M.K.many
  ·obtain⟨cur,hr,hcur⟩:=hmk.row
   have x0:=cell_at hr (hcur k hlt)
   have hlt':(k:Int)<(M.K.many:Int):=by omega
   have hk0:(0:Int)≤k:=by omega
   have hk4:(k:Int)<4:=by omega
   have hbk:setl M.B k k=M.B k:=if_neg (Nat.lt_irrefl _)
   have hbf:=hmk.bf k hlt
   have hbn:(setl M.B k k).n=0:=by rw [hbk];exact hb0 k hlt
   have HD:=hid (bdrain_none (L.bb k) (setl M.B k k) wr hbf hbn)
   have HST:=hid (fun (w':World) (hk':Keeps (fun y=>y=L.bb k) wr w') (hB:BfAt w' (L.bb k) (setl M.B k k).settle)=>hmk.setB hlt hk' hB)
   have HKK:=hid hkk
   clear hr hcur hmk hkk hbk hbf hbn
   go_wp2_with fail
   refine HD.out.mono ?_
   rintro e w4 ⟨rfl,hk4',hB4⟩
   have HSE:=hid (bsettle_ok (L.bb k) _ w4 hB4)
   have HK4:=hid hk4'
   clear hk4' hB4
   go_wp2_with fail
   refine HSE.out.mono ?_
   rintro e w5 ⟨rfl,hk5,hB5⟩
   have hkk5:=HK4.out.trans hk5
   have HM5:=hid (HST.out _ hkk5 hB5)
   have HK5:=hid (HKK.out.trans' hkk5 (U:=fun y=>L.foot M.K.many y) (fun _ _ h=>h) (fun y _ h=>.inr (.inr (.inr ⟨k,hlt,h⟩))))
   clear hkk5 hk5 hB5
   go_wp2_with fail
   refine⟨⟨k+1,by omega,by go_num,?_,HK5.out⟩,by simp [intOf];omega⟩
   have:=HM5.out
   simp only [setl_step] at this
   exact this
  ·have hkm:k=M.K.many:=by omega
   subst hkm
   have hnl:¬ (M.K.many:Int)<(M.K.many:Int):=by omega
   have HMK:=hid hmk;have HKK:=hid hkk
   clear hmk hkk
   go_wp2_with fail
   go_ret
   exact⟨rfl,HKK.out,HMK.out⟩
end Go.Proofs.YtnlkfbndlngjaaaGreat
