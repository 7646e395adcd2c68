import Derived.Test.YtnlkfbndlngjaaaGreatMgL
set_option maxHeartbeats 1000000
set_option maxRecDepth 100000
namespace Go.Proofs.YtnlkfbndlngjaaaGreat
open Go.RowKit
def Refs (w:World) (v:Value) (l:List Rf):Prop:=
 (v = .slice none 0 0∧l=[])∨∃ g cap cur,v = .slice (some ⟨g,0,none⟩) l.length cap∧w.heap[g]?=some (.cells cur 34)∧∀ (j:Nat) (r:Rf),l[j]?=some r→cur[j * 2]?=some (.int .i64 r.s)∧cur[j * 2+1]?=some (.int .u32 r.g)
theorem Row.refs {w:World} {base:Nat} {v:Value} {l:List Rf} (h:Row w base v l):Refs w v l:=by
 rcases h.cells with h | ⟨g,cap,cur,h1,_,h2,h3⟩
 ·exact .inl h
 ·exact .inr ⟨g,cap,cur,h1,h2,h3⟩
theorem Refs.keeps {w w':World} {v:Value} {l:List Rf} {S:Nat→Prop} (h:Refs w v l) (hk:Keeps S w w') (hS:∀ k,v.ownBlock=some k→¬ S k):Refs w' v l:=by
 rcases h with h | ⟨g,cap,cur,rfl,h2,h3⟩
 ·exact .inl h
 ·exact .inr ⟨g,cap,cur,rfl,block_keep h2 hk (hS g rfl),h3⟩
theorem mcheck_ok (m a:Nat) (L:MkL) (M:Mk) (LA:ArL) (A:Ar) (w:World) (h:MkIn w m L M) (ha:ArIn w a LA A) (hn:A.H.T.n=M.P.n) (hm:A.many=M.K.many):
 Calls Tryz.prog 88 #[.pointer (some ⟨m,0,none⟩),.pointer (some ⟨a,0,none⟩)] w fun e w'=>e = .returned (.int .i64 0)∧Keeps (fun _=>False) w w':=by
 have HV:=hid (mvalid m L M w h)
 have HS:=hid (asizes_ok a LA A w ha)
 rw [hn,hm] at HS
 have h12:=h.pt.n12
 have HM:=hid (fun (w':World) (hk:Keeps (fun _=>False) w w')=>cells6 (h.keeps0 hk).own)
 have hq0:((M.P.n:Int) == 0)=false:=by simp;omega
 clear h ha hn hm
 go_enter Tryz.func88,Tryz.ntmps88
 go_wp2_with fail
 refine HV.out.mono ?_
 rintro e w' ⟨rfl,h'⟩
 obtain rfl:=h'.symm
 go_wp2_with fail
 refine HS.out.mono ?_
 rintro e w1 ⟨rfl,hk⟩
 obtain⟨c0,c1,c2,c3,c4,c5,cl⟩:=HM.out _ hk
 have HK:=hid hk
 clear hk
 go_wp2_with fail
 go_ret
 exact⟨rfl,HK.out⟩
def Mk.shade (M:Mk) (l:List Int):Mk:={ M with P:=(shds (M.P,M.S) l).1,S:=(shds (M.P,M.S) l).2 }
theorem hres_s {H:Hp} {l:List Rf} {x:Int} (h:x∈(hres H l).map (·.s)):0≤x∧x<H.T.n:=by
 rw [List.mem_map] at h
 obtain⟨r,hr,rfl⟩:=h
 rw [hres,List.mem_filter] at hr
 obtain⟨i,h1,h2,_⟩:=ckV_ok (by simpa using hr.2)
 omega
theorem mshade1 (m b t Bh Bm:Nat) (L:MkL) (M:Mk) (H:Hp) (v:Value) (l:List Rf) (w:World) (h:MkIn w m L M) (hh:HpAt w b t H) (hn:H.T.n=M.P.n) (hv:Refs w v l) (hlen:l.length≤256)
 (qh:w.heap[Bh]?=some (.cells #[.pointer (some ⟨b,0,none⟩)] 47)) (qm:w.heap[Bm]?=some (.cells #[.pointer (some ⟨m,0,none⟩)] 26)):
 Calls Tryz.prog 190 #[v,.pointer (some ⟨Bh,0,none⟩),.pointer (some ⟨Bm,0,none⟩)] w
  fun e w'=>e = .returned (.tuple #[])∧Keeps (fun y=>y=L.p∨y=L.s) w w'∧MkIn w' m L (M.shade ((hres H l).map (·.s))):=by
 have hpt:=h.pt;have hst:=h.st
 obtain⟨cp,hcp,_⟩:=id hpt
 obtain⟨cs,hcs,_⟩:=id hst
 have no:∀ {x c' t'},w.heap[x]?=some (.cells c' t')→t'≠176→t'≠181→¬ (x=L.p∨x=L.s):=fun h1 h2 h3 h=>by
  rcases h with h | h
  ·exact type_ne h1 hcp h2 h
  ·exact type_ne h1 hcs h3 h
 have HF:=hid (fun (w':World) (hk:Keeps (fun y=>y=L.p∨y=L.s) w w')=>And.intro (cells1 (block_keep qh hk (no qh (by decide) (by decide)))).1 (And.intro (cells1 (block_keep qm hk (no qm (by decide) (by decide)))).1 (cells6 (block_keep h.own hk (no h.own (by decide) (by decide))))))
 have HHP:=hid (fun (w':World) (hk:Keeps (fun y=>y=L.p∨y=L.s) w w')=>show HpAt w' b t H from by
  obtain⟨⟨c2,hc2,_⟩,⟨c3,hc3,_⟩,_,_⟩:=id hh
  exact hh.keeps hk (no hc2 (by decide) (by decide)) (no hc3 (by decide) (by decide)))
 have hbh:=lt_block qh;have hbm:=lt_block qm;have hml:=lt_block h.own
 have HST:=hid (fun (w':World) (P:Pt) (S:Sq) (hn':P.n=M.P.n) (hk:Keeps (fun y=>y=L.p∨y=L.s) w w') (h1:PtAt w' L.p P) (h2:SqAt w' L.s S)=>h.setPS hn' hk h1 h2)
 have HPT:=hid hpt;have HSQ:=hid hst;have HN:=hid hn
 rcases hv with⟨rfl,rfl⟩ | ⟨g,cap,cur,rfl,hg,hcur⟩
 ·have HH:=hid h
  clear h hh hn qh qm hpt hst hcp hcs no
  go_enter Tryz.func190,Tryz.ntmps190
  go_wp2_with fail
  go_loopw [8] (fun i wr=>i = .int .i64 0∧w=wr) (fun _ _=>0)
  case atStart=>exact⟨rfl,rfl⟩
  case round=>
   obtain⟨rfl,rfl⟩:=hrel
   go_wp2_with fail
   go_end0
   exact⟨rfl,Keeps.refl _ _,HH.out⟩
 ·have HG:=hid (fun (w':World) (hk:Keeps (fun y=>y=L.p∨y=L.s) w w')=>block_keep hg hk (no hg (by decide) (by decide)))
  have HC:=hid hcur
  clear h hh hn qh qm hpt hst hcp hcs no hg hcur
  go_enter Tryz.func190,Tryz.ntmps190
  go_wp2_with fail
  go_loopw [8] (fun i wr=>∃ k:Nat,k≤l.length∧i = .int .i64 k∧PtAt wr L.p (shds (M.P,M.S) ((hres H (l.take k)).map (·.s))).1∧SqAt wr L.s (shds (M.P,M.S) ((hres H (l.take k)).map (·.s))).2∧Keeps (fun y=>y=L.p∨y=L.s) w wr) (fun i _=>l.length - (intOf i).toNat)
  case atStart=>exact⟨0,Nat.zero_le _,rfl,HPT.out,HSQ.out,Keeps.refl _ _⟩
  case round=>
   obtain⟨k,hk,rfl,hp,hs,hkk⟩:=hrel
   by_cases hlt:k<l.length
   ·obtain⟨r,hr⟩:∃ r,l[k]?=some r:=⟨_,List.getElem?_eq_getElem hlt⟩
    have hg:=HG.out _ hkk
    obtain⟨c0,c1⟩:=HC.out k r hr
    have x0:=cell_at hg c0
    have x1:=cell_at hg c1
    obtain⟨y0,_⟩:=HF.out _ hkk
    have hlt':(k:Int)<(l.length:Int):=by omega
    have hk0:(0:Int)≤k:=by omega
    have hgl:=lt_block hg
    have hszr:=hkk.size
    have hbh2:Bh<wr.heap.size:=by omega
    have HH:=hid (hhas_any b t H r.s r.g _ ((HHP.out _ hkk).keeps (S:=fun _=>False) ((Keeps.refl _ _).alloc (.cells #[.int .i64 r.s,.int .u32 r.g] 34)) (fun h=>h) (fun h=>h)))
    have HRR:=hid hr;have HKK:=hid hkk;have HP:=hid hp;have HS:=hid hs
    clear hg c0 c1 hr hkk hp hs
    go_wp2_with fail
    refine HH.out.mono ?_
    rintro e w2 ⟨rfl,hk2⟩
    have ka:Keeps (fun _=>False) wr w2:=((Keeps.refl _ _).alloc _).trans hk2
    have kb:=HKK.out.trans ka.up
    obtain⟨z0,z1,_,_⟩:=cells2 (block_keep (alloc_new (w:=wr)) hk2 (fun h=>h))
    have hp2:=HP.out.keeps ka (fun h=>h)
    have hs2:=HS.out.keeps ka (fun h=>h)
    have HKB:=hid kb;have HP2:=hid hp2;have HS2:=hid hs2
    obtain⟨f0,f1,d0,d1,d2,d3,d4,d5,dl⟩:=HF.out _ kb
    clear ka kb hp2 hs2 hk2
    rcases he:(ckV H.T r.s r.g == 0) with _ | _
    ·have HNO:=hid (hres_no HRR.out he)
     go_wp2_with fail
     exact⟨⟨k+1,by omega,by simp,by rw [HNO.out];exact HP2.out,by rw [HNO.out];exact HS2.out,HKB.out⟩,by simp [intOf];omega⟩
    ·obtain⟨e1,_⟩:=hres_yes HRR.out he
     have HE:=hid e1
     obtain⟨j,hj,hj2,_⟩:=ckV_ok (T:=H.T) (s:=r.s) (g:=r.g) (by simpa using he)
     have HSH:=hid (fun (w':World) (hk':Keeps (fun _=>False) w2 w')=>scshade_ok L.p L.s _ _ j w' (HP2.out.keeps hk' (fun h=>h)) (HS2.out.keeps hk' (fun h=>h)) (by rw [shds_n];dsimp only;have:=HN.out;omega))
     have HJ:=hid hj
     rw [hj] at z0
     clear e1 hj
     go_wp2_with fail
     go_still_tail 10,(by kernel_rfl)
     change wpList _ _ _ _ _ (World.drew _)
     go_wp2_with fail
     refine (HSH.out _ (Keeps.refl _ _).drew).mono ?_
     rintro e w7 ⟨rfl,hk7,hp7,hs7⟩
     have HK7:=hid (HKB.out.drew.trans hk7)
     have HP7:=hid hp7;have HS7:=hid hs7
     clear hk7 hp7 hs7
     go_wp2_with fail
     exact⟨⟨k+1,by omega,by simp,by rw [HE.out,shds_snoc,HJ.out];exact HP7.out,by rw [HE.out,shds_snoc,HJ.out];exact HS7.out,HK7.out⟩,by simp [intOf];omega⟩
   ·have HT:=hid (show l.take k=l by rw [List.take_of_length_le (by omega)])
    have hnl:¬ (k:Int)<(l.length:Int):=by omega
    rw [HT.out] at hp hs
    go_wp2_with fail
    go_end0
    exact⟨rfl,hkk,HST.out _ _ _ (by rw [shds_n]) hkk hp hs⟩
end Go.Proofs.YtnlkfbndlngjaaaGreat
namespace Go.Proofs.YtnlkfbndlngjaaaGreat
open Go.RowKit
theorem mshader (m a:Nat) (LA:ArL) (A:Ar) (w:World) (ha:ArIn w a LA A):
 Calls Tryz.prog 116 #[.pointer (some ⟨m,0,none⟩),.pointer (some ⟨a,0,none⟩)] w fun e w'=>∃ Bh Bm b t,
  e = .returned (.func (.func 190) #[] #[.pointer (some ⟨Bh,0,none⟩),.pointer (some ⟨Bm,0,none⟩)])∧Keeps (fun _=>False) w w'∧
  w'.heap[Bh]?=some (.cells #[.pointer (some ⟨b,0,none⟩)] 47)∧w'.heap[Bm]?=some (.cells #[.pointer (some ⟨m,0,none⟩)] 26)∧HpAt w' b t A.H:=by
 have HH:=hid (fun (w':World) (hk:Keeps (fun _=>False) w w')=>aheap_ok a LA A w' (ha.keeps0 hk))
 clear ha
 go_enter Tryz.func116,Tryz.ntmps116
 go_wp2_with fail
 refine (HH.out _ (by repeat (first | exact Keeps.refl _ _ | apply Keeps.alloc | apply Keeps.drewN | apply Keeps.drew))).mono ?_
 rintro e w1 ⟨b,t,rfl,hk1,h1,h2,hh⟩
 have HK1:=hid (((Keeps.refl (fun _=>False) w).alloc _).trans hk1)
 have HQ:=hid (block_keep (alloc_new (w:=w)) hk1 (fun h=>h))
 have HHP:=hid hh
 clear hk1 hh
 go_wp2_with fail
 go_ret
 exact⟨_,_,b,t,rfl,HK1.out.alloc _,alloc_new,alloc_old HQ.out,HHP.out.keeps (S:=fun _=>False) ((Keeps.refl _ _).alloc _) (fun h=>h) (fun h=>h)⟩
theorem mshake_ok (m a:Nat) (L:MkL) (M:Mk) (LA:ArL) (A:Ar) (w:World) (h:MkIn w m L M) (ha:ArIn w a LA A) (hn:A.H.T.n=M.P.n) (hg:A.gl=fun _=>.no) (hp:M.K.ph=1) (hr:M.K.all=true) (hcy:M.K.cy<4611686018427387904)
 (hsep:∀ {W W'},ArIn W a LA A→Keeps (fun y=>y=L.c) W W'→ArIn W' a LA A):
 Calls Tryz.prog 166 #[.pointer (some ⟨m,0,none⟩),.pointer (some ⟨a,0,none⟩)] w fun e w'=>e = .returned (.tuple #[])∧Keeps (fun y=>y=L.c∨y=L.p∨y=L.s) w w'∧MkIn w' m L { M with K:=M.K.go }:=by
 have hrd:M.K.ready=true:=by simp [Ck.ready,hp,hr]
 have HR:=hid (phReady L.c M.K w h.clk)
 rw [hrd] at HR
 have HGo:=hid (fun (w':World) (hk:Keeps (fun _=>False) w w')=>phGo_ok L.c M.K w' (h.clk.keeps hk (fun h=>h)) (by omega) (fun _=>hr) hcy)
 have HM:=hid (fun (w1 w2:World) (k1:Keeps (fun _=>False) w w1) (k2:Keeps (fun y=>y=L.c) w1 w2) hK=>(h.keeps0 k1).setC (K:=M.K.go) rfl k2 hK)
 have HA:=hid (fun (w1 w2:World) (k1:Keeps (fun _=>False) w w1) (k2:Keeps (fun y=>y=L.c) w1 w2)=>hsep (ha.keeps0 k1) k2)
 have HC:=hid (fun (w':World) (hk:Keeps (fun _=>False) w w')=>cells6 (h.keeps0 hk).own)
 obtain⟨c0,c1,c2,c3,c4,c5,cl⟩:=cells6 h.own
 clear h ha hr hcy hp hrd hsep
 go_enter Tryz.func166,Tryz.ntmps166
 go_wp2_with fail
 refine HR.out.mono ?_
 rintro e w1 ⟨rfl,hk1⟩
 obtain⟨d0,d1,d2,d3,d4,d5,dl⟩:=HC.out _ hk1
 have HK1:=hid hk1
 clear hk1
 go_wp2_with fail
 refine (HGo.out _ HK1.out).mono ?_
 rintro e w2 ⟨rfl,hk2,hK2⟩
 have HM2:=hid (HM.out _ _ HK1.out hk2 hK2)
 have HA2:=hid (HA.out _ _ HK1.out hk2)
 have HK2:=hid (HK1.out.up.trans hk2)
 clear hk2 hK2
 go_wp2_with fail
 refine (mshader m a LA A w2 HA2.out).mono ?_
 rintro e w3 ⟨Bh,Bm,b,t,rfl,hk3,q1,q2,hh3⟩
 have HK3:=hid hk3;have HQ1:=hid q1;have HQ2:=hid q2;have HH3:=hid hh3
 clear hk3 q1 q2 hh3
 have e1:=enters_of Tryz.func190 (by kernel_rfl) rfl
 go_wp2_with fail
 refine (aglobals_none a LA A w3 (HA2.out.keeps0 HK3.out) hg).mono ?_
 rintro e w4 ⟨rfl,hk4⟩
 have HK4:=hid hk4
 clear hk4
 go_wp2_with fail
 refine (mshade1 m b t Bh Bm L { M with K:=M.K.go } A.H _ [] w4 (HM2.out.keeps0 (HK3.out.trans HK4.out)) (HH3.out.keeps HK4.out (fun h=>h) (fun h=>h)) hn (.inl ⟨rfl,rfl⟩) (by simp) (block_keep HQ1.out HK4.out (fun h=>h)) (block_keep HQ2.out HK4.out (fun h=>h))).mono ?_
 rintro e w5 ⟨rfl,hk5,hm5⟩
 go_wp2_with fail
 go_end0
 refine⟨rfl,?_,by simpa [hres,shds,Mk.shade] using hm5⟩
 exact ((HK2.out.mono (T:=fun y=>y=L.c∨y=L.p∨y=L.s) (fun _ _ h=>.inl h)).trans (HK3.out.trans HK4.out).up).trans' hk5 (fun _ _ h=>h) (fun _ _ h=>.inr h)
theorem mroots_ok (m a:Nat) (L:MkL) (M:Mk) (w:World) (h:MkIn w m L M) (hp:M.K.ph=2) (hr:M.K.all=true) (hcy:M.K.cy<4611686018427387904):
 Calls Tryz.prog 167 #[.pointer (some ⟨m,0,none⟩),.pointer (some ⟨a,0,none⟩)] w fun e w'=>e = .returned (.tuple #[])∧Keeps (fun y=>y=L.c) w w'∧MkIn w' m L { M with K:=M.K.go }:=by
 have hrd:M.K.ready=true:=by simp [Ck.ready,hp,hr]
 have HR:=hid (phReady L.c M.K w h.clk)
 rw [hrd] at HR
 have HGo:=hid (fun (w':World) (hk:Keeps (fun _=>False) w w')=>phGo_ok L.c M.K w' (h.clk.keeps hk (fun h=>h)) (by omega) (fun _=>hr) hcy)
 have HM:=hid (fun (w1 w2:World) (k1:Keeps (fun _=>False) w w1) (k2:Keeps (fun y=>y=L.c) w1 w2) hK=>(h.keeps0 k1).setC (K:=M.K.go) rfl k2 hK)
 have HC:=hid (fun (w':World) (hk:Keeps (fun _=>False) w w')=>cells6 (h.keeps0 hk).own)
 obtain⟨c0,c1,c2,c3,c4,c5,cl⟩:=cells6 h.own
 clear h hr hcy hp hrd
 go_enter Tryz.func167,Tryz.ntmps167
 go_wp2_with fail
 refine HR.out.mono ?_
 rintro e w1 ⟨rfl,hk1⟩
 obtain⟨d0,d1,d2,d3,d4,d5,dl⟩:=HC.out _ hk1
 have HK1:=hid hk1
 clear hk1
 go_wp2_with fail
 refine (HGo.out _ HK1.out).mono ?_
 rintro e w2 ⟨rfl,hk2,hK2⟩
 have HM2:=hid (HM.out _ _ HK1.out hk2 hK2)
 have HK2:=hid (HK1.out.up.trans hk2)
 go_wp2_with fail
 go_end0
 exact⟨rfl,HK2.out,HM2.out⟩
theorem msteps (w:World):Calls Tryz.prog 89 #[] w fun e w'=>e = .returned (.agg #[.func (.func 165) #[] #[],.func (.func 166) #[] #[],.func (.func 167) #[] #[],.func (.func 168) #[] #[],.func (.func 165) #[] #[],.func (.func 165) #[] #[]])∧Keeps (fun _=>False) w w':=by
 go_enter Tryz.func89,Tryz.ntmps89
 go_wp2_with fail
 refine bodyPost_ret_by ?_ rfl ⟨rfl,(Keeps.refl _ _).alloc _⟩
 simp [results,Tryz.results89,go_sem, *]
end Go.Proofs.YtnlkfbndlngjaaaGreat
namespace Go.Proofs.YtnlkfbndlngjaaaGreat
open Go.RowKit
def stepsV:Value:=.agg #[.func (.func 165) #[] #[],.func (.func 166) #[] #[],.func (.func 167) #[] #[],.func (.func 168) #[] #[],.func (.func 165) #[] #[],.func (.func 165) #[] #[]]
theorem mstep_of (m a k:Nat) (g:Nat) (L:MkL) (M:Mk) (LA:ArL) (A:Ar) (R:World→Prop) (w:World) (h:MkIn w m L M) (ha:ArIn w a LA A) (hn:A.H.T.n=M.P.n) (hm:A.many=M.K.many) (hp:M.K.ph=k)
 (hidx:∀ w,Sem.run Tryz.prog (Instr.index 156 stepsV (.int .i64 k)) w = .ok (.func (.func g) #[] #[]) w)
 (eg:∀ args w,(callFunc g args).run Tryz.prog w = .ok (.enter g args) w)
 (hg:∀ W,Keeps (fun _=>False) w W→Calls Tryz.prog g #[.pointer (some ⟨m,0,none⟩),.pointer (some ⟨a,0,none⟩)] W fun e w'=>e = .returned (.tuple #[])∧R w'∧w'.cell? ⟨m,2,none⟩=some (.pointer (some ⟨L.c,0,none⟩))):
 Calls Tryz.prog 28 #[.pointer (some ⟨m,0,none⟩),.pointer (some ⟨a,0,none⟩)] w fun e w'=>e = .returned (.int .i64 0)∧R w':=by
 have HCH:=hid (mcheck_ok m a L M LA A w h ha hn hm)
 have HPH:=hid (fun (w':World) (hk:Keeps (fun _=>False) w w')=>phPhase L.c M.K w' (h.clk.keeps hk (fun h=>h)))
 rw [hp] at HPH
 have HS:=hid (fun (w':World) (hk:Keeps (fun _=>False) w w')=>(cells6 (h.keeps0 hk).own).2.2.1)
 have HG:=hid hg
 unfold stepsV at hidx
 clear h ha hn hm hp hg
 go_enter Tryz.func28,Tryz.ntmps28
 go_wp2_with fail
 refine HCH.out.mono ?_
 rintro e w1 ⟨rfl,hk1⟩
 have c2:=HS.out _ hk1
 have HK1:=hid hk1
 clear hk1
 go_upto_region 4 with (fail)
 go_region_held3 (fun W=>W.cell? ⟨m,2,none⟩=some (.pointer (some ⟨L.c,0,none⟩)))
  ((first | assumption | exact HS.out _ (HK1.out.drew.trans hk2)))
  (first
   | (go_at_call 89;refine (msteps _).mono ?_;rintro e w2 ⟨rfl,hk2⟩)
   | (go_at_call 87;refine (HPH.out _ (by first | exact HK1.out.drew | exact HK1.out.drew.trans hk2)).mono ?_;rintro e w3 ⟨rfl,rfl⟩)
   | (go_at_fn g;refine (HG.out _ (HK1.out.drew.trans hk2)).mono ?_;rintro e w4 ⟨rfl,hR,hc4⟩))
 all_goals
  go_wp2_with fail
  go_ret
  exact⟨rfl,hR⟩
end Go.Proofs.YtnlkfbndlngjaaaGreat
namespace Go.Proofs.YtnlkfbndlngjaaaGreat
open Go.RowKit
theorem mshake_wait (m a:Nat) (L:MkL) (M:Mk) (w:World) (h:MkIn w m L M) (hr:M.K.ready=false):
 Calls Tryz.prog 166 #[.pointer (some ⟨m,0,none⟩),.pointer (some ⟨a,0,none⟩)] w fun e w'=>e = .returned (.tuple #[])∧Keeps (fun _=>False) w w':=by
 have HR:=hid (phReady L.c M.K w h.clk)
 rw [hr] at HR
 obtain⟨c0,c1,c2,c3,c4,c5,cl⟩:=cells6 h.own
 clear h hr
 go_enter Tryz.func166,Tryz.ntmps166
 go_wp2_with fail
 refine HR.out.mono ?_
 rintro e w1 ⟨rfl,hk1⟩
 go_wp2_with fail
 go_end0
 exact⟨rfl,hk1⟩
theorem mack_plain (m a i:Nat) (L:MkL) (M:Mk) (LA:ArL) (A:Ar) (w:World) (h:MkIn w m L M) (ha:ArIn w a LA A) (hn:A.H.T.n=M.P.n) (hm:A.many=M.K.many) (hi:i<M.K.many) (hp:M.K.ph=1∨M.K.ph=2∧M.K.seen i=true):
 Calls Tryz.prog 54 #[.pointer (some ⟨m,0,none⟩),.pointer (some ⟨a,0,none⟩),.int .i64 i] w fun e w'=>e = .returned (.tuple #[.bool (!M.K.seen i),.int .i64 0])∧Keeps (fun y=>y=L.c) w w'∧MkIn w' m L { M with K:=M.K.ack i }:=by
 have HCH:=hid (mcheck_ok m a L M LA A w h ha hn hm)
 have HAK:=hid (fun (w':World) (hk:Keeps (fun _=>False) w w')=>phAck_ok L.c M.K i w' (h.clk.keeps hk (fun h=>h)) hi (by rcases hp with h | h;exact .inl h;exact .inr h.1))
 have HM:=hid (fun (w1 w2:World) (k1:Keeps (fun _=>False) w w1) (k2:Keeps (fun y=>y=L.c) w1 w2) hK=>(h.keeps0 k1).setC (K:=M.K.ack i) rfl k2 hK)
 have HC:=hid (fun (w':World) (hk:Keeps (fun _=>False) w w')=>cells6 (h.keeps0 hk).own)
 have HCC:=hid (fun (w':World) (h':MkIn w' m L { M with K:=M.K.ack i })=>And.intro (cells6 h'.own) (phPhase L.c (M.K.ack i) w' h'.clk))
 have hq:(!M.K.seen i && ((M.K.ph:Int) == 2))=false:=by
  rcases hp with h | h
  ·have:((M.K.ph:Int) == 2)=false:=by simp;omega
   simp [this]
  ·simp [h.2]
 have hph:(M.K.ack i).ph=M.K.ph:=rfl
 rw [hph] at HCC
 clear h ha hn hm hi
 rcases hs:M.K.seen i with _ | _
 ·have hph1:M.K.ph=1:=by rcases hp with h | h;exact h;rw [hs] at h;simp at h
  rw [hs] at HAK
  rw [hph1] at HCC
  clear hp hq hs hph1 hph
  go_enter Tryz.func54,Tryz.ntmps54
  go_wp2_with fail
  refine HCH.out.mono ?_
  rintro e w1 ⟨rfl,hk1⟩
  obtain⟨d0,d1,d2,d3,d4,d5,dl⟩:=HC.out _ hk1
  have HK1:=hid hk1
  clear hk1
  go_wp2_with fail
  refine (HAK.out _ HK1.out).mono ?_
  rintro e w2 ⟨rfl,hk2,hK2⟩
  have HM2:=hid (HM.out _ _ HK1.out hk2 hK2)
  have HK2:=hid (HK1.out.up.trans hk2)
  obtain⟨⟨e0,e1,e2,e3,e4,e5,el⟩,HPH⟩:=HCC.out _ HM2.out
  have HPP:=hid HPH
  clear hk2 hK2 HPH
  go_wp2_with fail
  refine HPP.out.mono ?_
  rintro e w' ⟨rfl,h'⟩
  obtain rfl:=h'.symm
  go_wp2_with fail
  go_ret2
  exact⟨rfl,HK2.out,HM2.out⟩
 ·rw [hs] at HAK
  clear hp hq hs hph
  go_enter Tryz.func54,Tryz.ntmps54
  go_wp2_with fail
  refine HCH.out.mono ?_
  rintro e w1 ⟨rfl,hk1⟩
  obtain⟨d0,d1,d2,d3,d4,d5,dl⟩:=HC.out _ hk1
  have HK1:=hid hk1
  clear hk1
  go_wp2_with fail
  refine (HAK.out _ HK1.out).mono ?_
  rintro e w2 ⟨rfl,hk2,hK2⟩
  have HM2:=hid (HM.out _ _ HK1.out hk2 hK2)
  have HK2:=hid (HK1.out.up.trans hk2)
  clear hk2 hK2
  go_wp2_with fail
  go_ret2
  exact⟨rfl,HK2.out,HM2.out⟩
theorem mack_roots (m a i:Nat) (L:MkL) (M:Mk) (LA:ArL) (A:Ar) (w:World) (h:MkIn w m L M) (ha:ArIn w a LA A) (hn:A.H.T.n=M.P.n) (hm:A.many=M.K.many) (hi:i<M.K.many) (hp:M.K.ph=2) (hs:M.K.seen i=false)
 (hsep:∀ {W W'},ArIn W a LA A→Keeps (fun y=>y=L.c) W W'→ArIn W' a LA A):
 Calls Tryz.prog 54 #[.pointer (some ⟨m,0,none⟩),.pointer (some ⟨a,0,none⟩),.int .i64 i] w fun e w'=>e = .returned (.tuple #[.bool true,.int .i64 0])∧Keeps (fun y=>y=L.c∨y=L.p∨y=L.s) w w'∧
  MkIn w' m L (Mk.shade { M with K:=M.K.ack i } ((hres A.H (A.rt i).l).map (·.s))):=by
 have HCH:=hid (mcheck_ok m a L M LA A w h ha hn hm)
 have HAK:=hid (fun (w':World) (hk:Keeps (fun _=>False) w w')=>phAck_ok L.c M.K i w' (h.clk.keeps hk (fun h=>h)) hi (.inr hp))
 rw [hs] at HAK
 have HM:=hid (fun (w1 w2:World) (k1:Keeps (fun _=>False) w w1) (k2:Keeps (fun y=>y=L.c) w1 w2) hK=>(h.keeps0 k1).setC (K:=M.K.ack i) rfl k2 hK)
 have HA:=hid (fun (w1 w2:World) (k1:Keeps (fun _=>False) w w1) (k2:Keeps (fun y=>y=L.c) w1 w2)=>hsep (ha.keeps0 k1) k2)
 have HC:=hid (fun (w':World) (hk:Keeps (fun _=>False) w w')=>cells6 (h.keeps0 hk).own)
 have HCC:=hid (fun (w':World) (h':MkIn w' m L { M with K:=M.K.ack i })=>And.intro (cells6 h'.own) (phPhase L.c (M.K.ack i) w' h'.clk))
 have hph:(M.K.ack i).ph=2:=hp
 rw [hph] at HCC
 have hia:i<A.many:=by omega
 have hlr:(A.rt i).l.length≤256:=by have:=(ha.st i hia).n32;simp [Sk.l];omega
 clear h ha hm hi hp hs hsep hph
 go_enter Tryz.func54,Tryz.ntmps54
 go_wp2_with fail
 refine HCH.out.mono ?_
 rintro e w1 ⟨rfl,hk1⟩
 obtain⟨d0,d1,d2,d3,d4,d5,dl⟩:=HC.out _ hk1
 have HK1:=hid hk1
 clear hk1
 go_wp2_with fail
 refine (HAK.out _ HK1.out).mono ?_
 rintro e w2 ⟨rfl,hk2,hK2⟩
 have HM2:=hid (HM.out _ _ HK1.out hk2 hK2)
 have HA2:=hid (HA.out _ _ HK1.out hk2)
 have HK2:=hid (HK1.out.up.trans hk2)
 obtain⟨⟨e0,e1,e2,e3,e4,e5,el⟩,HPH⟩:=HCC.out _ HM2.out
 have HPP:=hid HPH
 clear hk2 hK2 HPH
 go_wp2_with fail
 refine HPP.out.mono ?_
 rintro e w' ⟨rfl,h'⟩
 obtain rfl:=h'.symm
 go_wp2_with fail
 refine (astackall_ok a LA A i _ HA2.out hia).mono ?_
 rintro e w3 ⟨v,rfl,hr3,hk3⟩
 have HK3:=hid hk3;have HR3:=hid hr3
 clear hk3 hr3
 go_wp2_with fail
 refine (mshader m a LA A w3 (HA2.out.keeps0 HK3.out)).mono ?_
 rintro e w4 ⟨Bh,Bm,b,t,rfl,hk4,q1,q2,hh4⟩
 have HK4:=hid hk4;have HQ1:=hid q1;have HQ2:=hid q2;have HH4:=hid hh4
 clear hk4 q1 q2 hh4
 have en:=enters_of Tryz.func190 (by kernel_rfl) rfl
 go_wp2_with fail
 refine (mshade1 m b t Bh Bm L { M with K:=M.K.ack i } A.H v (A.rt i).l w4 (HM2.out.keeps0 (HK3.out.trans HK4.out)) HH4.out hn (HR3.out.refs.keeps HK4.out (fun _ _ h=>h)) hlr HQ1.out HQ2.out).mono ?_
 rintro e w5 ⟨rfl,hk5,hm5⟩
 have HK5:=hid hk5;have HM5:=hid hm5
 clear hk5 hm5
 go_wp2_with fail
 go_ret2
 exact⟨rfl,((HK2.out.mono (T:=fun y=>y=L.c∨y=L.p∨y=L.s) (fun _ _ h=>.inl h)).trans (HK3.out.trans HK4.out).up).trans' HK5.out (fun _ _ h=>h) (fun _ _ h=>.inr h),HM5.out⟩
theorem mack_range (m a:Nat) (i:Int) (L:MkL) (M:Mk) (LA:ArL) (A:Ar) (w:World) (h:MkIn w m L M) (ha:ArIn w a LA A) (hn:A.H.T.n=M.P.n) (hm:A.many=M.K.many) (hi:i<0∨(M.K.many:Int)≤i):
 Calls Tryz.prog 54 #[.pointer (some ⟨m,0,none⟩),.pointer (some ⟨a,0,none⟩),.int .i64 i] w fun e w'=>e = .returned (.tuple #[.bool false,.int .i64 3])∧Keeps (fun _=>False) w w':=by
 have HCH:=hid (mcheck_ok m a L M LA A w h ha hn hm)
 have HAK:=hid (fun (w':World) (hk:Keeps (fun _=>False) w w')=>phAck_range L.c M.K i w' (h.clk.keeps hk (fun h=>h)) hi)
 have HC:=hid (fun (w':World) (hk:Keeps (fun _=>False) w w')=>cells6 (h.keeps0 hk).own)
 clear h ha hn hm hi
 go_enter Tryz.func54,Tryz.ntmps54
 go_wp2_with fail
 refine HCH.out.mono ?_
 rintro e w1 ⟨rfl,hk1⟩
 obtain⟨d0,d1,d2,d3,d4,d5,dl⟩:=HC.out _ hk1
 have HK1:=hid hk1
 clear hk1
 go_wp2_with fail
 refine (HAK.out _ HK1.out).mono ?_
 rintro e w' ⟨rfl,h'⟩
 obtain rfl:=h'.symm
 go_wp2_with fail
 go_ret2
 exact⟨rfl,HK1.out⟩
end Go.Proofs.YtnlkfbndlngjaaaGreat
