import Derived.Test.YtlicmmofekkmoaaGreatSpB
set_option maxHeartbeats 4000000
set_option maxRecDepth 100000
namespace Go.Proofs.YtlicmmofekkmoaaGreat
open Go.RowKit
set_option linter.unusedVariables false
set_option linter.unusedSimpArgs false
def DwAt (w:World) (b:Nat) (S:Sw):Prop:=w.heap[b]?=some (.cells #[.int .i64 S.size,.int .i64 S.next,.int .i64 S.n] 80)
section
variable {w0 w w':World} {a m x y qq b:Nat} {LA:ArL} {LM:MkL} {A:Ar} {M:Mk} {s:Sys} {S:Sw}
theorem dsw_begin (h:DwAt w b S):Calls Tryz.prog 10 #[.pointer (some ⟨b,0,none⟩)] w fun e w'=>e = .returned (.int .i64 0)∧Keeps (fun z=>z=b) w w'∧DwAt w' b ⟨S.size,0,0⟩:=by
 obtain⟨c0,c1,c2,cl⟩:=cells3 h
 have f0:=frozen_block h
 have f1:=f0 1;have f2:=f0 2
 have H:=hid h
 clear h f0
 go_enter Tryz.func10,Tryz.ntmps10
 go_wp2_with fail
 go_ret
 refine⟨rfl,(keeps_set1 _ _ _ _).trans (keeps_set1 _ _ _ _),?_⟩
 exact (set_block (set_block H.out 1 _) 2 _).trans rfl
theorem dsw_at (h:DwAt w b S):Calls Tryz.prog 14 #[.pointer (some ⟨b,0,none⟩)] w fun e w'=>e = .returned (.int .i64 S.next)∧w'=w:=by
 obtain⟨c0,c1,c2,cl⟩:=cells3 h
 clear h
 go_enter Tryz.func14,Tryz.ntmps14
 go_wp2_with fail
 go_ret
 exact⟨rfl,rfl⟩
theorem dsw_freed (h:DwAt w b S):Calls Tryz.prog 18 #[.pointer (some ⟨b,0,none⟩)] w fun e w'=>e = .returned (.int .i64 S.n)∧w'=w:=by
 obtain⟨c0,c1,c2,cl⟩:=cells3 h
 clear h
 go_enter Tryz.func18,Tryz.ntmps18
 go_wp2_with fail
 go_ret
 exact⟨rfl,rfl⟩
theorem dsw_done (h:DwAt w b S):Calls Tryz.prog 16 #[.pointer (some ⟨b,0,none⟩)] w fun e w'=>e = .returned (.bool ((S.next:Int) == S.size))∧Keeps (fun _=>False) w w':=by
 obtain⟨c0,c1,c2,cl⟩:=cells3 h
 clear h
 go_enter Tryz.func16,Tryz.ntmps16
 go_wp2_with fail
 go_quiet (fail)
 go_wp2_with fail
 go_ret
 exact⟨rfl,(by repeat (first | exact Keeps.refl _ _ | apply Keeps.alloc | apply Keeps.drewN | apply Keeps.drew))⟩
theorem FD.sizes (h:FD w0 w a m LA LM x y A M s qq):Calls Tryz.prog 46 #[.pointer (some ⟨x,0,none⟩)] w fun e w'=>e = .returned (.tuple #[.int .i64 s.A.H.T.n,.int .i64 s.A.many])∧Keeps (fun _=>False) w w':=by
 obtain⟨LR,_,h2,_⟩:=Fo.doc h
 exact sizes18 h2
theorem FD.heap (h:FD w0 w a m LA LM x y A M s qq):Calls Tryz.prog 22 #[.pointer (some ⟨x,0,none⟩)] w fun e w'=>∃ b' r',e = .returned (.pointer (some ⟨b',0,none⟩))∧Keeps (fun _=>False) w w'∧w.heap.size≤b'∧w.heap.size≤r'∧R14 w' b' r' s.A.H:=by
 obtain⟨LR,_,h2,_⟩:=Fo.doc h
 exact heap18 h2
theorem FD.mk (h:FD w0 w a m LA LM x y A M s qq) (i:Nat) (hi:i<s.M.P.n):Calls Tryz.prog 47 #[.pointer (some ⟨y,0,none⟩),.int .i64 i] w fun e w'=>e = .returned (.tuple #[.bool (s.M.P.c i != 0),.int .i64 0])∧w'=w:=by
 obtain⟨L,h1,_⟩:=Fo.d h
 exact marked24_ok i h1 hi
theorem FD.mk_out (h:FD w0 w a m LA LM x y A M s qq) (i:Int) (hi:i<0∨(s.M.P.n:Int)≤i):Calls Tryz.prog 47 #[.pointer (some ⟨y,0,none⟩),.int .i64 i] w fun e w'=>e = .returned (.tuple #[.bool false,.int .i64 3])∧w'=w:=by
 obtain⟨L,h1,_⟩:=Fo.d h
 exact marked24_range i h1 hi
theorem Fo.weak {F:Nat→Prop} {B:Ar} {M2:Mk} (h:Fo F w0 w a m LA LM x y A M B M2 qq):Fo (fun _=>False) w0 w a m LA LM x y A M B M2 qq:=by
 obtain⟨LR,h1,h2,_⟩:=h.doc
 exact⟨h.du,h.lx,⟨LR,h1,h2,fun _ _ _ _ h=>h⟩,h.d⟩
theorem Fo.own {F:Nat→Prop} {B:Ar} {M2:Mk} (h:Fo F w0 w a m LA LM x y A M B M2 qq) (hs:DwAt w b S) (hb:w0.heap.size≤b) (hk:Keeps (fun z=>z=b) w w'):Fo F w0 w' a m LA LM x y A M B M2 qq:=by
 obtain⟨LR,h1,h2,h4⟩:=h.doc
 have ty:∀ z c t,w.heap[z]?=some (.cells c t)→z=b→t=80:=fun z c t hz e=>by
  subst e
  have hq:=hs
  unfold DwAt at hq
  rw [hz] at hq
  simp at hq
  exact hq.2
 exact⟨h.du.other hk (fun z e=>by have e':z=b:=e;omega) (fun z c t hz e=>by rw [ty z c t hz e];decide),h.lx,⟨LR,h1,h2.keeps hk (fun z c t hz ht e=>by rw [ty z c t hz e] at ht;revert ht;decide),h4⟩,h.d.other hk (fun z c t hz e=>by rw [ty z c t hz e];decide)⟩
theorem DwAt.ft {N:Nat} (h:DwAt w b S) (hk:Keeps (Ft w N) w w'):DwAt w' b S:=Ft.block hk h (by decide)
theorem Refs.ft {N:Nat} {v:Value} {l:List Rf} (h:Refs w v l) (hk:Keeps (Ft w N) w w'):Refs w' v l:=by
 rcases h with h | ⟨g,cap,cur,e,h2,h3⟩
 ·exact .inl h
 ·exact .inr ⟨g,cap,cur,e,Ft.block hk h2 (by decide),h3⟩
theorem Refs.dw {v:Value} {l:List Rf} (h:Refs w v l) (hs:DwAt w b S) (hk:Keeps (fun z=>z=b) w w'):Refs w' v l:=by
 rcases h with h | ⟨g,cap,cur,e,h2,h3⟩
 ·exact .inl h
 ·refine .inr ⟨g,cap,cur,e,block_keep h2 hk (fun e=>?_),h3⟩
  have hq:=hs
  unfold DwAt at hq
  rw [← e,h2] at hq
  simp at hq
theorem ft_or {N:Nat} {w1 w2:World} (h1:Keeps (fun z=>z=b∨Ft w N z) w w1) (h2:Keeps (Ft w1 N) w1 w2):Keeps (fun z=>z=b∨Ft w N z) w w2:=
 h1.trans' h2 (fun _ _ h=>h) (fun z hz h=>by
  by_cases e:z=b∨Ft w N z
  ·exact e
  ·obtain⟨h0,c,t,hc,ht⟩:=h
   exact .inr ⟨h0,c,t,by rw [← h1.block z hz e];exact hc,ht⟩)
theorem dsw_end (h:FD w0 w a m LA LM x y A M s qq) (hs:DwAt w b S) (hsz:s.M.P.n=S.size) (h1:1≤S.size) (h2:S.size≤256) (hok:s.Ok) (hph:s.M.K.ph=5) (he:S.next=S.size):
 Calls Tryz.prog 12 #[.pointer (some ⟨b,0,none⟩),.pointer (some ⟨x,0,none⟩),.pointer (some ⟨y,0,none⟩)] w fun e w'=>e = .returned (.tuple #[.agg #[.int .i64 0,.int .u32 0],.bool false,.int .i64 8])∧Keeps (fun _=>False) w w':=by
 have H0:=hid (fun W (hk:Keeps (fun _=>False) w W)=>Fo.quiet (Fo.setF (F':=fun z=>z=w.heap.size) h (fun z e=>Nat.le_of_eq (Eq.symm e))) hk)
 have HS:=hid hs
 have HOK:=hid hok
 obtain⟨n,hn⟩:∃ n,S.size=n:=⟨_,rfl⟩
 have HAN:=hid (show s.A.H.T.n=n from by rw [hok.n,hsz,hn])
 have HMN:=hid (show s.M.P.n=n from by rw [hsz,hn])
 have hn1:1≤n:=by omega
 have hpr:IntKind.i64.wrap ((n:Int) - 1)=((n - 1:Nat):Int):=by rw [IntWalk.i64_in _ (by omega)];omega
 have HSZ:=hid (fun W (hk:Keeps (fun _=>False) w W)=>(h.quiet hk).sizes)
 rw [HAN.out] at HSZ
 have HM1:=hid (fun W (hk:Keeps (fun _=>False) w W)=>(h.quiet hk).mk (n - 1) (by rw [HMN.out];omega))
 have HM2:=hid (fun W (hk:Keeps (fun _=>False) w W)=>(h.quiet hk).mk_out (n:Int) (.inr (by rw [HMN.out];exact Int.le_refl _)))
 have HPH:=hid (fun W (hk:Keeps (fun _=>False) w W)=>show Calls Tryz.prog 35 #[.pointer (some ⟨y,0,none⟩)] W fun e w'=>e = .returned (.int .i64 5)∧w'=W from by have:=(h.quiet hk).ph;rw [hph] at this;exact this)
 have HQ:=hid (fun W (hk:Keeps (fun _=>False) w W)=>show DwAt W b S from block_keep HS.out hk (fun h=>h))
 have HC:=hid (fun W (hk:Keeps (fun _=>False) w W)=>cells3 (HQ.out W hk))
 rw [hn] at HC
 clear h hs hok hsz hph
 go_enter Tryz.func12,Tryz.ntmps12
 go_wp2_with fail
 refine (HSZ.out _ ((Keeps.refl _ _).alloc _)).mono ?_
 rintro e w1 ⟨rfl,k1⟩
 have K1:=hid (((Keeps.refl (fun _=>False) w).alloc _).trans k1)
 have HR1:=hid (block_keep (alloc_new (w:=w)) k1 (fun h=>h))
 obtain⟨c0,c1,c2,cl⟩:=HC.out _ K1.out
 clear k1
 go_wp2_with fail
 refine ((HM1.out _ K1.out)).mono ?_
 rintro e w' ⟨rfl,h'⟩
 obtain rfl:=h'.symm
 go_wp2_with fail
 refine ((HM2.out _ K1.out)).mono ?_
 rintro e w' ⟨rfl,h'⟩
 obtain rfl:=h'.symm
 have HDN:=hid (dsw_done (HQ.out _ K1.out))
 rw [hn] at HDN
 go_wp2_with fail
 refine HDN.out.mono ?_
 rintro e wd ⟨rfl,kd⟩
 have KD:=hid (K1.out.trans kd);have HRD:=hid (block_keep HR1.out kd (fun h=>h))
 clear K1 HR1 kd c0 c1 c2 cl HDN
 obtain⟨c0,c1,c2,cl⟩:=HC.out _ KD.out
 have hd1:((S.next:Int) == (n:Int))=true:=by simp;omega
 obtain⟨x0,x1,xf,xl⟩:=cells2 HRD.out
 have x0f:=xf 0;have x1f:=xf 1
 clear xf
 go_wp2_with fail
 refine bodyPost_ret_by (v:=.tuple #[.agg #[.int .i64 0,.int .u32 0],.bool false,.int .i64 8]) (by simp [results,Tryz.results12,go_sem, *]) rfl ⟨rfl,?_⟩
 repeat (first | (with_reducible exact KD.out) | with_reducible refine Keeps.setCell ?_ ?_ _ | with_reducible refine Keeps.alloc ?_ _ | with_reducible refine Keeps.drewN ?_ _ | with_reducible refine Keeps.drew ?_)
 all_goals first | (left;simp;done) | (left;simp;omega) | (right;simp;done) | (right;simp;omega)
theorem dsw_step (h:FD w0 w a m LA LM x y A M s qq) (hs:DwAt w b S) (hb:w0.heap.size≤b) (hsz:s.M.P.n=S.size) (h1:1≤S.size) (h2:S.size≤256) (hok:s.Ok) (hph:s.M.K.ph=5) (he:S.next<S.size) (hcn:S.n≤S.next):
 Calls Tryz.prog 12 #[.pointer (some ⟨b,0,none⟩),.pointer (some ⟨x,0,none⟩),.pointer (some ⟨y,0,none⟩)] w fun e w'=>e = .returned (.tuple #[(S.stepR s).r.val,.bool (S.stepR s).is,.int .i64 0])∧FD w0 w' a m LA LM x y A M (S.stepR s).s qq∧DwAt w' b (S.stepR s).S∧Keeps (fun z=>z=b∨Ft w w0.heap.size z) w w':=by
 have HB:=hid hb
 have hd0:=(Fo.du h).kp
 have hlb:=lt_block hs
 have HMK0:=hid (fun W (hd:FD w0 W a m LA LM x y A M s qq)=>hd.mk S.next (by omega))
 have H0:=hid (fun W (hk:Keeps (fun _=>False) w W)=>Fo.quiet (Fo.setF (F':=fun z=>z=w.heap.size) h (fun z e=>Nat.le_of_eq (Eq.symm e))) hk)
 have HS:=hid hs
 have HOK:=hid hok
 obtain⟨n,hn⟩:∃ n,S.size=n:=⟨_,rfl⟩
 have HAN:=hid (show s.A.H.T.n=n from by rw [hok.n,hsz,hn])
 have HMN:=hid (show s.M.P.n=n from by rw [hsz,hn])
 have hn1:1≤n:=by omega
 have hpr:IntKind.i64.wrap ((n:Int) - 1)=((n - 1:Nat):Int):=by rw [IntWalk.i64_in _ (by omega)];omega
 have HSZ:=hid (fun W (hk:Keeps (fun _=>False) w W)=>(h.quiet hk).sizes)
 rw [HAN.out] at HSZ
 have HM1:=hid (fun W (hk:Keeps (fun _=>False) w W)=>(h.quiet hk).mk (n - 1) (by rw [HMN.out];omega))
 have HM2:=hid (fun W (hk:Keeps (fun _=>False) w W)=>(h.quiet hk).mk_out (n:Int) (.inr (by rw [HMN.out];exact Int.le_refl _)))
 have HPH:=hid (fun W (hk:Keeps (fun _=>False) w W)=>show Calls Tryz.prog 35 #[.pointer (some ⟨y,0,none⟩)] W fun e w'=>e = .returned (.int .i64 5)∧w'=W from by have:=(h.quiet hk).ph;rw [hph] at this;exact this)
 have HQ:=hid (fun W (hk:Keeps (fun _=>False) w W)=>show DwAt W b S from block_keep HS.out hk (fun h=>h))
 have HC:=hid (fun W (hk:Keeps (fun _=>False) w W)=>cells3 (HQ.out W hk))
 rw [hn] at HC
 clear h hs hok hsz hph
 go_enter Tryz.func12,Tryz.ntmps12
 go_wp2_with fail
 refine (HSZ.out _ ((Keeps.refl _ _).alloc _)).mono ?_
 rintro e w1 ⟨rfl,k1⟩
 have K1:=hid (((Keeps.refl (fun _=>False) w).alloc _).trans k1)
 have HR1:=hid (block_keep (alloc_new (w:=w)) k1 (fun h=>h))
 obtain⟨c0,c1,c2,cl⟩:=HC.out _ K1.out
 clear k1
 go_wp2_with fail
 refine ((HM1.out _ K1.out)).mono ?_
 rintro e w' ⟨rfl,h'⟩
 obtain rfl:=h'.symm
 go_wp2_with fail
 refine ((HM2.out _ K1.out)).mono ?_
 rintro e w' ⟨rfl,h'⟩
 obtain rfl:=h'.symm
 have HDN:=hid (dsw_done (HQ.out _ K1.out))
 rw [hn] at HDN
 go_wp2_with fail
 refine HDN.out.mono ?_
 rintro e wd ⟨rfl,kd⟩
 have KD:=hid (K1.out.trans kd);have HRD:=hid (block_keep HR1.out kd (fun h=>h))
 clear K1 HR1 kd c0 c1 c2 cl HDN
 obtain⟨c0,c1,c2,cl⟩:=HC.out _ KD.out
 have hd1:((S.next:Int) == (n:Int))=false:=by simp;omega
 have hbf:=frozen_block (HQ.out _ KD.out)
 have bf1:=hbf 1
 clear hbf
 go_wp2_with fail
 refine ((HPH.out _ KD.out)).mono ?_
 rintro e w' ⟨rfl,h'⟩
 obtain rfl:=h'.symm
 obtain⟨c0',c1',c2',cl'⟩:=HC.out _ KD.out
 obtain⟨w2,hw2⟩:∃ w2,wd.setCell ⟨b,1,none⟩ (.int .i64 ((S.next:Int)+1))=w2:=⟨_,rfl⟩
 have k2:Keeps (fun z=>z=b) wd w2:=by rw [← hw2];exact keeps_set1 _ _ _ _
 have HDW2:=hid (show DwAt w2 b ⟨S.size,S.next+1,S.n⟩ from by rw [← hw2];exact (set_block (HQ.out _ KD.out) 1 _).trans (by simp))
 have HF2:=hid (Fo.own (H0.out _ KD.out) (HQ.out _ KD.out) HB.out k2)
 have HD2:=hid (show FD w0 w2 a m LA LM x y A M s qq from HF2.out.weak)
 have HR2:=hid (block_keep HRD.out k2 (fun e=>by have e':w.heap.size=b:=e;omega))
 have HK2:=hid (show Keeps (fun z=>z=b∨Ft w w0.heap.size z) w w2 from KD.out.up.trans (k2.mono (fun _ _ e=>.inl e)))
 go_wp2_with fail
 try rw [hw2]
 clear hw2 k2 c0 c1 c2 cl c0' c1' c2' cl' bf1
 refine (HD2.out.heap).mono ?_
 rintro e w3 ⟨hb3,ht3,rfl,k3,_,_,hh3⟩
 have K3:=hid k3;have HH3:=hid hh3
 clear k3 hh3
 go_wp2_with fail
 refine (all14 HH3.out).mono ?_
 rintro e w4 ⟨v,rfl,hr4,k4⟩
 have K4:=hid (K3.out.trans k4)
 obtain⟨pa,ca,rfl⟩:=hr4.refs.slice
 have HR4:=hid hr4.refs
 have hlen:=tk_len s.A.H.T
 obtain⟨l,hl⟩:∃ l,s.A.H.T.tk=l:=⟨_,rfl⟩
 rw [hl] at HR4 hlen ⊢
 have hl256:l.length≤256:=by have:=HAN.out;omega
 have HL:=hid hl
 clear k4 hr4 hl hlen
 obtain⟨mk,hmk⟩:∃ mk,(s.M.P.c S.next != 0)=mk:=⟨_,rfl⟩
 have HMK:=hid (fun W (hk:Keeps (fun _=>False) w2 W)=>HMK0.out W (HD2.out.quiet hk))
 rw [hmk] at HMK
 have HMV:=hid hmk
 clear hmk
 go_wp2_with fail
 refine ((HMK.out _ K4.out)).mono ?_
 rintro e w' ⟨rfl,h'⟩
 obtain rfl:=h'.symm
 go_wp2_with fail
 go_loopw [19] (fun ix wr=>∃ i:Nat,ix = .int .i64 i∧i≤l.length∧(mk=false→∀ j r,j<i→l[j]?=some r→r.s≠(S.next:Int))∧Hid (wr=w4)) (fun ix _=>l.length - (intOf ix).toNat)
 case atStart=>exact⟨0,rfl,Nat.zero_le _,fun _ j r hj=>absurd hj (Nat.not_lt_zero _),hid rfl⟩
 case round=>
  obtain⟨i,rfl,hi,hno,hw⟩:=hrel
  obtain rfl:=hw.out.symm
  clear hw
  have hi0:(0:Int)≤i:=by omega
  by_cases hlt:i<l.length
  ·have hlt':(i:Int)<(l.length:Int):=by omega
   obtain⟨r,hr⟩:∃ r,l[i]?=some r:=⟨_,List.getElem?_eq_getElem hlt⟩
   obtain⟨g,rfl,hg,g0,g1⟩:=HR4.out.cell.2 i r hr
   by_cases hm:r.s=(S.next:Int)∧mk=false
   ·obtain⟨hrs,rfl⟩:=hm
    have hrs':(r.s == (S.next:Int))=true:=by simp [hrs]
    obtain⟨i0,e1,e2,e3,e4⟩:=tk_of (T:=s.A.H.T) (r:=r) (by rw [HL.out];exact List.mem_of_getElem? hr)
    have hii:i0=S.next:=by omega
    subst hii
    obtain⟨rs,rg⟩:=r
    dsimp only at hrs hrs' e4 g0 g1
    subst hrs;subst e4
    have HST:=hid (show S.stepR s=⟨⟨S.size,S.next+1,S.n+1⟩,s.free S.next,⟨(S.next:Int),s.A.H.T.gn S.next⟩,true⟩ by
     have hmv:=HMV.out
     unfold Sw.stepR
     rw [if_neg (by rintro (h | h);exact absurd hmv (by simp [h]);exact h e3)])
    have hz4:w.heap.size<w4.heap.size:=Nat.lt_of_lt_of_le (lt_block HR2.out) K4.out.size
    have HFR:=hid (Fo.dfree (HF2.out.quiet K4.out) (fun z e=>by have e':z=w.heap.size:=e;omega) (⟨(S.next:Int),s.A.H.T.gn S.next⟩:Rf))
    clear hno
    go_wp2_with fail
    refine HFR.out.mono ?_
    rintro e w5 ⟨rfl,hd5,k5⟩
    have HD5:=hid hd5;have K5:=hid k5
    clear hd5 k5 HFR
    go_wp2_with fail
    have HFD:=hid (Fo.dfreed HD5.out (S.next:Int))
    refine HFD.out.mono ?_
    rintro e w6 ⟨rfl,hd6,k6⟩
    have HD6:=hid hd6;have K6:=hid (Ft.trans K5.out k6)
    clear hd6 k6 HFD K5 HD5 g0 g1 hg
    have HDW6:=hid ((show DwAt w4 b ⟨S.size,S.next+1,S.n⟩ from block_keep HDW2.out K4.out (fun h=>h)).ft K6.out)
    obtain⟨d0,d1,d2,dl⟩:=cells3 HDW6.out
    have df:=frozen_block HDW6.out 2
    obtain⟨w7,hw7⟩:∃ w7,w6.setCell ⟨b,2,none⟩ (.int .i64 ((S.n:Int)+1))=w7:=⟨_,rfl⟩
    have k7:Keeps (fun z=>z=b) w6 w7:=by rw [← hw7];exact keeps_set1 _ _ _ _
    have HDW7:=hid (show DwAt w7 b ⟨S.size,S.next+1,S.n+1⟩ from by rw [← hw7];exact (set_block HDW6.out 2 _).trans (by simp))
    have HF7:=hid (Fo.own HD6.out HDW6.out HB.out k7)
    have hr7:=block_keep (Ft.block K6.out (block_keep HR2.out K4.out (fun h=>h)) (by decide)) k7 (fun e=>by have e':w.heap.size=b:=e;omega)
    have HR7:=hid hr7
    obtain⟨g',hg',hgl',g0,g1⟩:=((HR4.out.ft K6.out).dw HDW6.out k7).cell.2 i _ hr
    obtain rfl:g'=g:=by simpa using hg'.symm
    obtain⟨x0,x1,xf,xl⟩:=cells2 hr7
    have x0f:=xf 0;have x1f:=xf 1
    have K7:=hid (show Keeps (fun z=>z=b∨Ft w w0.heap.size z) w w7 from (ft_or (HK2.out.trans K4.out.up) K6.out).trans (k7.mono (fun _ _ e=>.inl e)))
    clear hr7 xf k7
    go_wp2_with fail
    try rw [hw7]
    obtain⟨w8,hw8⟩:∃ w8,(w7.setCell ⟨w.heap.size,0,none⟩ (.int .i64 (S.next:Int))).setCell ⟨w.heap.size,1,none⟩ (.int .u32 (s.A.H.T.gn S.next))=w8:=⟨_,rfl⟩
    have k8:Keeps (fun z=>z=w.heap.size) w7 w8:=by rw [← hw8];exact (keeps_set1 _ _ _ _).trans (keeps_set1 _ _ _ _)
    have hq8:w8.heap[w.heap.size]?=some (.cells #[.int .i64 (S.next:Int),.int .u32 (s.A.H.T.gn S.next)] 45):=by rw [← hw8];exact (set_block (set_block HR7.out 0 _) 1 _).trans rfl
    have HF8:=hid (Fo.box HF7.out k8 HR7.out hd0.size rfl)
    obtain⟨v0,v1,_,_⟩:=cells2 hq8
    try rw [hw8]
    refine bodyPost_ret_by (v:=.tuple #[(S.stepR s).r.val,.bool (S.stepR s).is,.int .i64 0]) (by rw [HST.out];simp [results,Tryz.results12,go_sem,Rf.val, *]) rfl ⟨rfl,?_,?_,?_⟩
    ·rw [HST.out];exact HF8.out.weak
    ·rw [HST.out];exact block_keep HDW7.out k8 (fun e=>by have e':b=w.heap.size:=e;omega)
    ·exact K7.out.trans' k8 (fun _ _ h=>h) (fun z hz e=>by have e':z=w.heap.size:=e;omega)
   ·by_cases hrs:r.s=(S.next:Int)
    ·have hmk:mk=true:=by cases mk;exact absurd ⟨hrs,rfl⟩ hm;rfl
     subst hmk
     have hrs':(r.s == (S.next:Int))=true:=by simp [hrs]
     clear hno
     go_wp2_with fail
     exact⟨⟨i+1,by go_num,by omega,fun e=>(by cases e),(by first | exact hid rfl | exact hid trivial)⟩,by simp [intOf];omega⟩
    ·have hrs':(r.s == (S.next:Int))=false:=by simp [hrs]
     have HNO:=hid (show mk=false→∀ j r',j<i+1→l[j]?=some r'→r'.s≠(S.next:Int) from fun e j r' hj hr'=>by
      by_cases hji:j=i
      ·subst hji
       rw [hr] at hr'
       obtain rfl:=Option.some.inj hr'
       exact hrs
      ·exact hno e j r' (by omega) hr')
     clear hno
     go_wp2_with fail
     exact⟨⟨i+1,by go_num,by omega,HNO.out,(by first | exact hid rfl | exact hid trivial)⟩,by simp [intOf];omega⟩
  ·have hnl:¬ (i:Int)<(l.length:Int):=by omega
   have HST:=hid (show S.stepR s=⟨⟨S.size,S.next+1,S.n⟩,s,.no,false⟩ by
    have hmv:=HMV.out
    unfold Sw.stepR
    refine if_pos ?_
    cases mk
    ·refine .inr (fun h1=>?_)
     have hm:=tk_mem (T:=s.A.H.T) (i:=S.next) (by rw [HAN.out];omega) h1
     rw [HL.out] at hm
     obtain⟨j,hj⟩:=List.getElem?_of_mem hm
     have hjl:j<l.length:=(List.getElem?_eq_some_iff.1 hj).1
     exact hno rfl j _ (by omega) hj rfl
    ·exact .inl (by simpa using hmv))
   obtain⟨x0,x1,xf,xl⟩:=cells2 (block_keep HR2.out K4.out (fun h=>h))
   have x0f:=xf 0;have x1f:=xf 1
   clear xf hno
   go_wp2_with fail
   obtain⟨w8,hw8⟩:∃ w8,(w4.setCell ⟨w.heap.size,0,none⟩ (.int .i64 0)).setCell ⟨w.heap.size,1,none⟩ (.int .u32 0)=w8:=⟨_,rfl⟩
   have hr4':=block_keep HR2.out K4.out (fun h=>h)
   have k8:Keeps (fun z=>z=w.heap.size) w4 w8:=by rw [← hw8];exact (keeps_set1 _ _ _ _).trans (keeps_set1 _ _ _ _)
   have hq8:w8.heap[w.heap.size]?=some (.cells #[.int .i64 0,.int .u32 0] 45):=by rw [← hw8];exact (set_block (set_block hr4' 0 _) 1 _).trans rfl
   have HF8:=hid (Fo.box (HF2.out.quiet K4.out) k8 hr4' hd0.size rfl)
   obtain⟨v0,v1,_,_⟩:=cells2 hq8
   try rw [hw8]
   refine bodyPost_ret_by (v:=.tuple #[(S.stepR s).r.val,.bool (S.stepR s).is,.int .i64 0]) (by rw [HST.out];simp [results,Tryz.results12,go_sem,Rf.val,Rf.no, *]) rfl ⟨rfl,?_,?_,?_⟩
   ·rw [HST.out];exact HF8.out.weak
   ·rw [HST.out];exact block_keep (block_keep HDW2.out K4.out (fun h=>h)) k8 (fun e=>by have e':b=w.heap.size:=e;omega)
   ·exact (HK2.out.trans K4.out.up).trans' k8 (fun _ _ h=>h) (fun z hz e=>by have e':z=w.heap.size:=e;omega)
end
end Go.Proofs.YtlicmmofekkmoaaGreat
