import Derived.Test.YtnlkfbndlngjaaaGreatMgP
import Derived.Test.YtnlkfbndlngjaaaGreatMgT
import Derived.Test.YtnlkfbndlngjaaaGreatMgZ
set_option maxHeartbeats 1000000
set_option maxRecDepth 100000
namespace Go.Proofs.YtnlkfbndlngjaaaGreat
open Go.RowKit
theorem Mk.trace1_many (M:Mk) (H:Hp):(M.trace1 H).K.many=M.K.many:=by
 unfold Mk.trace1
 split
 ·split
  ·rfl
  ·rw [(Mk.scanAt_K M H _).1]
 ·split
  ·rw [(Mk.scanAt_K _ H _).1]
  ·rfl
theorem Mk.traceR_many (M:Mk) (H:Hp):(M.traceR H).K.many=M.K.many:=by
 unfold Mk.traceR
 rw [Mk.trace1_many,(M.drains_K _).1]
theorem setd_step (B:Nat→Bf) (k:Nat):updf (setd B k) k ((setd B k k).drain.settle)=setd B (k+1):=by
 funext j
 simp only [updf,setd]
 by_cases e:j=k
 ·subst e;rw [if_pos rfl,if_neg (Nat.lt_irrefl _),if_pos (Nat.lt_succ_self _)]
 ·rw [if_neg e]
  by_cases h:j<k
  ·rw [if_pos h,if_pos (by omega)]
  ·rw [if_neg h,if_neg (by omega)]
theorem mgo_end_any (m:Nat) (L:MkL) (M:Mk) (w:World) (h:MkIn w m L M) (hp:M.K.ph=5) (hcy:M.K.cy<4611686018427387904):
 Calls Tryz.prog 56 #[.pointer (some ⟨m,0,none⟩)] w fun e w'=>e = .returned (.int .i64 0)∧Keeps (fun y=>L.foot M.K.many y) w w'∧MkIn w' m L M.endedR:=by
 have HV:=hid (mvalid m L M w h)
 have HE:=hid (mended m L M w h)
 rw [show decide (4≤M.K.ph)=true by simp;omega] at HE
 have HG:=hid (phGo_ok L.c M.K w h.clk (by omega) (fun h=>by omega) hcy)
 have HM:=hid (fun (w':World) (hk:Keeps (fun y=>y=L.c) w w') hK=>h.setC (K:=M.K.go) rfl hk hK)
 have HPH:=hid (fun (w':World) (h':CkAt w' L.c M.K.go)=>phPhase L.c M.K.go w' h')
 rw [show M.K.go.ph=0 by simp [Ck.go,hp]] at HPH
 have hm4:=h.clk.m4
 obtain⟨c0,c1,c2,c3,c4,c5,cl⟩:=cells6 h.own
 clear h hp hcy
 go_enter Tryz.func56,Tryz.ntmps56
 go_wp2_with (first | (go_at_call 43;refine HV.out.mono ?_;rintro e w' ⟨rfl,h'⟩;obtain rfl:=h'.symm) | (go_at_call 55;refine HE.out.mono ?_;rintro e w' ⟨rfl,h'⟩;obtain rfl:=h'.symm) | fail)
 refine HG.out.mono ?_
 rintro e w1 ⟨rfl,hk1,hK1⟩
 have HM1:=hid (HM.out _ hk1 hK1)
 have HP1:=hid (HPH.out _ hK1)
 have HK1:=hid (hk1.mono (T:=fun y=>L.foot M.K.many y) (fun y _ h=>.inl h))
 obtain⟨d0,d1,d2,d3,d4,d5,dl⟩:=cells6 HM1.out.own
 clear hk1 hK1 c0 c1 c2 c3 c4 c5
 go_wp2_with fail
 refine HP1.out.mono ?_
 rintro e w' ⟨rfl,h'⟩
 obtain rfl:=h'.symm
 go_wp2_with fail
 refine (cclear_ok L.p M.P _ HM1.out.pt).mono ?_
 rintro e w2 ⟨rfl,hk2,hp2⟩
 have hne:L.s≠L.p:=by
  obtain⟨_,q1,_⟩:=HM1.out.pt
  obtain⟨_,q2,_⟩:=HM1.out.st
  exact type_ne q2 q1 (by decide)
 have HM2:=hid (show MkIn w2 m L ⟨M.K.go,M.P.clear,M.S,M.B⟩ from HM1.out.setPS (P:=M.P.clear) (S:=M.S) rfl (hk2.mono (fun _ _ h=>.inl h)) hp2 (HM1.out.st.keeps hk2 hne))
 have HK2:=hid (HK1.out.trans' hk2 (U:=fun y=>L.foot M.K.many y) (fun _ _ h=>h) (fun y _ h=>.inr (.inl h)))
 obtain⟨e0,e1,e2,e3,e4,e5,el⟩:=cells6 HM2.out.own
 clear hk2 hp2 d0 d1 d2 d3 d4 d5
 go_wp2_with fail
 refine (qclear_ok L.s M.S w2 HM2.out.st).mono ?_
 rintro e w3 ⟨rfl,hk3,hs3⟩
 have HM3:=hid (show MkIn w3 m L ⟨M.K.go,M.P.clear,M.S.clear,M.B⟩ from HM2.out.setPS (P:=M.P.clear) (S:=M.S.clear) rfl (hk3.mono (fun _ _ h=>.inr h)) (HM2.out.pt.keeps hk3 hne.symm) hs3)
 have HK3:=hid (HK2.out.trans' hk3 (U:=fun y=>L.foot M.K.many y) (fun _ _ h=>h) (fun y _ h=>.inr (.inr (.inl h))))
 obtain⟨f0,f1,f2,f3,f4,f5,fl⟩:=cells6 HM3.out.own
 clear hk3 hs3 e0 e1 e2 e3 e4 e5
 go_wp2_with fail
 go_loopw [45] (fun ix wr=>∃ k:Nat,k≤M.K.many∧ix = .int .i64 k∧MkIn wr m L ⟨M.K.go,M.P.clear,M.S.clear,setd M.B k⟩∧Keeps (fun y=>L.foot M.K.many y) w wr) (fun ix _=>M.K.many - (intOf ix).toNat)
 case atStart=>exact⟨0,Nat.zero_le _,rfl,(show setd M.B 0=M.B by funext j;simp [setd]) ▸ HM3.out,HK3.out⟩
 case round=>
  obtain⟨k,hk,rfl,hmk,hkk⟩:=hrel
  clear f0 f1 f2 f3 f4 f5 fl
  by_cases hlt:k<M.K.many
  ·obtain⟨cur,hr,hcur⟩:=hmk.row
   have x0:=cell_at hr (hcur k hlt)
   have hlt':(k:Int)<(M.K.many:Int):=by omega
   have hk0:(0:Int)≤k:=by omega
   have hk4:(k:Int)<4:=by omega
   have hbk:setd M.B k k=M.B k:=if_neg (Nat.lt_irrefl _)
   have hbf:=hmk.bf k hlt
   have HD:=hid (bdrain_any (L.bb k) (setd M.B k k) wr hbf)
   have HST:=hid (fun (w':World) (hk':Keeps (fun y=>y=L.bb k) wr w') (hB:BfAt w' (L.bb k) (setd M.B k k).drain.settle)=>hmk.setB hlt hk' hB)
   have HKK:=hid hkk
   clear hr hcur hmk hkk hbk hbf
   go_wp2_with fail
   refine HD.out.mono ?_
   rintro e w4 ⟨_,rfl,_,hk4',hB4⟩
   have HSE:=hid (bsettle_ok (L.bb k) _ w4 hB4)
   have HK4:=hid hk4'
   clear hk4' hB4
   go_wp2_with fail
   refine HSE.out.mono ?_
   rintro e w5 ⟨rfl,hk5,hB5⟩
   have hkk5:=HK4.out.trans hk5
   have HM5:=hid (HST.out _ hkk5 hB5)
   have HK5:=hid (HKK.out.trans' hkk5 (U:=fun y=>L.foot M.K.many y) (fun _ _ h=>h) (fun y _ h=>.inr (.inr (.inr ⟨k,hlt,h⟩))))
   clear hkk5 hk5 hB5
   go_wp2_with fail
   refine⟨⟨k+1,by omega,by go_num,?_,HK5.out⟩,by simp [intOf];omega⟩
   have:=HM5.out
   simp only [setd_step] at this
   exact this
  ·have hkm:k=M.K.many:=by omega
   subst hkm
   have hnl:¬ (M.K.many:Int)<(M.K.many:Int):=by omega
   have HMK:=hid hmk;have HKK:=hid hkk
   clear hmk hkk
   go_wp2_with fail
   go_ret
   exact⟨rfl,HKK.out,HMK.out⟩
theorem mroots_wait (m a:Nat) (L:MkL) (M:Mk) (w:World) (h:MkIn w m L M) (hr:M.K.ready=false):
 Calls Tryz.prog 167 #[.pointer (some ⟨m,0,none⟩),.pointer (some ⟨a,0,none⟩)] w fun e w'=>e = .returned (.tuple #[])∧Keeps (fun _=>False) w w':=by
 have HR:=hid (phReady L.c M.K w h.clk)
 rw [hr] at HR
 obtain⟨c0,c1,c2,c3,c4,c5,cl⟩:=cells6 h.own
 clear h hr
 go_enter Tryz.func167,Tryz.ntmps167
 go_wp2_with fail
 refine HR.out.mono ?_
 rintro e w1 ⟨rfl,hk1⟩
 go_wp2_with fail
 go_end0
 exact⟨rfl,hk1⟩
theorem mwait (v a:Value) (w:World):Calls Tryz.prog 165 #[v,a] w fun e w'=>e = .returned (.tuple #[])∧w'=w:=by
 go_enter Tryz.func165,Tryz.ntmps165
 go_wp2
 go_end0
 exact⟨rfl,rfl⟩
theorem mack_late (m a i:Nat) (L:MkL) (M:Mk) (LA:ArL) (A:Ar) (w:World) (h:MkIn w m L M) (ha:ArIn w a LA A) (hn:A.H.T.n=M.P.n) (hm:A.many=M.K.many) (hi:i<M.K.many) (hp:¬ (M.K.ph=1∨M.K.ph=2)):
 Calls Tryz.prog 54 #[.pointer (some ⟨m,0,none⟩),.pointer (some ⟨a,0,none⟩),.int .i64 i] w fun e w'=>e = .returned (.tuple #[.bool false,.int .i64 8])∧Keeps (fun _=>False) w w':=by
 have HCH:=hid (mcheck_ok m a L M LA A w h ha hn hm)
 have HAK:=hid (fun (w':World) (hk:Keeps (fun _=>False) w w')=>phAck_state L.c M.K i w' (h.clk.keeps hk (fun h=>h)) hi (by omega) (by omega))
 have HC:=hid (fun (w':World) (hk:Keeps (fun _=>False) w w')=>cells6 (h.keeps0 hk).own)
 clear h ha hn hm hi hp
 go_enter Tryz.func54,Tryz.ntmps54
 go_wp2_with fail
 refine HCH.out.mono ?_
 rintro e w1 ⟨rfl,hk1⟩
 obtain⟨d0,d1,d2,d3,d4,d5,dl⟩:=HC.out _ hk1
 have HK1:=hid hk1
 clear hk1
 go_wp2_with fail
 refine (HAK.out _ HK1.out).mono ?_
 rintro e w' ⟨rfl,h'⟩
 obtain rfl:=h'.symm
 go_wp2_with fail
 go_ret2
 exact⟨rfl,HK1.out⟩
section
variable {w0 w w':World} {a m:Nat} {LA:ArL} {LM:MkL} {A:Ar} {M M':Mk}
def Duo.To (w0 w w':World) (a m:Nat) (LA:ArL) (LM:MkL) (A:Ar) (M M':Mk):Prop:=Duo w0 w' a m LA LM A M'∧Keeps (fun y=>LM.foot M.K.many y) w w'
theorem Duo.mk' {S:Nat→Prop} (h:Duo w0 w a m LA LM A M) (hk:Keeps S w w') (hS:∀ y,S y→LM.foot M.K.many y) (hm:MkIn w' m LM M') (hK:M'.K.many=M.K.many):Duo.To w0 w w' a m LA LM A M M':=
 ⟨h.marker hk hS hm hK,hk.mono (fun y _ hy=>hS y hy)⟩
theorem Duo.mk0 (h:Duo w0 w a m LA LM A M) (hk:Keeps (fun _=>False) w w'):Duo.To w0 w w' a m LA LM A M M:=⟨h.same hk,hk.up⟩
theorem Duo.mkr (h:Duo w0 w a m LA LM A M) (e:w'=w):Duo.To w0 w w' a m LA LM A M M:=by subst e;exact⟨h,Keeps.refl _ _⟩
theorem duo_step_any (h:Duo w0 w a m LA LM A M) (hok:M.Ok) (hn:A.H.T.n=M.P.n) (hm:A.many=M.K.many) (hcy:M.K.cy<4611686018427387904):
 Calls Tryz.prog 28 #[.pointer (some ⟨m,0,none⟩),.pointer (some ⟨a,0,none⟩)] w fun e w'=>e = .returned (.int .i64 0)∧Duo.To w0 w w' a m LA LM A M (M.stepR A):=by
 have fin:∀ {W w2 M'},Keeps (fun _=>False) w W→Duo.To w0 W w2 a m LA LM A M M'→Duo.To w0 w w2 a m LA LM A M M'∧w2.cell? ⟨m,2,none⟩=some (.pointer (some ⟨LM.c,0,none⟩)):=fun hk hd=>⟨⟨hd.1,hk.up.trans hd.2⟩,(cells6 hd.1.mm.own).2.2.1⟩
 unfold Mk.stepR
 split
 ·rename_i hp
  split
  ·rename_i hr
   have hall:M.K.all=true:=by simpa [Ck.ready,hp] using hr
   refine mstep_of m a 1 166 LM M LA A _ w h.mm h.ar hn hm hp (by intro w;unfold stepsV;kernel_rfl) (enters_of Tryz.func166 (by kernel_rfl) rfl) ?_
   intro W hk
   have hW:=h.same hk
   refine (mshake_any m a LM M LA A W hW.mm hW.ar hn hp hall hcy (fun {W W'} hA hk=>h.hsep (fun y hy=>.inl hy) hA hk)).mono ?_
   rintro e w' ⟨rfl,hk',hm'⟩
   exact⟨rfl,fin hk (hW.mk' hk' (fun y hy=>by rcases hy with h | h | h;exact .inl h;exact .inr (.inl h);exact .inr (.inr (.inl h))) hm' rfl)⟩
  ·rename_i hr
   refine mstep_of m a 1 166 LM M LA A _ w h.mm h.ar hn hm hp (by intro w;unfold stepsV;kernel_rfl) (enters_of Tryz.func166 (by kernel_rfl) rfl) ?_
   intro W hk
   have hW:=h.same hk
   exact (mshake_wait m a LM M W hW.mm (by simpa using hr)).mono (fun e w' ⟨h1,h2⟩=>⟨h1,fin hk (hW.mk0 h2)⟩)
 ·split
  ·rename_i hp
   split
   ·rename_i hr
    refine mstep_of m a 2 167 LM M LA A _ w h.mm h.ar hn hm hp (by intro w;unfold stepsV;kernel_rfl) (enters_of Tryz.func167 (by kernel_rfl) rfl) ?_
    intro W hk
    have hW:=h.same hk
    exact (mroots_ok m a LM M W hW.mm hp (by simpa [Ck.ready,hp] using hr) hcy).mono (fun e w' ⟨h1,h2,h3⟩=>⟨h1,fin hk (hW.mk' h2 (fun y hy=>.inl hy) h3 rfl)⟩)
   ·rename_i hr
    refine mstep_of m a 2 167 LM M LA A _ w h.mm h.ar hn hm hp (by intro w;unfold stepsV;kernel_rfl) (enters_of Tryz.func167 (by kernel_rfl) rfl) ?_
    intro W hk
    have hW:=h.same hk
    exact (mroots_wait m a LM M W hW.mm (by simpa using hr)).mono (fun e w' ⟨h1,h2⟩=>⟨h1,fin hk (hW.mk0 h2)⟩)
  ·split
   ·rename_i hp
    refine mstep_of m a 3 168 LM M LA A _ w h.mm h.ar hn hm hp (by intro w;unfold stepsV;kernel_rfl) (enters_of Tryz.func168 (by kernel_rfl) rfl) ?_
    intro W hk
    have hW:=h.same hk
    exact (mtrace_any m a LM M LA A W hW.mm hW.ar hok hn hp hcy (fun {W W'} hA hk=>h.hsep (fun y hy=>hy) hA hk)).mono (fun e w' ⟨h1,h2,h3⟩=>⟨h1,fin hk (hW.mk' h2 (fun y hy=>hy) h3 (Mk.traceR_many M A.H))⟩)
   ·rename_i h1 h2 h3
    have h5:=hok.ph
    have hw:∀ W,Keeps (fun _=>False) w W→Calls Tryz.prog 165 #[.pointer (some ⟨m,0,none⟩),.pointer (some ⟨a,0,none⟩)] W fun e w'=>e = .returned (.tuple #[])∧Duo.To w0 w w' a m LA LM A M M∧w'.cell? ⟨m,2,none⟩=some (.pointer (some ⟨LM.c,0,none⟩)):=by
     intro W hk
     refine (mwait _ _ W).mono ?_
     rintro e w' ⟨rfl,rfl⟩
     exact⟨rfl,fin (W:=w) (Keeps.refl _ _) (h.mk0 hk)⟩
    have he:=enters_of Tryz.func165 (by kernel_rfl) rfl
    obtain hp | hp | hp:M.K.ph=0∨M.K.ph=4∨M.K.ph=5:=by omega
    ·exact mstep_of m a 0 165 LM M LA A _ w h.mm h.ar hn hm hp (by intro w;unfold stepsV;kernel_rfl) he hw
    ·exact mstep_of m a 4 165 LM M LA A _ w h.mm h.ar hn hm hp (by intro w;unfold stepsV;kernel_rfl) he hw
    ·exact mstep_of m a 5 165 LM M LA A _ w h.mm h.ar hn hm hp (by intro w;unfold stepsV;kernel_rfl) he hw
theorem duo_ack_any (h:Duo w0 w a m LA LM A M) (hn:A.H.T.n=M.P.n) (hm:A.many=M.K.many) (i:Int):
 Calls Tryz.prog 54 #[.pointer (some ⟨m,0,none⟩),.pointer (some ⟨a,0,none⟩),.int .i64 i] w fun e w'=>e = .returned (.tuple #[.bool (M.ackR A i).is,.int .i64 (M.ackR A i).e])∧Duo.To w0 w w' a m LA LM A M (M.ackR A i).M:=by
 unfold Mk.ackR
 split
 ·rename_i hi
  exact (mack_range m a i LM M LA A w h.mm h.ar hn hm hi).mono fun e w' ⟨h1,h2⟩=>⟨h1,h.mk0 h2⟩
 ·rename_i hi
  obtain⟨i,rfl⟩:∃ j:Nat,i=j:=⟨i.toNat,by omega⟩
  have hi':i<M.K.many:=by omega
  rw [Int.toNat_natCast]
  split
  ·rename_i hp
   exact (mack_late m a i LM M LA A w h.mm h.ar hn hm hi' hp).mono fun e w' ⟨h1,h2⟩=>⟨h1,h.mk0 h2⟩
  ·rename_i hp
   have hp':M.K.ph=1∨M.K.ph=2:=Classical.not_not.1 hp
   split
   ·rename_i h2
    exact (mack_roots m a i LM M LA A w h.mm h.ar hn hm hi' h2.1 h2.2 (fun {W W'} hA hk=>h.hsep (fun y hy=>.inl hy) hA hk)).mono fun e w' ⟨h1,h2,h3⟩=>⟨h1,h.mk' h2 (fun y hy=>by rcases hy with h | h | h;exact .inl h;exact .inr (.inl h);exact .inr (.inr (.inl h))) h3 rfl⟩
   ·rename_i h2
    refine (mack_plain m a i LM M LA A w h.mm h.ar hn hm hi' ?_).mono fun e w' ⟨h1,h2,h3⟩=>⟨h1,h.mk' h2 (fun y hy=>.inl hy) h3 rfl⟩
    rcases hp' with hp' | hp'
    ·exact .inl hp'
    ·refine .inr ⟨hp',?_⟩
     rcases hs:M.K.seen i with _ | _
     ·exact absurd ⟨hp',hs⟩ h2
     ·rfl
theorem duo_go_any (h:Duo w0 w a m LA LM A M) (hok:M.Ok) (hcy:M.K.cy<4611686018427387904):
 Calls Tryz.prog 56 #[.pointer (some ⟨m,0,none⟩)] w fun e w'=>e = .returned (.int .i64 M.goR.2)∧Duo.To w0 w w' a m LA LM A M M.goR.1:=by
 unfold Mk.goR
 split
 ·rename_i hp
  exact (mgo_idle m LM M w h.mm hp).mono fun e w' ⟨h1,h2⟩=>⟨h1,h.mkr h2⟩
 ·split
  ·rename_i hp
   exact (mgo_mid m LM M w h.mm hp hcy).mono fun e w' ⟨h1,h2,h3⟩=>⟨h1,h.mk' h2 (fun y hy=>.inl hy) h3 rfl⟩
  ·have h5:=hok.ph
   exact (mgo_end_any m LM M w h.mm (by omega) hcy).mono fun e w' ⟨h1,h2,h3⟩=>⟨h1,h.mk' h2 (fun y hy=>hy) h3 rfl⟩
theorem duo_begin_any (h:Duo w0 w a m LA LM A M):
 Calls Tryz.prog 53 #[.pointer (some ⟨m,0,none⟩)] w fun e w'=>e = .returned (.int .i64 M.beginR.2)∧Duo.To w0 w w' a m LA LM A M M.beginR.1:=by
 unfold Mk.beginR
 split
 ·rename_i hp;exact (mbegin_ok m LM M w h.mm hp).mono fun e w' ⟨h1,h2,h3⟩=>⟨h1,h.mk' h2 (fun y hy=>.inl hy) h3 rfl⟩
 ·rename_i hp
  exact (mbegin_bad m LM M w h.mm hp).mono fun e w' ⟨h1,h2⟩=>⟨h1,h.mkr h2⟩
theorem duo_made_any (h:Duo w0 w a m LA LM A M) (r:Rf):
 Calls Tryz.prog 79 #[.pointer (some ⟨m,0,none⟩),.agg #[.int .i64 r.s,.int .u32 r.g]] w fun e w'=>e = .returned (.int .i64 (M.madeR r).2)∧Duo.To w0 w w' a m LA LM A M (M.madeR r).1:=
 (mmade_any m r LM M w h.mm).mono fun e w' ⟨h1,h2,h3⟩=>⟨h1,h.mk' h2 (fun y hy=>hy) h3 (by unfold Mk.madeR;split;rfl;split <;> rfl)⟩
theorem duo_freed_any (h:Duo w0 w a m LA LM A M) (s:Int):
 Calls Tryz.prog 36 #[.pointer (some ⟨m,0,none⟩),.int .i64 s] w fun e w'=>e = .returned (.int .i64 (M.freedR s).2)∧Duo.To w0 w w' a m LA LM A M (M.freedR s).1:=
 (mfreed_any m LM M s w h.mm).mono fun e w' ⟨h1,h2,h3⟩=>⟨h1,h.mk' h2 (fun y hy=>hy) h3 (by unfold Mk.freedR;split <;> rfl)⟩
theorem duo_marked_any (h:Duo w0 w a m LA LM A M) (s:Int):
 Calls Tryz.prog 34 #[.pointer (some ⟨m,0,none⟩),.int .i64 s] w fun e w'=>e = .returned (.tuple #[.bool (M.markedR s).1,.int .i64 (M.markedR s).2])∧Keeps (fun _=>False) w w':=mmarked_any m LM M s w h.mm
theorem duo_wrote_any (h:Duo w0 w a m LA LM A M) (i:Int) (r q:Rf):
 Calls Tryz.prog 77 #[.pointer (some ⟨m,0,none⟩),.int .i64 i,.agg #[.int .i64 r.s,.int .u32 r.g],.agg #[.int .i64 q.s,.int .u32 q.g]] w fun e w'=>e = .returned (.int .i64 (M.wroteR i r q).2)∧Duo.To w0 w w' a m LA LM A M (M.wroteR i r q).1:=
 (mwrote_any m i r q LM M w h.mm).mono fun e w' ⟨h1,h2,h3⟩=>⟨h1,h.mk' h2 (fun y hy=>hy) h3 (by rw [(Mk.wroteR_K M i r q).1])⟩
end
end Go.Proofs.YtnlkfbndlngjaaaGreat
namespace Go.Proofs.YtnlkfbndlngjaaaGreat
open Go.RowKit
set_option linter.unusedVariables false
theorem Duo.arenaF {w0 w w':World} {a m:Nat} {LA:ArL} {LM:MkL} {A A':Ar} {M:Mk} (h:Duo w0 w a m LA LM A M) (hk:Keeps (fun y=>LA.foot A.many y) w w') (ha:ArIn w' a LA A') (hm:A'.many=A.many):Duo w0 w' a m LA LM A' M:=by
 obtain⟨h1,h2,h3,l1,u1,l2,u2,e1,e2,e3,ba,bm⟩:=h
 have hr:∀ y,LA.foot A.many y→l1≤y∧y<u1:=by
  intro y hy
  rcases hy with rfl | rfl | rfl | ⟨k,hk,rfl⟩
  ·exact ba.b
  ·exact ba.t
  ·exact ba.g
  ·exact ba.ss k hk
 refine⟨ha,h2.keeps hk ?_ ?_ ?_ ?_ ?_ ?_,h3.trans' hk (fun _ _ h=>h) (fun y hy h=>by have:=(hr y h).1;omega),l1,u1,l2,u2,e1,e2,e3,by rw [hm];exact ba,bm⟩
 ·intro h;have:=hr _ h;have:=bm.m;omega
 ·intro h;have:=hr _ h;have:=bm.c;omega
 ·intro h;have:=hr _ h;have:=bm.p;omega
 ·intro h;have:=hr _ h;have:=bm.s;omega
 ·intro h;have:=hr _ h;have:=bm.rb;omega
 ·intro j hj h;have:=hr _ h;have:=bm.bb j hj;omega
end Go.Proofs.YtnlkfbndlngjaaaGreat
