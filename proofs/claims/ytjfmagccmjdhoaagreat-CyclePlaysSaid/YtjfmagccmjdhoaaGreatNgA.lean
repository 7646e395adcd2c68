import Derived.Test.YtjfmagccmjdhoaaGreatMgU
import Derived.Test.YtjfmagccmjdhoaaGreatMgZ
import Derived.Test.YtjfmagccmjdhoaaGreatCgA
set_option maxHeartbeats 1000000
set_option maxRecDepth 100000
namespace Go.Proofs.YtjfmagccmjdhoaaGreat
open Go.RowKit
theorem Mk.trace1_many (M:Mk) (H:Hp):(M.trace1 H).K.many=M.K.many:=by
 unfold Mk.trace1
 split
 ·split
  ·rfl
  ·rw [(Mk.scanAt_K M H _).1]
 ·split
  ·rw [(Mk.scanAt_K _ H _).1]
  ·rfl
theorem Mk.traceR_many (M:Mk) (H:Hp):(M.traceR H).K.many=M.K.many:=by
 unfold Mk.traceR
 rw [Mk.trace1_many,(M.drains_K _).1]
theorem setd_step (B:Nat→Bf) (k:Nat):zU (setd B k) k ((setd B k k).drain.settle)=setd B (k+1):=by
 funext j
 simp only [zU,setd]
 by_cases e:j=k
 ·subst e;rw [if_pos rfl,if_neg (Nat.lt_irrefl _),if_pos (Nat.lt_succ_self _)]
 ·rw [if_neg e]
  by_cases h:j<k
  ·rw [if_pos h,if_pos (by omega)]
  ·rw [if_neg h,if_neg (by omega)]
theorem mgo_end_any (m:Nat) (L:MkL) (M:Mk) (w:World) (h:MkIn w m L M) (hp:M.K.ph=5) (hcy:M.K.cy<4611686018427387904):
 Calls Tryz.prog 247 #[.pointer (some ⟨m,0,none⟩)] w fun e w'=>e = .returned (.int .i64 0)∧zA (fun y=>L.foot M.K.many y) w w'∧MkIn w' m L M.endedR:=by
 have HV:=zC (mvalid m L M w h)
 have HE:=zC (mended m L M w h)
 rw [show decide (4≤M.K.ph)=true by simp;omega] at HE
 have HG:=zC (phGo_ok L.c M.K w h.clk (by omega) (fun h=>by omega) hcy)
 have HM:=zC (fun (w':World) (hk:zA (fun y=>y=L.c) w w') hK=>h.setC (K:=M.K.go) rfl hk hK)
 have HPH:=zC (fun (w':World) (h':CkAt w' L.c M.K.go)=>phPhase L.c M.K.go w' h')
 rw [show M.K.go.ph=0 by simp [Ck.go,hp]] at HPH
 have hm4:=h.clk.m4
 obtain⟨c0,c1,c2,c3,c4,c5,cl⟩:=zY h.own
 clear h hp hcy
 go_in
 go_wp2_with (first | (go_at_call 79;refine HV.out.mono ?_;rintro e w' ⟨rfl,h'⟩;obtain rfl:=h'.symm) | (go_at_call 258;refine HE.out.mono ?_;rintro e w' ⟨rfl,h'⟩;obtain rfl:=h'.symm) | fail)
 refine HG.out.mono ?_
 rintro e w1 ⟨rfl,hk1,hK1⟩
 have HM1:=zC (HM.out _ hk1 hK1)
 have HP1:=zC (HPH.out _ hK1)
 have HK1:=zC (hk1.mono (T:=fun y=>L.foot M.K.many y) (fun y _ h=>.inl h))
 obtain⟨d0,d1,d2,d3,d4,d5,dl⟩:=zY HM1.out.own
 clear hk1 hK1 c0 c1 c2 c3 c4 c5
 go_wp2_with fail
 refine zP HP1.out ?_
 go_wp2_with fail
 refine (cclear_ok L.p M.P _ HM1.out.pt).mono ?_
 rintro e w2 ⟨rfl,hk2,hp2⟩
 have hne:L.s≠L.p:=by
  obtain⟨_,q1,_⟩:=HM1.out.pt
  obtain⟨_,q2,_⟩:=HM1.out.st
  exact zM q2 q1 (by decide)
 have HM2:=zC (show MkIn w2 m L ⟨M.K.go,M.P.clear,M.S,M.B⟩ from HM1.out.setPS (P:=M.P.clear) (S:=M.S) rfl (hk2.mono (fun _ _ h=>.inl h)) hp2 (HM1.out.st.keeps hk2 hne))
 have HK2:=zC (HK1.out.trans' hk2 (U:=fun y=>L.foot M.K.many y) (fun _ _ h=>h) (fun y _ h=>.inr (.inl h)))
 obtain⟨e0,e1,e2,e3,e4,e5,el⟩:=zY HM2.out.own
 clear hk2 hp2 d0 d1 d2 d3 d4 d5
 go_wp2_with fail
 refine (qclear_ok L.s M.S w2 HM2.out.st).mono ?_
 rintro e w3 ⟨rfl,hk3,hs3⟩
 have HM3:=zC (show MkIn w3 m L ⟨M.K.go,M.P.clear,M.S.clear,M.B⟩ from HM2.out.setPS (P:=M.P.clear) (S:=M.S.clear) rfl (hk3.mono (fun _ _ h=>.inr h)) (HM2.out.pt.keeps hk3 hne.symm) hs3)
 have HK3:=zC (HK2.out.trans' hk3 (U:=fun y=>L.foot M.K.many y) (fun _ _ h=>h) (fun y _ h=>.inr (.inr (.inl h))))
 obtain⟨f0,f1,f2,f3,f4,f5,fl⟩:=zY HM3.out.own
 clear hk3 hs3 e0 e1 e2 e3 e4 e5
 go_wp2_with fail
 go_loopw [45] (fun ix wr=>∃ k:Nat,k≤M.K.many∧ix = .int .i64 k∧MkIn wr m L ⟨M.K.go,M.P.clear,M.S.clear,setd M.B k⟩∧zA (fun y=>L.foot M.K.many y) w wr) (fun ix _=>M.K.many - (intOf ix).toNat)
 case atStart=>exact⟨0,Nat.zero_le _,rfl,(show setd M.B 0=M.B by funext j;simp [setd]) ▸ HM3.out,HK3.out⟩
 case round=>
  obtain⟨k,hk,rfl,hmk,hkk⟩:=hrel
  clear f0 f1 f2 f3 f4 f5 fl
  by_cases hlt:k<M.K.many
  ·obtain⟨cur,hr,hcur⟩:=hmk.row
   have x0:=zD hr (hcur k hlt)
   have hlt':(k:Int)<(M.K.many:Int):=by omega
   have hk0:(0:Int)≤k:=by omega
   have hk4:(k:Int)<4:=by omega
   have hbk:setd M.B k k=M.B k:=if_neg (Nat.lt_irrefl _)
   have hbf:=hmk.bf k hlt
   have HD:=zC (bdrain_any (L.bb k) (setd M.B k k) wr hbf)
   have HST:=zC (fun (w':World) (hk':zA (fun y=>y=L.bb k) wr w') (hB:BfAt w' (L.bb k) (setd M.B k k).drain.settle)=>hmk.setB hlt hk' hB)
   have HKK:=zC hkk
   clear hr hcur hmk hkk hbk hbf
   go_wp2_with fail
   refine HD.out.mono ?_
   rintro e w4 ⟨_,rfl,_,hk4',hB4⟩
   have HSE:=zC (bsettle_ok (L.bb k) _ w4 hB4)
   have HK4:=zC hk4'
   clear hk4' hB4
   go_wp2_with fail
   refine HSE.out.mono ?_
   rintro e w5 ⟨rfl,hk5,hB5⟩
   have hkk5:=HK4.out.trans hk5
   have HM5:=zC (HST.out _ hkk5 hB5)
   have HK5:=zC (HKK.out.trans' hkk5 (U:=fun y=>L.foot M.K.many y) (fun _ _ h=>h) (fun y _ h=>.inr (.inr (.inr ⟨k,hlt,h⟩))))
   clear hkk5 hk5 hB5
   go_wp2_with fail
   refine⟨⟨k+1,by omega,by go_num,?_,HK5.out⟩,by simp [intOf];omega⟩
   have:=HM5.out
   simp only [setd_step] at this
   exact this
  ·have hkm:k=M.K.many:=by omega
   subst hkm
   have hnl:¬ (M.K.many:Int)<(M.K.many:Int):=by omega
   have HMK:=zC hmk;have HKK:=zC hkk
   clear hmk hkk
   go_wp2_with fail
   go_ret
   exact⟨rfl,HKK.out,HMK.out⟩
theorem mroots_wait (m a:Nat) (L:MkL) (M:Mk) (w:World) (h:MkIn w m L M) (hr:M.K.ready=false):
 Calls Tryz.prog 272 #[.pointer (some ⟨m,0,none⟩),.pointer (some ⟨a,0,none⟩)] w fun e w'=>e = .returned (.tuple #[])∧Kz w w':=by
 have HR:=zC (phReady L.c M.K w h.clk)
 rw [hr] at HR
 obtain⟨c0,c1,c2,c3,c4,c5,cl⟩:=zY h.own
 clear h hr
 go_in
 go_wp2_with fail
 refine zQ HR.out fun w1 hk1=>?_
 go_wp2_with fail
 go_end0
 exact⟨rfl,hk1⟩
theorem mwait (v a:Value) (w:World):Calls Tryz.prog 270 #[v,a] w fun e w'=>e = .returned (.tuple #[])∧w'=w:=by
 go_in
 go_wp2
 go_end0
 exact⟨rfl,rfl⟩
theorem mack_late (m a i:Nat) (L:MkL) (M:Mk) (LA:ArL) (A:Ar) (w:World) (h:MkIn w m L M) (ha:ArIn w a LA A) (hn:A.H.T.n=M.P.n) (hm:A.many=M.K.many) (hi:i<M.K.many) (hp:¬ (M.K.ph=1∨M.K.ph=2)):
 Calls Tryz.prog 65 #[.pointer (some ⟨m,0,none⟩),.pointer (some ⟨a,0,none⟩),.int .i64 i] w fun e w'=>e = .returned (.tuple #[.bool false,.int .i64 8])∧Kz w w':=by
 have HCH:=zC (mcheck_ok m a L M LA A w h ha hn hm)
 have HAK:=zC (fun (w':World) (hk:Kz w w')=>phAck_state L.c M.K i w' (h.clk.keeps hk (fun h=>h)) hi (by omega) (by omega))
 have HC:=zC (fun (w':World) (hk:Kz w w')=>zY (h.keeps0 hk).own)
 clear h ha hn hm hi hp
 go_in
 go_wp2_with fail
 refine zQ HCH.out fun w1 hk1=>?_
 obtain⟨d0,d1,d2,d3,d4,d5,dl⟩:=HC.out _ hk1
 have HK1:=zC hk1
 clear hk1
 go_wp2_with fail
 refine zP (HAK.out _ HK1.out) ?_
 go_wp2_with fail
 go_ret2
 exact⟨rfl,HK1.out⟩
section
variable {w0 w w':World} {a m:Nat} {LA:ArL} {LM:MkL} {A:Ar} {M M':Mk}
def Duo.To (w0 w w':World) (a m:Nat) (LA:ArL) (LM:MkL) (A:Ar) (M M':Mk):Prop:=Duo w0 w' a m LA LM A M'∧zA (fun y=>LM.foot M.K.many y) w w'
theorem Duo.mk' {S:Nat→Prop} (h:Duo w0 w a m LA LM A M) (hk:zA S w w') (hS:∀ y,S y→LM.foot M.K.many y) (hm:MkIn w' m LM M') (hK:M'.K.many=M.K.many):Duo.To w0 w w' a m LA LM A M M':=
 ⟨h.marker hk hS hm hK,hk.mono (fun y _ hy=>hS y hy)⟩
theorem Duo.mk0 (h:Duo w0 w a m LA LM A M) (hk:Kz w w'):Duo.To w0 w w' a m LA LM A M M:=⟨h.same hk,hk.up⟩
theorem Duo.mkr (h:Duo w0 w a m LA LM A M) (e:w'=w):Duo.To w0 w w' a m LA LM A M M:=by subst e;exact⟨h,zA.refl _ _⟩
theorem duo_step_any (h:Duo w0 w a m LA LM A M) (hok:M.Ok) (hn:A.H.T.n=M.P.n) (hm:A.many=M.K.many) (hcy:M.K.cy<4611686018427387904):
 Calls Tryz.prog 244 #[.pointer (some ⟨m,0,none⟩),.pointer (some ⟨a,0,none⟩)] w fun e w'=>e = .returned (.int .i64 0)∧Duo.To w0 w w' a m LA LM A M (M.stepR A):=by
 have fin:∀ {W w2 M'},Kz w W→Duo.To w0 W w2 a m LA LM A M M'→Duo.To w0 w w2 a m LA LM A M M'∧w2.cell? ⟨m,2,none⟩=some (.pointer (some ⟨LM.c,0,none⟩)):=fun hk hd=>⟨⟨hd.1,hk.up.trans hd.2⟩,(zY hd.1.mm.own).2.2.1⟩
 unfold Mk.stepR
 split
 ·rename_i hp
  split
  ·rename_i hr
   have hall:M.K.all=true:=by simpa [Ck.ready,hp] using hr
   refine mstep_of m a 1 271 LM M LA A _ w h.mm h.ar hn hm hp (by intro w;unfold stepsV;kernel_rfl) (enters_of Tryz.func271 (by kernel_rfl) rfl) ?_
   intro W hk
   have hW:=h.same hk
   refine (mshake_any m a LM M LA A W hW.mm hW.ar hn hp hall hcy (fun {W W'} hA hk=>h.hsep (fun y hy=>.inl hy) hA hk)).mono ?_
   rintro e w' ⟨rfl,hk',hm'⟩
   exact⟨rfl,fin hk (hW.mk' hk' (fun y hy=>by rcases hy with h | h | h;exact .inl h;exact .inr (.inl h);exact .inr (.inr (.inl h))) hm' rfl)⟩
  ·rename_i hr
   refine mstep_of m a 1 271 LM M LA A _ w h.mm h.ar hn hm hp (by intro w;unfold stepsV;kernel_rfl) (enters_of Tryz.func271 (by kernel_rfl) rfl) ?_
   intro W hk
   have hW:=h.same hk
   exact (mshake_wait m a LM M W hW.mm (by simpa using hr)).mono (fun e w' ⟨h1,h2⟩=>⟨h1,fin hk (hW.mk0 h2)⟩)
 ·split
  ·rename_i hp
   split
   ·rename_i hr
    refine mstep_of m a 2 272 LM M LA A _ w h.mm h.ar hn hm hp (by intro w;unfold stepsV;kernel_rfl) (enters_of Tryz.func272 (by kernel_rfl) rfl) ?_
    intro W hk
    have hW:=h.same hk
    exact (mroots_ok m a LM M W hW.mm hp (by simpa [Ck.ready,hp] using hr) hcy).mono (fun e w' ⟨h1,h2,h3⟩=>⟨h1,fin hk (hW.mk' h2 (fun y hy=>.inl hy) h3 rfl)⟩)
   ·rename_i hr
    refine mstep_of m a 2 272 LM M LA A _ w h.mm h.ar hn hm hp (by intro w;unfold stepsV;kernel_rfl) (enters_of Tryz.func272 (by kernel_rfl) rfl) ?_
    intro W hk
    have hW:=h.same hk
    exact (mroots_wait m a LM M W hW.mm (by simpa using hr)).mono (fun e w' ⟨h1,h2⟩=>⟨h1,fin hk (hW.mk0 h2)⟩)
  ·split
   ·rename_i hp
    refine mstep_of m a 3 273 LM M LA A _ w h.mm h.ar hn hm hp (by intro w;unfold stepsV;kernel_rfl) (enters_of Tryz.func273 (by kernel_rfl) rfl) ?_
    intro W hk
    have hW:=h.same hk
    exact (mtrace_any m a LM M LA A W hW.mm hW.ar hok hn hp hcy (fun {W W'} hA hk=>h.hsep (fun y hy=>hy) hA hk)).mono (fun e w' ⟨h1,h2,h3⟩=>⟨h1,fin hk (hW.mk' h2 (fun y hy=>hy) h3 (Mk.traceR_many M A.H))⟩)
   ·rename_i h1 h2 h3
    have h5:=hok.ph
    have hw:∀ W,Kz w W→Calls Tryz.prog 270 #[.pointer (some ⟨m,0,none⟩),.pointer (some ⟨a,0,none⟩)] W fun e w'=>e = .returned (.tuple #[])∧Duo.To w0 w w' a m LA LM A M M∧w'.cell? ⟨m,2,none⟩=some (.pointer (some ⟨LM.c,0,none⟩)):=by
     intro W hk
     refine (mwait _ _ W).mono ?_
     rintro e w' ⟨rfl,rfl⟩
     exact⟨rfl,fin (W:=w) (zA.refl _ _) (h.mk0 hk)⟩
    have he:=enters_of Tryz.func270 (by kernel_rfl) rfl
    obtain hp | hp | hp:M.K.ph=0∨M.K.ph=4∨M.K.ph=5:=by omega
    ·exact mstep_of m a 0 270 LM M LA A _ w h.mm h.ar hn hm hp (by intro w;unfold stepsV;kernel_rfl) he hw
    ·exact mstep_of m a 4 270 LM M LA A _ w h.mm h.ar hn hm hp (by intro w;unfold stepsV;kernel_rfl) he hw
    ·exact mstep_of m a 5 270 LM M LA A _ w h.mm h.ar hn hm hp (by intro w;unfold stepsV;kernel_rfl) he hw
theorem duo_ack_any (h:Duo w0 w a m LA LM A M) (hn:A.H.T.n=M.P.n) (hm:A.many=M.K.many) (i:Int):
 Calls Tryz.prog 65 #[.pointer (some ⟨m,0,none⟩),.pointer (some ⟨a,0,none⟩),.int .i64 i] w fun e w'=>e = .returned (.tuple #[.bool (M.ackR A i).is,.int .i64 (M.ackR A i).e])∧Duo.To w0 w w' a m LA LM A M (M.ackR A i).M:=by
 unfold Mk.ackR
 split
 ·rename_i hi
  exact (mack_range m a i LM M LA A w h.mm h.ar hn hm hi).mono fun e w' ⟨h1,h2⟩=>⟨h1,h.mk0 h2⟩
 ·rename_i hi
  obtain⟨i,rfl⟩:∃ j:Nat,i=j:=⟨i.toNat,by omega⟩
  have hi':i<M.K.many:=by omega
  rw [Int.toNat_natCast]
  split
  ·rename_i hp
   exact (mack_late m a i LM M LA A w h.mm h.ar hn hm hi' hp).mono fun e w' ⟨h1,h2⟩=>⟨h1,h.mk0 h2⟩
  ·rename_i hp
   have hp':M.K.ph=1∨M.K.ph=2:=Classical.not_not.1 hp
   split
   ·rename_i h2
    exact (mack_roots m a i LM M LA A w h.mm h.ar hn hm hi' h2.1 h2.2 (fun {W W'} hA hk=>h.hsep (fun y hy=>.inl hy) hA hk)).mono fun e w' ⟨h1,h2,h3⟩=>⟨h1,h.mk' h2 (fun y hy=>by rcases hy with h | h | h;exact .inl h;exact .inr (.inl h);exact .inr (.inr (.inl h))) h3 rfl⟩
   ·rename_i h2
    refine (mack_plain m a i LM M LA A w h.mm h.ar hn hm hi' ?_).mono fun e w' ⟨h1,h2,h3⟩=>⟨h1,h.mk' h2 (fun y hy=>.inl hy) h3 rfl⟩
    rcases hp' with hp' | hp'
    ·exact .inl hp'
    ·refine .inr ⟨hp',?_⟩
     rcases hs:M.K.seen i with _ | _
     ·exact absurd ⟨hp',hs⟩ h2
     ·rfl
theorem duo_go_any (h:Duo w0 w a m LA LM A M) (hok:M.Ok) (hcy:M.K.cy<4611686018427387904):
 Calls Tryz.prog 247 #[.pointer (some ⟨m,0,none⟩)] w fun e w'=>e = .returned (.int .i64 M.goR.2)∧Duo.To w0 w w' a m LA LM A M M.goR.1:=by
 unfold Mk.goR
 split
 ·rename_i hp
  exact (mgo_idle m LM M w h.mm hp).mono fun e w' ⟨h1,h2⟩=>⟨h1,h.mkr h2⟩
 ·split
  ·rename_i hp
   exact (mgo_mid m LM M w h.mm hp hcy).mono fun e w' ⟨h1,h2,h3⟩=>⟨h1,h.mk' h2 (fun y hy=>.inl hy) h3 rfl⟩
  ·have h5:=hok.ph
   exact (mgo_end_any m LM M w h.mm (by omega) hcy).mono fun e w' ⟨h1,h2,h3⟩=>⟨h1,h.mk' h2 (fun y hy=>hy) h3 rfl⟩
theorem duo_begin_any (h:Duo w0 w a m LA LM A M):
 Calls Tryz.prog 144 #[.pointer (some ⟨m,0,none⟩)] w fun e w'=>e = .returned (.int .i64 M.beginR.2)∧Duo.To w0 w w' a m LA LM A M M.beginR.1:=by
 unfold Mk.beginR
 split
 ·rename_i hp;exact (mbegin_ok m LM M w h.mm hp).mono fun e w' ⟨h1,h2,h3⟩=>⟨h1,h.mk' h2 (fun y hy=>.inl hy) h3 rfl⟩
 ·rename_i hp
  exact (mbegin_bad m LM M w h.mm hp).mono fun e w' ⟨h1,h2⟩=>⟨h1,h.mkr h2⟩
theorem duo_made_any (h:Duo w0 w a m LA LM A M) (r:Rf):
 Calls Tryz.prog 94 #[.pointer (some ⟨m,0,none⟩),.agg #[.int .i64 r.s,.int .u32 r.g]] w fun e w'=>e = .returned (.int .i64 (M.madeR r).2)∧Duo.To w0 w w' a m LA LM A M (M.madeR r).1:=
 (mmade_any m r LM M w h.mm).mono fun e w' ⟨h1,h2,h3⟩=>⟨h1,h.mk' h2 (fun y hy=>hy) h3 (by unfold Mk.madeR;split;rfl;split <;> rfl)⟩
theorem duo_freed_any (h:Duo w0 w a m LA LM A M) (s:Int):
 Calls Tryz.prog 268 #[.pointer (some ⟨m,0,none⟩),.int .i64 s] w fun e w'=>e = .returned (.int .i64 (M.freedR s).2)∧Duo.To w0 w w' a m LA LM A M (M.freedR s).1:=
 (mfreed_any m LM M s w h.mm).mono fun e w' ⟨h1,h2,h3⟩=>⟨h1,h.mk' h2 (fun y hy=>hy) h3 (by unfold Mk.freedR;split <;> rfl)⟩
theorem duo_wrote_any (h:Duo w0 w a m LA LM A M) (i:Int) (r q:Rf):
 Calls Tryz.prog 38 #[.pointer (some ⟨m,0,none⟩),.int .i64 i,.agg #[.int .i64 r.s,.int .u32 r.g],.agg #[.int .i64 q.s,.int .u32 q.g]] w fun e w'=>e = .returned (.int .i64 (M.wroteR i r q).2)∧Duo.To w0 w w' a m LA LM A M (M.wroteR i r q).1:=
 (mwrote_any m i r q LM M w h.mm).mono fun e w' ⟨h1,h2,h3⟩=>⟨h1,h.mk' h2 (fun y hy=>hy) h3 (by rw [(Mk.wroteR_K M i r q).1])⟩
end
theorem Duo.arenaF {w0 w w':World} {a m:Nat} {LA:ArL} {LM:MkL} {A A':Ar} {M:Mk} (h:Duo w0 w a m LA LM A M) (hk:zA (fun y=>LA.foot A.many y) w w') (ha:ArIn w' a LA A') (hm:A'.many=A.many):Duo w0 w' a m LA LM A' M:=by
 obtain⟨h1,h2,h3,l1,u1,l2,u2,e1,e2,e3,ba,bm⟩:=h
 have hr:∀ y,LA.foot A.many y→l1≤y∧y<u1:=by
  intro y hy
  rcases hy with rfl | rfl | rfl | ⟨k,hk,rfl⟩
  ·exact ba.b
  ·exact ba.t
  ·exact ba.g
  ·exact ba.ss k hk
 refine⟨ha,h2.keeps hk ?_ ?_ ?_ ?_ ?_ ?_,h3.trans' hk (fun _ _ h=>h) (fun y hy h=>by have:=(hr y h).1;omega),l1,u1,l2,u2,e1,e2,e3,by rw [hm];exact ba,bm⟩
 ·intro h;have:=hr _ h;have:=bm.m;omega
 ·intro h;have:=hr _ h;have:=bm.c;omega
 ·intro h;have:=hr _ h;have:=bm.p;omega
 ·intro h;have:=hr _ h;have:=bm.s;omega
 ·intro h;have:=hr _ h;have:=bm.rb;omega
 ·intro j hj h;have:=hr _ h;have:=bm.bb j hj;omega
def Both (w0 w:World) (a m:Nat) (LA:ArL) (LM:MkL) (s:Sys):Prop:=Duo w0 w a m LA LM s.A s.M
def foot2 (LA:ArL) (LM:MkL) (s:Sys) (y:Nat):Prop:=LA.foot s.A.many y∨LM.foot s.M.K.many y
def Mv.Byte (x:Mv):Prop:=x.kind<256∧x.m<256∧x.a<256∧x.b<256∧x.c<256
def Mv.val (x:Mv):Value:=.agg #[.int .u8 x.kind,.int .u8 x.m,.int .u8 x.a,.int .u8 x.b,.int .u8 x.c]
end Go.Proofs.YtjfmagccmjdhoaaGreat
namespace Go.Proofs.YtjfmagccmjdhoaaGreat
theorem Mk.trace1_cy (M:Mk) (H:Hp) (hp:M.K.ph=3):(M.trace1 H).K.cy=M.K.cy:=by
 have hg:M.K.go.cy=M.K.cy:=by show (if M.K.ph=5 then M.K.cy+1 else M.K.cy)=_;rw [if_neg (by omega)]
 unfold Mk.trace1
 split
 ·split
  ·exact hg
  ·rw [(Mk.scanAt_K M H _).1]
 ·split
  ·rw [(Mk.scanAt_K _ H _).1]
  ·rfl
theorem Mk.stepR_cy (M:Mk) (A:Ar) (hp:M.K.ph<4):(M.stepR A).K.cy=M.K.cy:=by
 have hg:M.K.go.cy=M.K.cy:=by show (if M.K.ph=5 then M.K.cy+1 else M.K.cy)=_;rw [if_neg (by omega)]
 unfold Mk.stepR
 split
 ·split
  ·exact hg
  ·rfl
 split
 ·split
  ·exact hg
  ·rfl
 split
 ·rename_i h3
  unfold Mk.traceR
  rw [Mk.trace1_cy _ _ (by rw [(M.drains_K _).1];exact h3),(M.drains_K _).1]
 ·rfl
theorem Sys.step_next {s:Sys} (h:s.Ok):s.step.Ok∧(s.M.stepR s.A).K.many=s.M.K.many∧(s.M.stepR s.A).P.n=s.M.P.n:=by
 have key:(s.M.stepR s.A).K.many=s.M.K.many∧(s.M.stepR s.A).P.n=s.M.P.n∧Gs (s.M.stepR s.A).P (s.M.stepR s.A).S:=by
  unfold Mk.stepR
  split
  ·split
   ·exact⟨rfl,shds_n (s.M.P,s.M.S) _,(gs_shade (M:={ s.M with K:=s.M.K.go }) h.g _).1⟩
   ·exact⟨rfl,rfl,h.g⟩
  split
  ·split
   ·exact⟨rfl,rfl,h.g⟩
   ·exact⟨rfl,rfl,h.g⟩
  split
  ·obtain⟨g1,g2,g3⟩:=gs_trace (H:=s.A.H) h.m h.g
   rcases g3 with⟨hK,hn⟩ | ⟨hK,hn,_⟩
   ·exact⟨by rw [hK];rfl,hn,g1⟩
   ·exact⟨by rw [hK],hn,g1⟩
  ·exact⟨rfl,rfl,h.g⟩
 exact⟨Sys.step_ok h key.2.1 key.1 key.2.2,key.1,key.2.1⟩
def Sys.begun (s:Sys):Sys:=⟨s.A,s.M.beginR.1⟩
open Go.ChangeShapes Go.WideShapes Go.ChangeAt Go.RowKit Go.Deep
structure MvCell (w:World) (b o:Nat) (x:Mv):Prop where
 by':x.Byte
 c0:w.cell? ⟨b,o,none⟩=some (.int .u8 x.kind)
 c1:w.cell? ⟨b,o+1,none⟩=some (.int .u8 x.m)
 c2:w.cell? ⟨b,o+2,none⟩=some (.int .u8 x.a)
 c3:w.cell? ⟨b,o+3,none⟩=some (.int .u8 x.b)
 c4:w.cell? ⟨b,o+4,none⟩=some (.int .u8 x.c)
def MvRow (w:World) (v:Value) (l:List Mv):Prop:=∃ a cap,v = .slice a l.length cap∧l.length≤cap∧cap≤maxLen∧(l=[]∨∃ b off,a=some ⟨b,off,none⟩∧b<w.heap.size∧∀ (i:Nat) (x:Mv),l[i]?=some x→MvCell w b (off+i * 5) x)
theorem MvCell.same {w w':World} {b o:Nat} {x:Mv} (h:MvCell w b o x) (hb:w'.heap[b]?=w.heap[b]?):MvCell w' b o x:=by
 have e:=fun k=>World.cell?_of_block (w:=w) (w':=w') (a:=⟨b,k,none⟩) hb
 exact⟨h.by',(e _).trans h.c0,(e _).trans h.c1,(e _).trans h.c2,(e _).trans h.c3,(e _).trans h.c4⟩
theorem byte_of {u:Value} (h:Flat.Ok (.int .u8) u):∃ n:Nat,u = .int .u8 n∧n<256:=by
 obtain⟨n,rfl,hn⟩:=h
 have:0≤n∧n<256:=by
  have e1:IntKind.u8.min=0:=by decide
  have e2:IntKind.u8.max=255:=by decide
  simp [Lit.wf,e1,e2] at hn
  omega
 exact⟨n.toNat,by rw [Int.toNat_of_nonneg this.1],by omega⟩
open Go.RowKit
theorem foot2_of {LA:ArL} {LM:MkL} {s t:Sys} (h1:t.A.many=s.A.many) (h2:t.M.K.many=s.M.K.many):foot2 LA LM t=foot2 LA LM s:=by
 unfold foot2;rw [h1,h2]
theorem Both.footlt {w0 w:World} {a m:Nat} {LA:ArL} {LM:MkL} {s:Sys} (h:Both w0 w a m LA LM s):∀ y,foot2 LA LM s y→y<w.heap.size:=by
 intro y hy
 rcases hy with hy | hy
 ·exact h.ar.footlt y hy
 ·have hb:=h.mm.btw
  rcases hy with rfl | rfl | rfl | ⟨k,hk,rfl⟩
  ·exact hb.c.2
  ·exact hb.p.2
  ·exact hb.s.2
  ·exact (hb.bb k hk).2
theorem Mk.Ok.new {n k s p:Nat} (n1:1≤n) (n2:n≤256) (k1:1≤k) (k4:k≤4):(Mk.new n k s p).Ok:=
 ⟨n1,n2,k1,k4,Nat.zero_le _,fun _=>⟨Int.le_refl _,by show (0:Int)<n;omega⟩,fun _ _ _=>⟨Int.le_refl _,by show (0:Int)<n;omega⟩⟩
def ks5:List Flat:=[.int .u8,.int .u8,.int .u8,.int .u8,.int .u8]
theorem mvcell_of {w:World} {b o:Nat} (h:CellsAt w b o ks5):∃ x,MvCell w b o x:=by
 obtain⟨_,h0,k0⟩:=h 0 _ rfl
 obtain⟨_,h1,k1⟩:=h 1 _ rfl
 obtain⟨_,h2,k2⟩:=h 2 _ rfl
 obtain⟨_,h3,k3⟩:=h 3 _ rfl
 obtain⟨_,h4,k4⟩:=h 4 _ rfl
 obtain⟨a0,rfl,l0⟩:=byte_of k0
 obtain⟨a1,rfl,l1⟩:=byte_of k1
 obtain⟨a2,rfl,l2⟩:=byte_of k2
 obtain⟨a3,rfl,l3⟩:=byte_of k3
 obtain⟨a4,rfl,l4⟩:=byte_of k4
 exact⟨⟨a0,a1,a2,a3,a4⟩,⟨l0,l1,l2,l3,l4⟩,h0,h1,h2,h3,h4⟩
theorem mvrow_of {w:World} {a:Option Addr} {len cap:Nat} (h1:len≤cap) (h2:cap≤maxLen) (h:len=0∨∃ b off,a=some ⟨b,off,none⟩∧b<w.heap.size∧∀ i,i<len→CellsAt w b (off+i * ks5.length) ks5):
 ∃ l,MvRow w (.slice a len cap) l:=by
 rcases h with rfl | ⟨b,off,rfl,hb,hx⟩
 ·exact⟨[],a,cap,rfl,h1,h2,.inl rfl⟩
 ·have hc:∀ i:Nat,∃ x,i<len→MvCell w b (off+i * 5) x:=fun i=>by
   by_cases hi:i<len
   ·obtain⟨x,hx⟩:=mvcell_of (hx i hi);exact⟨x,fun _=>hx⟩
   ·exact⟨⟨0,0,0,0,0⟩,fun h=>absurd h hi⟩
  obtain⟨f,hf⟩:=Classical.axiomOfChoice hc
  refine⟨(List.range len).map f,_,cap,by simp,by simpa using h1,h2,.inr ⟨b,off,rfl,hb,fun i x hi=>?_⟩⟩
  rw [List.getElem?_map] at hi
  by_cases hl:i<len
  ·rw [List.getElem?_range hl] at hi
   simp only [Option.map_some,Option.some.injEq] at hi
   subst hi
   exact hf i hl
  ·rw [List.getElem?_eq_none (by simpa using hl)] at hi
   cases hi
end Go.Proofs.YtjfmagccmjdhoaaGreat
