import Derived.Test.YtjfmagccmjdhoaaGreatCyI
import Derived.Test.YtjfmagccmjdhoaaGreatCkI
import Derived.Deep.CutRange
set_option maxHeartbeats 4000000
set_option maxRecDepth 100000
namespace Go.Proofs.YtjfmagccmjdhoaaGreat
open Go.RowKit
theorem Col.step_bg (k:Col) (room:Bool):(k.stepR room).c.C.begun≤k.C.begun+1:=by
 unfold Col.stepR
 split
 ·dsimp only
  split
  ·exact Nat.le_refl _
  ·exact Nat.le_succ _
 split
 ·have hd:k.discover.C.begun=k.C.begun:=by unfold Col.discover;split <;> rfl
  split
  ·split
   ·exact hd ▸ Nat.le_succ _
   ·exact Nat.le_succ _
  ·exact hd ▸ Nat.le_succ _
 split
 ·have hd:k.sweep.C.begun=k.C.begun:=by unfold Col.sweep;split <;> rfl
  exact hd ▸ Nat.le_succ _
 ·have hd:k.mark.C.begun=k.C.begun:=by unfold Col.mark;dsimp only;split <;> rfl
  exact hd ▸ Nat.le_succ _
theorem Col.more_len (R:CyRes) (f:List Rf):(R.more f).length≤f.length+1:=by
 unfold CyRes.more
 split
 ·simp
 ·omega
theorem Col.steps_ok {k:Col} (hok:k.Ok) (room:Bool) (f:List Rf):∀ i,(Col.steps room k f i).1.Ok∧k.Like (Col.steps room k f i).1∧(Col.steps room k f i).1.C.begun≤k.C.begun+i∧(Col.steps room k f i).2.length≤f.length+i
 | 0=>⟨hok,Col.Like.refl k,Nat.le_refl _,Nat.le_refl _⟩
 | i+1=>by
  obtain⟨h1,h2,h3,h4⟩:=Col.steps_ok hok room f i
  obtain⟨g1,g2⟩:=Col.step_ok h1 room
  have g3:=Col.step_bg (Col.steps room k f i).1 room
  have g4:=Col.more_len ((Col.steps room k f i).1.stepR room) (Col.steps room k f i).2
  refine⟨g1,h2.trans g2,?_,?_⟩
  ·show ((Col.steps room k f i).1.stepR room).c.C.begun≤_;omega
  ·show (((Col.steps room k f i).1.stepR room).more (Col.steps room k f i).2).length≤_;omega
theorem Col.cy_le {k:Col} (h:k.Ok):k.s.M.K.cy≤k.C.begun:=by have:=h.bg;omega
variable {w0 w w':World} {p a m b c:Nat} {LA:ArL} {LM:MkL} {k:Col} {f:List Rf}
theorem foot3_like {d:Col} (h:k.Like d):zV LA LM b c d.s=zV LA LM b c k.s:=foot3_of h.2.2 h.1
theorem turn_step (x:Mv) (h:Pair w0 w p a m b c LA LM k f) (hok:k.Ok) (hx:x.Byte) (hki:(x.kind:Int) % 16=13∨(x.kind:Int) % 16=14∨(x.kind:Int) % 16=15) (hb:k.C.begun+100<4611686018427387904) (hl:f.length+100≤100000):
 Calls Tryz.prog 12 #[.pointer (some ⟨p,0,none⟩),x.val] w fun e w'=>e = .returned (.tuple #[])∧Pair w0 w' p a m b c LA LM (Col.steps (decide (64≤x.b)) k f (x.a % 8+1)).1 (Col.steps (decide (64≤x.b)) k f (x.a % 8+1)).2∧PKeep w w' p (zV LA LM b c k.s):=by
 have HP:=zC h
 have HB:=zC hb;have HL:=zC hl
 obtain⟨room,RB,hrb,hrb2,hR⟩:∃ (room:Nat) (RB:Bool),decide (64≤x.b)=RB∧decide (0<room)=RB∧((room=0∧decide ((x.b:Int)<64)=true)∨(room=1∧decide ((x.b:Int)<64)=false)):=by
  by_cases hlt:x.b<64
  ·exact⟨0,false,by simp;omega,by simp,.inl ⟨rfl,by simpa using (by omega:(x.b:Int)<64)⟩⟩
  ·exact⟨1,true,by simp;omega,by simp,.inr ⟨rfl,by simpa using (by omega:¬ (x.b:Int)<64)⟩⟩
 rw [hrb]
 have HST:=zC (fun W (d:Col) (g:List Rf) (hP:Pair w0 W p a m b c LA LM d g) (hd:d.Ok) (hc:d.s.M.K.cy<4611686018427387904) (hg:g.length≤100000)=>pstep hP hd room (by omega) hc hg)
 rw [hrb2] at HST
 have HPW:=zC (fun W (hk:Kz w W)=>h.same hk)
 have hpf:¬ zV LA LM b c k.s p:=by obtain⟨v,h1,_⟩:=h.ex;exact h.q.pairfoot h1
 have HPF:=zC hpf
 have HPK0:=zC (fun W (hk:Kz w W)=>(h.keep0 (ft:=zV LA LM b c k.s) (hk.mono (fun _ _ h=>h.elim)) hpf))
 have hplt:p<w.heap.size:=by obtain⟨v,h1,_⟩:=h.ex;exact zF h1
 have HRW:=zC (fun W (hk:Kz w W) (u:Value) (hu:W.cell? ⟨p,2,none⟩=some u)=>(show u.ownBlock≠some w.heap.size from by
  obtain⟨v,h1,h2⟩:=h.ex
  have e:=zD (i:=2) (zB h1 hk (fun h=>h)) rfl
  rw [hu] at e
  obtain rfl:=Option.some.inj e
  intro e2
  have:=(h2.lt _ e2).2
  omega))
 clear hrb hrb2 hb hl hpf
 have hmany:=hok.s.m.k1;have hm4:=hok.s.m.k4
 obtain⟨hb0,hb1,hb2,hb3,hb4⟩:=hx
 have hz:¬ (k.s.M.K.many:Int)=0:=by omega
 obtain⟨mk,hmk⟩:∃ mk,x.m % k.s.M.K.many=mk:=⟨_,rfl⟩
 have hmkl:mk<k.s.M.K.many:=by rw [← hmk];exact Nat.mod_lt _ (by omega)
 have HMOD:=zC (show (x.m:Int) % (k.s.M.K.many:Int)=(mk:Int) by rw [← hmk];simp)
 obtain⟨n,hn⟩:∃ n,(k.s.A.rt mk).l.length=n:=⟨_,rfl⟩
 have hn2:(k.s.A.rt mk).n=n:=by rw [← hn];simp [Sk.l]
 obtain⟨wA,hwA⟩:∃ wA,w.alloc (.cells #[.int .u8 x.kind,.int .u8 x.m,.int .u8 x.a,.int .u8 x.b,.int .u8 x.c] 42)=wA:=⟨_,rfl⟩
 have kA:Kz w wA:=by rw [← hwA];exact (zA.refl _ _).alloc _
 have qA:wA.heap[w.heap.size]?=some (.cells #[.int .u8 x.kind,.int .u8 x.m,.int .u8 x.a,.int .u8 x.b,.int .u8 x.c] 42):=by rw [← hwA];exact zE
 obtain⟨v,hown,hrow⟩:=h.ex
 have hfl:=h.q.footlt
 have HCF:=zC (fun W (hk:zA (zV LA LM b c k.s) wA W)=>And.intro (cells5 (zB qA hk (fun hf=>by have:=hfl _ hf;omega))) (cells4 (zB (zB hown kA (fun h=>h)) hk (h.q.pairfoot hown))))
 have HSZ:=zC (fun W (hk:Kz w W)=>asizes_ok a LA k.s.A W (h.q.same hk).tr.both.ar)
 have HSA:=zC (fun W (hk:Kz w W)=>astackall_ok a LA k.s.A mk W (h.q.same hk).tr.both.ar (by rw [hok.s.k];exact hmkl))
 rw [hok.s.k] at HSZ
 have HQU:=zC (fun W (hk:Kz w W)=>h.q.same hk)
 have HFIN:=zC (fun W d (hk:zA (zV LA LM b c k.s) w W) (hd:Quad w0 W a m b c LA LM d)=>h.fin hk hd)
 have HFT:=zC hfl
 have HPC:=zC (fun W (hk:zA (zV LA LM b c k.s) w W)=>let q:=cells4 (zB hown hk (h.q.pairfoot hown));And.intro q.2.1 q.1)
 have HI:=zC (fun (y:Nat) (hy:y<256) W=>index26 y n W hy)
 have hw0:=zF qA
 have HKA:=zC kA;have HWA:=zC hwA;have HN:=zC hn;have HOK:=zC hok;have HMK:=zC hmk;have HN2:=zC hn2;have HMKL:=zC hmkl
 obtain⟨⟨y0,y1,y2,y3,y4,yl⟩,⟨x0,x1,x2,x3,xl⟩⟩:=HCF.out wA (zA.refl _ _)
 clear hn hn2 hmk kA hwA qA hown hrow hfl h hok hmkl hmany
 have HBLK:=zC (fun W (hpk:PKeep wA W p (zV LA LM b c k.s))=>(hpk.block (show wA.heap[w.heap.size]?=some (.cells #[.int .u8 x.kind,.int .u8 x.m,.int .u8 x.a,.int .u8 x.b,.int .u8 x.c] 42) by rw [← HWA.out];exact zE) (fun hf=>by have:=HFT.out _ hf;omega) (by omega) (HRW.out wA HKA.out)).1)
 obtain⟨N,hN⟩:∃ N,x.a % 8=N:=⟨_,rfl⟩
 have hN8:N<8:=by omega
 have hNt:(x.a:Int).tmod 8=(N:Int):=by rw [Int.tmod_eq_emod_of_nonneg (by omega),← hN];simp
 have hNe:(x.a:Int) % 8=(N:Int):=by rw [← hN];simp
 rw [hN]
 have HNT:=zC hNt;have HNE:=zC hNe
 clear hN hNt hNe
 rcases hR with⟨rfl,hlt'⟩ | ⟨rfl,hlt'⟩ <;> rcases hki with hki | hki | hki
 all_goals
  unfold Mv.val
  go_in
  go_upto_region 1 with (fail)
  rw [HWA.out]
  go_wp2_with fail
  refine zQ (HSZ.out _ HKA.out) fun w1 k1=>?_
  have HK1:=zC (HKA.out.trans k1)
  obtain⟨⟨z0,z1,z2,z3,z4,zl⟩,⟨u0,u1,u2,u3,ul⟩⟩:=HCF.out w1 k1.up
  have HK1A:=zC k1
  clear k1 y0 y1 y2 y3 y4 yl x0 x1 x2 x3 xl
  go_wp2_with fail
  rw [HMOD.out]
  refine (HSA.out _ HK1.out).mono ?_
  rintro e w2 ⟨v5,rfl,hr5,k2⟩
  have hsh:=zW hr5
  obtain⟨p5,c5,hv5⟩:=hsh
  obtain rfl:=hv5
  have HK2:=zC (HK1.out.trans k2)
  obtain⟨⟨y0,y1,y2,y3,y4,yl⟩,⟨x0,x1,x2,x3,xl⟩⟩:=HCF.out w2 (HK1A.out.trans k2).up
  have HK2A:=zC (HK1A.out.trans k2)
  clear k2 hr5 z0 z1 z2 z3 z4 zl u0 u1 u2 u3 ul
  rw [HN.out]
  go_wp2_with fail
  go_quiet (first | (go_at_call 32;refine (HI.out _ (by assumption) _).mono ?_;rintro e w' ⟨rfl,rfl⟩;exact⟨rfl,_,rfl⟩))
  obtain⟨wq,hwq⟩:∃ wq,w2.drewN nq=wq:=⟨_,rfl⟩
  rw [hwq]
  have kq:Kz w2 wq:=by rw [← hwq];exact (zA.refl _ _).drewN _
  obtain⟨⟨z0,z1,z2,z3,z4,zl⟩,⟨u0,u1,u2,u3,ul⟩⟩:=HCF.out wq (HK2A.out.trans kq).up
  have HKQ:=zC (HK2.out.trans kq)
  have HKQA:=zC (HK2A.out.trans kq)
  clear hwq kq y0 y1 y2 y3 y4 yl x0 x1 x2 x3 xl HK2 HK2A
  go_wp2_with fail
  go_quiet (fail)
  obtain⟨wz,hwz⟩:∃ wz,wq.drewN nq=wz:=⟨_,rfl⟩
  rw [hwz]
  have kq:Kz wq wz:=by rw [← hwz];exact (zA.refl _ _).drewN _
  obtain⟨⟨y0,y1,y2,y3,y4,yl⟩,⟨x0,x1,x2,x3,xl⟩⟩:=HCF.out wz (HKQA.out.trans kq).up
  have HK2:=zC (HKQ.out.trans kq)
  have HK2A:=zC (HKQA.out.trans kq)
  clear hwz kq z0 z1 z2 z3 z4 zl u0 u1 u2 u3 ul HKQ HKQA
  go_wp2_with fail
  clear y0 y1 y2 y3 y4 yl x0 x1 x2 x3 xl hki hlt'
  go_loopw [23] (fun ix wr=>∃ i:Nat,i≤N+1∧ix = .int .i64 i∧Hid (Pair w0 wr p a m b c LA LM (Col.steps RB k f i).1 (Col.steps RB k f i).2)∧Hid (PKeep wA wr p (zV LA LM b c k.s))) (fun ix _=>N+1 - (intOf ix).toNat)
  case atStart=>exact⟨0,Nat.zero_le _,rfl,zC (HPW.out _ HK2.out),zC ((HPW.out _ HKA.out).keep0 (ft:=zV LA LM b c k.s) (HK2A.out.mono (fun _ _ h=>h.elim)) HPF.out)⟩
  case round=>
   obtain⟨i,hi,rfl,HPi,HKi⟩:=hrel
   obtain⟨z0,z1,z2,z3,z4,zl⟩:=cells5 (HBLK.out _ HKi.out)
   have hNt:=HNT.out
   by_cases hle:i≤N
   ·have hle':(i:Int)≤(N:Int):=by omega
    have hi0:(0:Int)≤i:=by omega
    obtain⟨g1,g2,g3,g4⟩:=Col.steps_ok HOK.out RB f i
    have HS1:=zC (HST.out _ _ _ HPi.out g1 (by have:=Col.cy_le g1;have:=HB.out;omega) (by have:=HL.out;omega))
    have HL1:=zC (foot3_like (LA:=LA) (LM:=LM) (b:=b) (c:=c) g2)
    clear g1 g2 g3 g4
    go_wp2_with fail
    refine HS1.out.mono ?_
    rintro e w5 ⟨rfl,hp5,hk5⟩
    rw [HL1.out] at hk5
    have HP5:=zC hp5;have HK5:=zC (HKi.out.trans hk5)
    clear hp5 hk5 z0 z1 z2 z3 z4 zl
    go_wp2_with fail
    exact⟨⟨i+1,by omega,by go_num,HP5,HK5⟩,by simp [intOf];omega⟩
   ·have hle':¬ (i:Int)≤(N:Int):=by omega
    obtain rfl:i=N+1:=by omega
    go_wp2_with fail
    go_end0
    exact⟨rfl,HPi.out,(HPK0.out _ HKA.out).trans HKi.out⟩
variable {w0 w w':World} {p a m b c:Nat} {LA:ArL} {LM:MkL} {k:Col} {f:List Rf}
theorem pturn (x:Mv) (h:Pair w0 w p a m b c LA LM k f) (hok:k.Ok) (hx:x.Byte) (hb:k.C.begun+100<4611686018427387904) (hl:f.length+100≤100000):
 Calls Tryz.prog 12 #[.pointer (some ⟨p,0,none⟩),x.val] w fun e w'=>e = .returned (.tuple #[])∧Pair w0 w' p a m b c LA LM (x.turn26 k f).1 (x.turn26 k f).2∧PKeep w w' p (zV LA LM b c k.s):=by
 have hlt:=Nat.mod_lt x.kind (show 0<16 by omega)
 by_cases h10:x.kind % 16<10
 ·have e:x.turn26 k f=(⟨(x.mo26 k.s).doR k.s,k.C⟩,f):=by unfold Mv.turn26;rw [if_pos h10]
  rw [e]
  obtain hk | hk | hk | hk | hk | hk:(x.kind % 16=0∨x.kind % 16=1)∨x.kind % 16=2∨(x.kind % 16=3∨x.kind % 16=4∨x.kind % 16=5)∨x.kind % 16=6∨(x.kind % 16=7∨x.kind % 16=8)∨x.kind % 16=9:=by omega
  ·exact turn_make x h hok hx hk
  ·exact turn_plain x _ h hok hx (by omega) (.inr (.inl ⟨hk,rfl⟩))
  ·exact turn_store x h hok hx hk
  ·exact turn_plain x _ h hok hx (by omega) (.inl ⟨hk,rfl⟩)
  ·exact turn_put x h hok hx hk
  ·exact turn_plain x _ h hok hx (by omega) (.inr (.inr (.inl ⟨hk,rfl⟩)))
 by_cases h12:x.kind % 16<12
 ·have e:x.turn26 k f=(⟨⟨k.s.A,(k.s.M.ackR k.s.A (x.m % k.s.M.K.many:Nat)).M⟩,k.C⟩,f):=by unfold Mv.turn26;rw [if_neg h10,if_pos h12]
  rw [e]
  exact turn_plain x _ h hok hx (by omega) (.inr (.inr (.inr (.inr ((show (x.kind:Int) % 16=10∨(x.kind:Int) % 16=11 by omega).imp (fun e=>⟨e,rfl⟩) (fun e=>⟨e,rfl⟩))))))
 by_cases h12':x.kind % 16=12
 ·have e:x.turn26 k f=(k.askR.1,f):=by unfold Mv.turn26;rw [if_neg h10,if_neg h12,if_pos h12']
  rw [e]
  exact turn_plain x _ h hok hx (by omega) (.inr (.inr (.inr (.inl ⟨h12',rfl⟩))))
 ·have e:x.turn26 k f=Col.steps (decide (64≤x.b)) k f (x.a % 8+1):=by unfold Mv.turn26;rw [if_neg h10,if_neg h12,if_neg h12']
  rw [e]
  exact turn_step x h hok hx (by omega) hb hl
theorem turn26_ok (x:Mv) (hok:k.Ok) (f:List Rf):(x.turn26 k f).1.Ok∧k.Like (x.turn26 k f).1∧(x.turn26 k f).1.C.begun≤k.C.begun+8∧(x.turn26 k f).2.length≤f.length+8:=by
 have hm:=hok.s.m.k1
 have hx8:=Nat.mod_lt x.a (show 0<8 by omega)
 unfold Mv.turn26
 split
 ·obtain⟨h1,h2⟩:=Col.mo_ok hok (x.mo26 k.s) (by rw [Mv.mo26_who,hok.s.k];exact Nat.mod_lt _ (by omega))
  exact⟨h1,h2,Nat.le_add_right _ _,Nat.le_add_right _ _⟩
 split
 ·obtain⟨h1,h2⟩:=Col.ack_ok hok (x.m % k.s.M.K.many:Nat)
  exact⟨h1,h2,Nat.le_add_right _ _,Nat.le_add_right _ _⟩
 split
 ·obtain⟨h1,h2⟩:=Col.ask_ok hok
  refine⟨h1,h2,?_,Nat.le_add_right _ _⟩
  unfold Col.askR
  split
  ·show k.C.begun+1≤_;omega
  ·show k.C.begun≤_;omega
 ·obtain⟨h1,h2,h3,h4⟩:=Col.steps_ok hok (decide (64≤x.b)) f (x.a % 8+1)
  exact⟨h1,h2,by omega,by omega⟩
end Go.Proofs.YtjfmagccmjdhoaaGreat
namespace Go.Proofs.YtjfmagccmjdhoaaGreat
open Go.RowKit
section
variable {F F':Nat→Prop} {w0 w w':World} {a m x y qq b z t:Nat} {LA:ArL} {LM:MkL} {A:Ar} {M:Mk} {k k':Col} {f f':List Rf}
theorem CcTo.c {room:Nat} {R:CyRes} (h:CcTo F w0 w a m LA LM x y A M qq b z room R):Calls Tryz.prog 55 #[.pointer (some ⟨z,0,none⟩),.pointer (some ⟨x,0,none⟩),.int .i64 room] w fun e w'=>e = .returned (.tuple #[R.r.val,.bool R.is,.int .i64 0])∧Dc F w0 w' a m LA LM x y A M qq b z R.c∧zA (Dt w w0.heap.size) w w':=h
theorem Col.steps_nn (h:k.Nn) (room:Bool) (f:List Rf):∀ i,(Col.steps room k f i).1.Nn
 | 0=>h
 | i+1=>Col.step_nn (Col.steps_nn h room f i) room
theorem steps_s (room:Bool) (k:Col) (f:List Rf) (i:Nat):Col.steps room k f (i+1)=(((Col.steps room k f i).1.stepR room).c,((Col.steps room k f i).1.stepR room).more (Col.steps room k f i).2):=rfl
def TwE (F:Nat→Prop) (w0 w w':World) (a m:Nat) (LA:ArL) (LM:MkL) (x y:Nat) (A:Ar) (M:Mk) (qq b z t:Nat) (k':Col) (f':List Rf):Prop:=∃ F',(∀ v,F v→F' v)∧Tn F' w0 w' a m LA LM x y A M qq b z t k' f'∧TKeep w w' w0.heap.size t
theorem tw_step (u:Mv) (h:Tn F w0 w a m LA LM x y A M qq b z t k f) (hok:k.Ok) (hnv:k.Nn) (hu:u.Byte) (hki:(u.kind:Int) % 16=13∨(u.kind:Int) % 16=14∨(u.kind:Int) % 16=15) (hb:k.C.begun+100<4611686018427387904) (hl:f.length+100≤100000):
 Calls Tryz.prog 13 #[.pointer (some ⟨t,0,none⟩),u.val] w fun e w'=>e = .returned (.tuple #[])∧TwE F w0 w w' a m LA LM x y A M qq b z t (Col.steps (decide (64≤u.b)) k f (u.a % 8+1)).1 (Col.steps (decide (64≤u.b)) k f (u.a % 8+1)).2:=by
 unfold TwE
 have HH:=zC h;have HB:=zC hb;have HL:=zC hl;have HNV:=zC hnv
 have htl:t<w.heap.size:=by obtain⟨_,⟨v,h1,_⟩,_⟩:=h;exact zF h1
 have HRW:=zC (fun W (hk:Kz w W) (v:Value) (hv:W.cell? ⟨t,2,none⟩=some v)=>(show v.ownBlock≠some w.heap.size from by
  obtain⟨_,⟨v3,h1,h2,_⟩,_⟩:=id h
  have e3:=zD (i:=2) (zB h1 hk (fun h=>h)) rfl
  rw [hv] at e3
  obtain rfl:=Option.some.inj e3
  intro e5
  have:=(h2.lt _ e5).2
  omega))
 clear hb hl hnv
 have hmany:=hok.s.m.k1;have hm4:=hok.s.m.k4
 obtain⟨hb0,hb1,hb2,hb3,hb4⟩:=hu
 have hz:¬ (k.s.M.K.many:Int)=0:=by omega
 obtain⟨mk,hmk⟩:∃ mk,u.m % k.s.M.K.many=mk:=⟨_,rfl⟩
 have hmkl:mk<k.s.M.K.many:=by rw [← hmk];exact Nat.mod_lt _ (by omega)
 have HMOD:=zC (show (u.m:Int) % (k.s.M.K.many:Int)=(mk:Int) by rw [← hmk];simp)
 obtain⟨n,hn⟩:∃ n,(k.s.A.rt mk).l.length=n:=⟨_,rfl⟩
 have hn2:(k.s.A.rt mk).n=n:=by rw [← hn];simp [Sk.l]
 obtain⟨wA,hwA⟩:∃ wA,w.alloc (.cells #[.int .u8 u.kind,.int .u8 u.m,.int .u8 u.a,.int .u8 u.b,.int .u8 u.c] 42)=wA:=⟨_,rfl⟩
 have kA:Kz w wA:=by rw [← hwA];exact (zA.refl _ _).alloc _
 have qA:wA.heap[w.heap.size]?=some (.cells #[.int .u8 u.kind,.int .u8 u.m,.int .u8 u.a,.int .u8 u.b,.int .u8 u.c] 42):=by rw [← hwA];exact zE
 obtain⟨v,hown,_,_⟩:=h.ex
 have HCF:=zC (fun W (hk:zA (Dt wA w0.heap.size) wA W)=>And.intro (cells5 (Dt.block hk qA (by decide))) (qB (Dt.block hk (zB hown kA (fun h=>h)) (by decide))))
 have HSZ:=zC (fun W (hk:Kz w W)=>(h.dc.quiet hk).wk.sizes)
 have HSA:=zC (fun W (hk:Kz w W)=>(h.dc.quiet hk).wk.stack mk (by rw [hok.s.k];exact hmkl))
 rw [hok.s.n,hok.s.k] at HSZ
 have HQU:=zC (fun W (hk:Kz w W)=>h.dc.quiet hk)
 have HI:=zC (fun (q:Nat) (hq:q<256) W=>index26 q n W hq)
 have hw0:=zF qA
 have HKA:=zC kA;have HWA:=zC hwA;have HN:=zC hn;have HOK:=zC hok;have HMK:=zC hmk;have HN2:=zC hn2;have HMKL:=zC hmkl
 obtain⟨⟨y0,y1,y2,y3,y4,yl⟩,⟨x0,x1,x2,xl⟩⟩:=HCF.out wA (zA.refl _ _)
 clear hn hn2 hmk kA hwA qA hown h hok hmkl hmany
 have HBLK:=zC (fun W (hpk:TKeep wA W w0.heap.size t)=>cells5 (hpk.block (show wA.heap[w.heap.size]?=some (.cells #[.int .u8 u.kind,.int .u8 u.m,.int .u8 u.a,.int .u8 u.b,.int .u8 u.c] 42) by rw [← HWA.out];exact zE) (by decide) (by omega) (HRW.out wA HKA.out)))
 obtain⟨N,hN⟩:∃ N,u.a % 8=N:=⟨_,rfl⟩
 have hN8:N<8:=by omega
 have hNt:(u.a:Int).tmod 8=(N:Int):=by rw [Int.tmod_eq_emod_of_nonneg (by omega),← hN];simp
 have hNe:(u.a:Int) % 8=(N:Int):=by rw [← hN];simp
 rw [hN]
 have HNT:=zC hNt;have HNE:=zC hNe
 clear hN hNt hNe htl
 obtain⟨R,RB,hrb,hrb2,hR⟩:∃ (R:Nat) (RB:Bool),decide (64≤u.b)=RB∧decide (0<R)=RB∧((R=0∧decide ((u.b:Int)<64)=true)∨(R=1∧decide ((u.b:Int)<64)=false)):=by
  by_cases hlt:u.b<64
  ·exact⟨0,false,by simp;omega,by simp,.inl ⟨rfl,by simpa using (by omega:(u.b:Int)<64)⟩⟩
  ·exact⟨1,true,by simp;omega,by simp,.inr ⟨rfl,by simpa using (by omega:¬ (u.b:Int)<64)⟩⟩
 rw [hrb]
 have hR4:R<4611686018427387904:=by omega
 have HS0:=zC (fun W F4 D (hq:Dc F4 w0 W a m LA LM x y A M qq b z D) (g1:D.Ok) (g5:D.Nn) (g6:D.C.begun<4611686018427387904) (g7:D.s.M.K.cy<4611686018427387904)=>(ccstep hq g1 g5 g6 g7 R hR4).c)
 rw [hrb2] at HS0
 clear hrb hrb2 hR4
 rcases hR with⟨rfl,hlt'⟩ | ⟨rfl,hlt'⟩ <;> rcases hki with hki | hki | hki
 all_goals
  unfold Mv.val
  go_in
  go_upto_region 1 with (fail)
  rw [HWA.out]
  go_wp2_with fail
  refine zQ (HSZ.out _ HKA.out) fun w1 k1=>?_
  have HK1:=zC (HKA.out.trans k1)
  obtain⟨⟨z0,z1,z2,z3,z4,zl⟩,⟨u0,u1,u2,ul⟩⟩:=HCF.out w1 k1.up
  have HK1A:=zC k1
  clear k1 y0 y1 y2 y3 y4 yl x0 x1 x2 xl
  go_wp2_with fail
  rw [HMOD.out]
  refine (HSA.out _ HK1.out).mono ?_
  rintro e w2 ⟨v5,rfl,hr5,k2⟩
  have hsh:=zW hr5
  obtain⟨p5,c5,hv5⟩:=hsh
  obtain rfl:=hv5
  have HK2:=zC (HK1.out.trans k2)
  obtain⟨⟨y0,y1,y2,y3,y4,yl⟩,⟨x0,x1,x2,xl⟩⟩:=HCF.out w2 (HK1A.out.trans k2).up
  have HK2A:=zC (HK1A.out.trans k2)
  clear k2 hr5 z0 z1 z2 z3 z4 zl u0 u1 u2 ul
  rw [HN.out]
  go_wp2_with fail
  go_quiet (first | (go_at_call 32;refine (HI.out _ (by assumption) _).mono ?_;rintro e w' ⟨rfl,rfl⟩;exact⟨rfl,_,rfl⟩))
  obtain⟨wq,hwq⟩:∃ wq,w2.drewN nq=wq:=⟨_,rfl⟩
  rw [hwq]
  have kq:Kz w2 wq:=by rw [← hwq];exact (zA.refl _ _).drewN _
  obtain⟨⟨z0,z1,z2,z3,z4,zl⟩,⟨u0,u1,u2,ul⟩⟩:=HCF.out wq (HK2A.out.trans kq).up
  have HKQ:=zC (HK2.out.trans kq)
  have HKQA:=zC (HK2A.out.trans kq)
  clear hwq kq y0 y1 y2 y3 y4 yl x0 x1 x2 xl HK2 HK2A
  go_wp2_with fail
  go_quiet (fail)
  obtain⟨wz,hwz⟩:∃ wz,wq.drewN nq=wz:=⟨_,rfl⟩
  rw [hwz]
  have kq:Kz wq wz:=by rw [← hwz];exact (zA.refl _ _).drewN _
  obtain⟨⟨y0,y1,y2,y3,y4,yl⟩,⟨x0,x1,x2,xl⟩⟩:=HCF.out wz (HKQA.out.trans kq).up
  have HK2:=zC (HKQ.out.trans kq)
  have HK2A:=zC (HKQA.out.trans kq)
  clear hwz kq z0 z1 z2 z3 z4 zl u0 u1 u2 ul HKQ HKQA
  go_wp2_with fail
  clear y0 y1 y2 y3 y4 yl x0 x1 x2 xl hlt' hki
  go_loopw [23] (fun ix wr=>∃ (i:Nat) (F2:Nat→Prop),i≤N+1∧ix = .int .i64 i∧Hid (∀ v,F v→F2 v)∧Hid (Tn F2 w0 wr a m LA LM x y A M qq b z t (Col.steps RB k f i).1 (Col.steps RB k f i).2)∧Hid (TKeep wA wr w0.heap.size t)) (fun ix _=>N+1 - (intOf ix).toNat)
  case atStart=>exact⟨0,F,Nat.zero_le _,rfl,zC (fun _ h=>h),zC (HH.out.quiet HK2.out),zC ((HH.out.quiet HKA.out).keep HK2A.out.up)⟩
  case round=>
   obtain⟨i,F2,hi,rfl,HFi,HTi,HKi⟩:=hrel
   obtain⟨z0,z1,z2,z3,z4,zl⟩:=HBLK.out _ HKi.out
   have hNt:=HNT.out
   by_cases hle:i≤N
   ·have hle':(i:Int)≤(N:Int):=by omega
    have hi0:(0:Int)≤i:=by omega
    obtain⟨g1,g2,g3,g4⟩:=Col.steps_ok HOK.out RB f i
    have g5:=Col.steps_nn HNV.out RB f i
    have HSS:=zC (steps_s RB k f i)
    obtain⟨D,hD⟩:∃ D,(Col.steps RB k f i).1=D:=⟨_,rfl⟩
    obtain⟨G,hG⟩:∃ G,(Col.steps RB k f i).2=G:=⟨_,rfl⟩
    rw [hD] at g1 g3 g5
    rw [hG] at g4
    rw [hD,hG] at HSS HTi
    have HS1:=zC (fun W F4 (hq:Dc F4 w0 W a m LA LM x y A M qq b z D)=>HS0.out W F4 D hq g1 g5 (by have:=HB.out;omega) (by have:=Col.cy_le g1;have:=HB.out;omega))
    have hgl:G.length≤10000+90000:=by have:=HL.out;omega
    obtain⟨R,hR⟩:∃ R,D.stepR RB=R:=⟨_,rfl⟩
    rw [hR] at HS1 HSS
    obtain⟨Rc,rr,is⟩:=R
    obtain⟨hdc,⟨v,hown,hrow,hrF⟩,htl⟩:=id HTi.out
    have HSQ:=zC (fun W (hk:zA (Dt wr w0.heap.size) wr W)=>show W.cell? ⟨t,1,none⟩=some (.pointer (some ⟨z,0,none⟩))∧W.cell? ⟨t,0,none⟩=some (.pointer (some ⟨x,0,none⟩)) from⟨zD (Dt.block hk hown (by decide)) rfl,zD (Dt.block hk hown (by decide)) rfl⟩)
    have HD2:=zC (Dc.new (F':=fun v=>F2 v∨v=wr.heap.size) hdc ((zA.refl (fun _=>False) wr).alloc (.cells #[.int .i64 0,.int .u32 0] 51)) (fun v hv=>hv.imp id (fun e=>⟨Nat.le_of_eq e.symm,by rw [e];exact zF zE⟩)))
    have HDC:=zC hdc;have HOW:=zC hown;have HRW:=zC hrow;have HRF:=zC hrF;have HTL:=zC htl;have HGL:=zC hgl
    have hwz:=(Fo.du hdc.fd).kp.size
    have HLW:=zC hwz
    clear g1 g2 g3 g4 g5 hD hG hR hdc hown hrow hrF htl hgl
    go_upto_region 13 with (fail)
    clear z0 z1 z2 z3 z4 zl
    go_cut [23,24,25,26] from 73 to 105 (fun s23 s24 s25 s26 wx=>s23 = .int .i64 i∧∃ (B:Nat) (F3:Nat→Prop),s24 = .pointer (some ⟨B,0,none⟩)∧s25 = .bool is∧s26 = .int .i64 0∧wx.heap[B]?=some (.cells #[.int .i64 rr.s,.int .u32 rr.g] 51)∧(∀ v,F2 v→F3 v)∧Dc F3 w0 wx a m LA LM x y A M qq b z Rc∧zA (Dt wr w0.heap.size) wr wx)
    case first=>
     go_region_held3 (fun W=>W.cell? ⟨t,1,none⟩=some (.pointer (some ⟨z,0,none⟩))∧W.cell? ⟨t,0,none⟩=some (.pointer (some ⟨x,0,none⟩)))
      ((refine HSQ.out _ ?_;(with_reducible repeat first | exact zA.refl _ _ | refine zA.alloc ?_ _ | refine zA.drew ?_ | refine zA.setCell ?_ (.inr ?_) _ | refine Dt.trans ?_ (by with_reducible assumption)) <;> (dsimp only;omega)))
      (first | (go_at_call 55;(first | refine (HS1.out _ _ (HD2.out.quiet (zA.refl _ _).drew)).mono ?_ | refine (HS1.out _ _ (HDC.out.quiet (zA.refl _ _).drew)).mono ?_);rintro e w5 ⟨rfl,hq5,hk5⟩;dsimp only [Rf.val];have hks:=hk5.size;(first | (have nb:=Dt.block hk5 (show (World.drew (wr.alloc (.cells #[.int .i64 0,.int .u32 0] 51))).heap[wr.heap.size]?=_ from zE) (by decide);have nx:=zK nb;obtain⟨n0,n1,nf,nl⟩:=nx;have nf0:=nf 0;have nf1:=nf 1) | skip)))
     all_goals
      go_wp2_with fail
      go_meet
      first
       | exact⟨rfl,w5.heap.size,F2,rfl,rfl,rfl,zE,fun _ h=>h,hq5.quiet ((zA.refl _ _).alloc _),(Dt.trans ((zA.refl (fun _=>False) wr).drew).up hk5).alloc _⟩
       | exact⟨rfl,wr.heap.size,fun v=>F2 v∨v=wr.heap.size,rfl,rfl,rfl,fin2 nb,fun _ h=>.inl h,hq5.box ((zJ _ _ _ _).trans (zJ _ _ _ _)) nb HLW.out (.inr rfl),kfin (Dt.trans (((zA.refl (fun _=>False) wr).alloc _).drew).up hk5) (Nat.le_refl _) _ _⟩
    case rest=>
    obtain⟨rfl,B,F3,rfl,rfl,rfl,hB,hF3,hdc,hkc⟩:=hcut
    obtain⟨y0,y1,yf,yl⟩:=zK hB
    have HOC:=zC (Dt.block hkc HOW.out (by decide));have HRC:=zC (HRW.out.dt hkc)
    have HF3:=zC hF3;have HDC3:=zC hdc;have HKC:=zC hkc
    have HKW:=zC (HTi.out.keep hkc)
    have hkz:=hkc.size
    have HR3:=zC (show ∀ g,v.ownBlock=some g→F3 g from fun g hg=>hF3 g (HRF.out g hg))
    clear hB hF3 hdc hkc yf
    rcases is with _ | _
    ·have HSN:=zC (show Col.steps RB k f (i+1)=(Rc,G) from HSS.out)
     go_wp2_with fail
     refine⟨⟨i+1,F3,by omega,by go_num,zC (fun v hv=>HF3.out v (HFi.out v hv)),zC ?_,zC (HKi.out.trans HKW.out)⟩,by simp [intOf];omega⟩
     rw [HSN.out]
     exact⟨HDC3.out,⟨v,HOC.out,HRC.out,HR3.out⟩,HTL.out⟩
    ·have HSN:=zC (show Col.steps RB k f (i+1)=(Rc,G ++ [rr]) from HSS.out)
     obtain⟨e0,e1,e2,el⟩:=qB HOC.out
     have ff2:=zL HOC.out 2
     have hrl:=HRC.out.lt
     have hl:=HGL.out
     have HNP:=zC (HRC.out.not_twin HOC.out)
     have HZ:=zC (show w0.heap.size≤wc.heap.size by have:=HLW.out;omega)
     have HKZ:=zC hkz
     go_wp2_with fail
     go_region_law (first
      | (refine step_append_refs _ (by rfl) _ _ (by rfl) w0.heap.size v (.slice (some ⟨_,0,none⟩) 1 1) G [rr] (by rfl) (by rfl) (HRC.out.keeps (S:=fun _=>False) zA.r (fun _ _ _ _ h=>h)) (refs_one zE) (by simp;omega) (Nat.le_trans HZ.out (zA.size (S:=fun _=>False) zA.r)) wc.heap.size (zA.size (S:=fun _=>False) zA.r) ?_;intro v' w5 hrow5 hk5 ho5;have hsh:=zW hrow5;obtain⟨p',cap',hv'⟩:=hsh;obtain rfl:=hv';have hk6:zA (fun y=>v.ownBlock=some y) wc w5:=zA.trans zA.r hk5;have q5:=zB HOC.out hk6 HNP.out;have ff5:=zL q5 2;have x5:=zD (i:=2) q5 rfl;have l5:=zF q5))
     all_goals
      go_wp2_with fail
      have hln:(G ++ [rr]).length=G.length+1:=by simp
      rw [hln] at hrow5 ho5
      have ks:=zJ w5 t 2 (.slice p' (G.length+1) cap')
      refine⟨⟨i+1,fun g=>F3 g∨(Value.slice p' (G.length+1) cap').ownBlock=some g,by omega,by go_num,zC (fun v hv=>.inl (HF3.out v (HFi.out v hv))),zC ?_,zC (HKi.out.trans (HKW.out.trans ?_))⟩,by simp [intOf];omega⟩
      ·rw [HSN.out]
       exact⟨(HDC3.out.app HRC.out HR3.out hk6 ho5 (fun g hg=>(hrow5.lt g hg).2)).twin q5 HTL.out ks,⟨_,(zH q5 2 _).trans rfl,hrow5.keeps ks (fun y _ _ hy e=>hrow5.not_twin q5 (hy.trans (congrArg some e))),fun g hg=>.inr hg⟩,HTL.out⟩
      ·exact⟨v,.slice p' (G.length+1) cap',zD (i:=2) HOC.out rfl,zD (i:=2) (zH q5 2 _) rfl,(hk6.mono (T:=fun y=>(Dt wc w0.heap.size y∨y=t)∨v.ownBlock=some y) (fun _ _ h=>.inr h)).trans' ks (fun _ _ h=>h) (fun y _ h=>.inl (.inr h)),ho5⟩
   ·have hle':¬ (i:Int)≤(N:Int):=by omega
    obtain rfl:i=N+1:=by omega
    go_wp2_with fail
    go_end0
    exact⟨rfl,F2,HFi.out,HTi.out,(HH.out.keep HKA.out.up).trans HKi.out⟩
theorem TwTo.e {u:Mv} (h:Tn F w0 w a m LA LM x y A M qq b z t k f) (hc:TwTo F w0 w a m LA LM x y A M qq b z t u k'):Calls Tryz.prog 13 #[.pointer (some ⟨t,0,none⟩),u.val] w fun e w'=>e = .returned (.tuple #[])∧TwE F w0 w w' a m LA LM x y A M qq b z t k' f:=by
 unfold TwTo at hc
 refine hc.mono ?_
 rintro e w' ⟨rfl,h1,h2⟩
 exact⟨rfl,F,fun _ h=>h,h.fin h1 h2,h.keep h2⟩
theorem twturn (u:Mv) (h:Tn F w0 w a m LA LM x y A M qq b z t k f) (hok:k.Ok) (hnv:k.Nn) (hu:u.Byte) (hb:k.C.begun+100<4611686018427387904) (hl:f.length+100≤100000):
 Calls Tryz.prog 13 #[.pointer (some ⟨t,0,none⟩),u.val] w fun e w'=>e = .returned (.tuple #[])∧TwE F w0 w w' a m LA LM x y A M qq b z t (u.turn26 k f).1 (u.turn26 k f).2:=by
 have hlt:=Nat.mod_lt u.kind (show 0<16 by omega)
 by_cases h10:u.kind % 16<10
 ·have e:u.turn26 k f=(⟨(u.mo26 k.s).doR k.s,k.C⟩,f):=by unfold Mv.turn26;rw [if_pos h10]
  rw [e]
  refine TwTo.e h ?_
  obtain hk | hk | hk | hk | hk | hk:(u.kind % 16=0∨u.kind % 16=1)∨u.kind % 16=2∨(u.kind % 16=3∨u.kind % 16=4∨u.kind % 16=5)∨u.kind % 16=6∨(u.kind % 16=7∨u.kind % 16=8)∨u.kind % 16=9:=by omega
  ·exact tw_make u h hok hu hk
  ·exact tw_load u h hok hu hk
  ·exact tw_store u h hok hu hk
  ·exact tw_drop u h hok hu hk
  ·exact tw_put u h hok hu hk
  ·exact tw_get u h hok hu hk
 by_cases h12:u.kind % 16<12
 ·have e:u.turn26 k f=(⟨⟨k.s.A,(k.s.M.ackR k.s.A (u.m % k.s.M.K.many:Nat)).M⟩,k.C⟩,f):=by unfold Mv.turn26;rw [if_neg h10,if_pos h12]
  rw [e]
  exact TwTo.e h (tw_ack u h hok hu (by omega))
 by_cases h12':u.kind % 16=12
 ·have e:u.turn26 k f=(k.askR.1,f):=by unfold Mv.turn26;rw [if_neg h10,if_neg h12,if_pos h12']
  rw [e]
  exact TwTo.e h (tw_ask u h hok hu (by omega) (by omega))
 ·have e:u.turn26 k f=Col.steps (decide (64≤u.b)) k f (u.a % 8+1):=by unfold Mv.turn26;rw [if_neg h10,if_neg h12,if_neg h12']
  rw [e]
  exact tw_step u h hok hnv hu (by omega) hb hl
end
end Go.Proofs.YtjfmagccmjdhoaaGreat
