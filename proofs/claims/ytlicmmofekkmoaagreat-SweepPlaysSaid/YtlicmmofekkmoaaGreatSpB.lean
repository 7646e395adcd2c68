import Derived.Test.YtlicmmofekkmoaaGreatRiT
import Derived.Test.YtlicmmofekkmoaaGreatSpA
set_option maxHeartbeats 4000000
set_option maxRecDepth 100000
namespace Go.Proofs.YtlicmmofekkmoaaGreat
open Go.RowKit
set_option linter.unusedVariables false
set_option linter.unusedSimpArgs false
theorem D24.low {N N' m q:Nat} {w:World} {M:Mk} (h:D24 N w m M q) (hN:N'≤N):D24 N' w m M q:=by
 obtain⟨L,h1,lo⟩:=h
 exact⟨L,h1,⟨Nat.le_trans hN lo.m,Nat.le_trans hN lo.c,Nat.le_trans hN lo.p,Nat.le_trans hN lo.ps,Nat.le_trans hN lo.st,fun j hj=>Nat.le_trans hN (lo.bb j hj),fun j hj z hz=>Nat.le_trans hN (lo.bv j hj z hz)⟩⟩
section
variable {w0 w w':World} {a m x y qq:Nat} {LA:ArL} {LM:MkL} {A:Ar} {M:Mk} {s:Sys}
theorem FD.quiet (h:FD w0 w a m LA LM x y A M s qq) (hk:Keeps (fun _=>False) w w'):FD w0 w' a m LA LM x y A M s qq:=Fo.quiet h hk
theorem FD.kp (h:FD w0 w a m LA LM x y A M s qq):Keeps (fun _=>False) w0 w:=(Fo.du h).kp
theorem FD.ph (h:FD w0 w a m LA LM x y A M s qq):Calls Tryz.prog 35 #[.pointer (some ⟨y,0,none⟩)] w fun e w'=>e = .returned (.int .i64 s.M.K.ph)∧w'=w:=by
 obtain⟨L,h1,_⟩:=Fo.d h
 exact phase24R h1
theorem FD.en (h:FD w0 w a m LA LM x y A M s qq):Calls Tryz.prog 33 #[.pointer (some ⟨y,0,none⟩)] w fun e w'=>e = .returned (.bool (decide (4≤s.M.K.ph)))∧w'=w:=by
 obtain⟨L,h1,_⟩:=Fo.d h
 have:=ended24 h1
 rw [show decide (4≤(s.M.K.ph:Int))=decide (4≤s.M.K.ph) by congr 1;exact propext (by omega)] at this
 exact this
theorem FD.step (h:FD w0 w a m LA LM x y A M s qq) (hok:s.Ok) (hcy:s.M.K.cy<4611686018427387904):Calls Tryz.prog 34 #[.pointer (some ⟨y,0,none⟩),.pointer (some ⟨x,0,none⟩)] w
 fun e w'=>e = .returned (.int .i64 0)∧FD w0 w' a m LA LM x y A M s.step qq∧Keeps (Ft w w0.heap.size) w w':=
 (Fo.dstep h hok.m hok.n hok.k hcy).mono fun _ _ ⟨e1,e2,e3⟩=>⟨e1,e2,e3⟩
end
theorem madeRef25 (v:Value) (sx sy:Nat) (l mid:List Mv) {w0 w:World} {a m:Nat} {LA:ArL} {LM:MkL} {A:Ar} {M:Mk} (hd:Duo w0 w a m LA LM A M) (hv:SetupAt w0 v sx sy l mid):
 Calls Tryz.prog 5 #[v] w fun e w'=>∃ x y,e = .returned (.tuple #[.pointer (some ⟨x,0,none⟩),.pointer (some ⟨y,0,none⟩),.bool true])∧FD w0 w' a m LA LM x y A M (Sys.made (1+sx % 24) (1+sy % 2) l mid) 2∧Keeps (Ft w w0.heap.size) w w':=by
 obtain⟨hx,hy,v1,v2,rfl,hr1,hr2⟩:=hv
 obtain⟨a1,cap1,rfl,hc1,hc2,hr1⟩:=hr1
 obtain⟨a2,cap2,rfl,_,_,hr2⟩:=hr2
 have HROW1:=hid (show ∀ (i:Nat) (z:Mv),l[i]?=some z→∃ b2 o2,a1=some ⟨b2,o2,none⟩∧b2<w0.heap.size∧MvCell w0 b2 (o2+i * 5) z from fun i z hz=>by
  rcases hr1 with rfl | ⟨b2,o2,e,hb,hc⟩
  ·cases hz
  ·exact⟨b2,o2,e,hb,hc i z hz⟩)
 have HROW2:=hid (show ∀ (i:Nat) (z:Mv),mid[i]?=some z→∃ b2 o2,a2=some ⟨b2,o2,none⟩∧b2<w0.heap.size∧MvCell w0 b2 (o2+i * 5) z from fun i z hz=>by
  rcases hr2 with rfl | ⟨b2,o2,e,hb,hc⟩
  ·cases hz
  ·exact⟨b2,o2,e,hb,hc i z hz⟩)
 have HSZ:=hid (fun W=>sizes25 sx sy (.slice a1 l.length cap1) (.slice a2 mid.length cap2) W hx hy)
 obtain⟨n,hnn⟩:∃ n,1+sx % 24=n:=⟨_,rfl⟩
 obtain⟨ms,hmm⟩:∃ ms,1+sy % 2=ms:=⟨_,rfl⟩
 have hn24:1≤n∧n≤24:=by omega
 have hms4:1≤ms∧ms≤2:=by omega
 have hmx:maxLen=maxLen:=rfl
 rw [hnn,hmm] at HSZ
 rw [hnn,hmm]
 obtain⟨wB,hwB⟩:∃ wB,w.alloc (.cells #[.int .u8 sx,.int .u8 sy,.slice a1 l.length cap1,.slice a2 mid.length cap2] 24)=wB:=⟨_,rfl⟩
 have hkB:Keeps (fun _=>False) w wB:=by rw [← hwB];exact (Keeps.refl _ _).alloc _
 have hqB:wB.heap[w.heap.size]?=some (.cells #[.int .u8 sx,.int .u8 sy,.slice a1 l.length cap1,.slice a2 mid.length cap2] 24):=by rw [← hwB];exact alloc_new
 have HBX:=hid (fun W (hk:Keeps (Ft wB w0.heap.size) wB W)=>cells4 (Ft.block hk hqB (by decide)))
 have HKB:=hid hkB;have HDU:=hid (hd.same hkB)
 have hw0:=hd.kp.size
 have hbl0:=lt_block hqB
 obtain⟨z0,z1,z2,z3,_⟩:=cells4 hqB
 clear hr1 hr2 hqB hd
 go_enter Tryz.func5,Tryz.ntmps5
 go_wp2_with fail
 refine (HSZ.out _).mono ?_
 rintro e w1 ⟨rfl,hk1⟩
 have HK1:=hid hk1
 have hz1:=(HKB.out.trans hk1).size
 clear hk1 hwB z0 z1 z2 z3
 go_wp2_with fail
 refine (new18_ok (w:=w1) n ms 1 (by omega) (by omega) (by omega) (by omega) (by omega) (by omega)).mono ?_
 rintro e w2 ⟨x,LR,rfl,k2,lx,lhb,hr⟩
 have HK2:=hid k2;have HR:=hid hr
 have hz2:=k2.size
 clear k2 hr
 go_wp2_with fail
 refine (new24R n ms 2 2 w2 (by omega) (by omega) (by omega) (by omega) (by omega) (by omega) (by omega) (by omega)).mono ?_
 rintro e w3 ⟨y,rfl,k3,h24⟩
 have HD3:=hid (show FD w0 w3 a m LA LM x y A M (Sys.new n ms) 2 from
  ⟨((HDU.out.same HK1.out).same HK2.out).same k3,by omega,⟨LR,by omega,HR.out.k0 k3,fun _ _ _ _ h=>h⟩,h24.low (by omega)⟩)
 have HK3:=hid (show Keeps (Ft wB w0.heap.size) wB w3 from ((HK1.out.trans HK2.out).trans k3).up)
 obtain⟨z0,z1,z2,z3,hbl3⟩:=HBX.out _ HK3.out
 clear k3 h24 HR HK1 HK2 lx lhb hz1 hz2 HDU
 rcases Nat.lt_or_ge 60 l.length with h60 | h60
 ·have hm1:(60:Int)<(l.length:Int):=by omega
  have hN:(l.take 60).length=60:=by rw [List.length_take];omega
  go_wp2_with fail
  go_loopw [47] (fun ix wr=>∃ k:Nat,k≤60∧ix = .int .i64 k∧Hid (FD w0 wr a m LA LM x y A M ((Sys.new n ms).moves (l.take 60) ms k) 2)∧Hid (Keeps (Ft wB w0.heap.size) wB wr)) (fun ix _=>60 - (intOf ix).toNat)
  case atStart=>exact⟨0,Nat.zero_le _,rfl,HD3,HK3⟩
  case round=>
   clear HD3 HK3
   obtain⟨k,hk,rfl,HDK,HKK⟩:=hrel
   clear z0 z1 z2 z3
   have hnx:=Sys.moves_next (Sys.Ok.new (n:=n) (ms:=ms) (by omega) (by omega) (by omega) (by omega)) (l.take 60) ms k
   by_cases hlt:k<60
   ·obtain⟨z,hz⟩:∃ z,l[k]?=some z:=⟨_,List.getElem?_eq_getElem (by omega)⟩
    have hz2:(l.take 60)[k]?=some z:=by rw [List.getElem?_take,if_pos (by omega),hz]
    obtain⟨b2,o2,rfl,hb2,hzc⟩:=HROW1.out k z hz
    have hbl:=Nat.lt_of_lt_of_le hb2 HDK.out.kp.size
    obtain⟨hzb,g0,g1,g2,g3,g4⟩:=hzc.same (HDK.out.kp.block b2 hb2 (fun h=>h))
    have hlt':(k:Int)<(60:Int):=by omega
    have hk0:(0:Int)≤k:=by omega
    have HMS:=hid (show (Sys.new n ms).moves (l.take 60) ms (k+1)=z.doR ((Sys.new n ms).moves (l.take 60) ms k) ms by
     show (match (l.take 60)[k]? with | some x=>x.doR ((Sys.new n ms).moves (l.take 60) ms k) ms | none=>_)=_
     rw [hz2])
    have HDO:=hid (fun W (hk:Keeps (fun _=>False) wr W)=>mvref a m z ms _ W (HDK.out.quiet hk) hnx.ok (by omega) (by omega) hzb)
    clear hnx hz hz2 hzc hzb hb2
    go_wp2_with fail
    refine (HDO.out _ ((Keeps.refl _ _).alloc _)).mono ?_
    rintro e w9 ⟨rfl,hd9,hk9⟩
    have HD9:=hid hd9;have HK9:=hid (Ft.trans HKK.out (Ft.trans ((Keeps.refl (fun _=>False) wr).alloc _).up hk9))
    clear hd9 hk9
    go_wp2_with fail
    refine⟨⟨k+1,by omega,by go_num,hid ?_,HK9⟩,by simp [intOf];omega⟩
    rw [HMS.out];exact HD9.out
   ·obtain rfl:k=60:=by omega
    have hnl:¬ ((60:Nat):Int)<(60:Int):=by omega
    have HRES:=hid (show Sys.made n ms l mid=((Sys.new n ms).moves (l.take 60) ms 60).marked mid by unfold Sys.made;rw [hN])
    obtain⟨s,hs⟩:∃ s,(Sys.new n ms).moves (l.take 60) ms 60=s:=⟨_,rfl⟩
    rw [hs] at HDK HRES hnx
    have HOK:=hid (show s.Ok∧s.M.K.ph=0∧s.M.P.n=n∧s.M.K.many=ms∧s.M.K.cy=0 from⟨hnx.ok,by rw [hnx.K];rfl,hnx.n,by rw [hnx.K];rfl,by rw [hnx.K];rfl⟩)
    have HBG:=hid (Fo.dbegin HDK.out)
    clear hnx hs
    go_wp2_with fail
    refine HBG.out.mono ?_
    rintro e w4 ⟨rfl,hd4,hk4⟩
    have HD4:=hid (show FD w0 w4 a m LA LM x y A M (s.begun.rounds (mid.take 60) 0) 2 from hd4)
    have HK4:=hid (Ft.trans HKK.out hk4)
    clear hd4 hk4 HBG HDK HKK
    go_wp2_with fail
    go_loopw [13] (fun ix wr=>∃ i:Nat,ix = .int .i64 i∧Half s mid i∧Hid (FD w0 wr a m LA LM x y A M (s.begun.rounds (mid.take 60) i) 2)∧Hid (Keeps (Ft wB w0.heap.size) wB wr)) (fun ix _=>5+s.M.P.n - (intOf ix).toNat)
    case atStart=>exact⟨0,rfl,Half.zero HOK.out.1 HOK.out.2.1 mid,HD4,HK4⟩
    case round=>
     clear HD4 HK4
     obtain⟨i,rfl,hhalf,HD,HKR⟩:=hrel
     obtain⟨t,ht⟩:∃ t,s.begun.rounds (mid.take 60) i=t:=⟨_,rfl⟩
     have hmid:=hhalf.at'
     have htm:=hhalf.many
     have htc:=hhalf.cy
     have HLE:=hid hhalf.le
     have HDN:=hid hhalf.done
     have HNXT:=hid hhalf.next
     have hrgo:=@Sys.rounds_go s.begun (mid.take 60) i
     rw [ht] at HD hmid htm htc HLE HDN HNXT hrgo
     have HEN:=hid HD.out.en
     have hcy:t.M.K.cy<4611686018427387904:=by rw [htc,HOK.out.2.2.2.2];omega
     by_cases hph:4≤t.M.K.ph
     ·rw [show decide (4≤t.M.K.ph)=true by simpa using hph] at HEN
      obtain⟨hw,h4,hwok⟩:=HDN.out hph
      obtain⟨e1,e2,e3,e4⟩:=Sys.marked_of h4 hwok
      have HGO:=hid (Fo.dgo HD.out hmid.ok.m hcy)
      have e5:s.marked mid=⟨t.A,t.M.goR.1⟩:=by unfold Sys.marked;rw [hw]
      have e6:t.M.goR.2=0:=by rw [← hw];exact e4
      rw [e6] at HGO
      have HMR:=hid e5
      clear hmid htc htm hrgo hw e1 e2 e3 e4 e5 e6 h4 hwok hph ht hcy hhalf
      go_wp2_with fail
      refine (HEN.out).mono ?_
      rintro e w' ⟨rfl,h'⟩
      obtain rfl:=h'.symm
      go_wp2_with fail
      refine HGO.out.mono ?_
      rintro e w5 ⟨rfl,hd5,hk5⟩
      have HD5:=hid hd5;have HK5:=hid (Ft.trans HKR.out hk5)
      clear hd5 hk5
      go_wp2_with fail
      refine bodyPost_ret_by (v:=.tuple #[.pointer (some ⟨x,0,none⟩),.pointer (some ⟨y,0,none⟩),.bool true]) (by simp [results,Tryz.results5,go_sem, *]) rfl ⟨x,y,rfl,?_,Ft.trans HKB.out.up HK5.out⟩
      rw [HRES.out,HMR.out];exact HD5.out
     ·rw [show decide (4≤t.M.K.ph)=false by simpa using hph] at HEN
      have hph':t.M.K.ph<4:=by omega
      have HNX:=hid (HNXT.out hph')
      have HRG:=hid (hrgo hph')
      have hile:=HLE.out hph'
      have hsn0:s.M.P.n=n:=HOK.out.2.2.1
      have hsm0:s.M.K.many=ms:=HOK.out.2.2.2.1
      obtain⟨hso,hsm,hsn⟩:=Sys.step_next hmid.ok
      have HST:=hid (HD.out.step hmid.ok hcy)
      obtain⟨q,hq⟩:∃ q,(t.M.stepR t.A).K.ph=q:=⟨_,rfl⟩
      have HPH:=hid (fun W (hd:FD w0 W a m LA LM x y A M t.step 2)=>show Calls Tryz.prog 35 #[.pointer (some ⟨y,0,none⟩)] W fun e w'=>e = .returned (.int .i64 q)∧w'=W from by rw [← hq];exact hd.ph)
      have hstm:t.step.M.K.many=ms:=by rw [show t.step.M.K.many=(t.M.stepR t.A).K.many from rfl,hsm,htm,hsm0]
      obtain⟨ha1,ha2,ha3,ha4,ha5,_⟩:=Sys.answer_next hso
      have HUO:=hid ha1
      have HMS:=hid (show t.M.K.many=ms from htm.trans hsm0)
      have hnle:¬ (2 * (n:Int)+20<(i:Int)):=by omega
      clear hph hmid hrgo HLE HDN HNXT htc htm hcy hhalf
      by_cases hq12:q=1∨q=2
      ·have HANS:=hid (show t.step.answer=t.step.acks ms by unfold Sys.answer;rw [if_pos (by show (t.M.stepR t.A).K.ph=1∨(t.M.stepR t.A).K.ph=2;rw [hq];exact hq12),hstm])
       have HAN:=hid (fun k W (hd:FD w0 W a m LA LM x y A M (t.step.acks k) 2)=>show Calls Tryz.prog 36 #[.pointer (some ⟨y,0,none⟩),.pointer (some ⟨x,0,none⟩),.int .i64 k] W fun e w'=>e = .returned (.tuple #[.bool ((t.step.acks k).M.ackR (t.step.acks k).A k).is,.int .i64 ((t.step.acks k).M.ackR (t.step.acks k).A k).e])∧FD w0 w' a m LA LM x y A M (t.step.acks (k+1)) 2∧Keeps (Ft W w0.heap.size) W w' from by
        obtain⟨b1,b2,b3,b4,b5,b6,b7⟩:=Sys.acks_next hso k
        exact (Fo.dack hd b1.n b1.k k).mono (fun e w' ⟨h1,h2,h3⟩=>⟨h1,h2,h3⟩))
       have hq12':((q:Int) == 1)=true∨((q:Int) == 1)=false∧((q:Int) == 2)=true:=by
        rcases hq12 with rfl | rfl
        ·exact .inl rfl
        ·exact .inr ⟨rfl,rfl⟩
       clear hq12 hq
       rcases hq12' with hq1 | ⟨hq1,hq2⟩
       all_goals
        go_wp2_with fail
        refine (HEN.out).mono ?_
        rintro e w' ⟨rfl,h'⟩
        obtain rfl:=h'.symm
        go_wp2_with fail
        refine HST.out.mono ?_
        rintro e w3 ⟨rfl,hd3,hk3⟩
        have HD3:=hid hd3
        have HK3:=hid (Ft.trans HKR.out hk3)
        clear hd3 hk3
        go_wp2_with fail
        refine ((HPH.out _ HD3.out)).mono ?_
        rintro e w' ⟨rfl,h'⟩
        obtain rfl:=h'.symm
        obtain⟨wo,hwo⟩:∃ wo:World,wo=wr:=⟨_,rfl⟩
        subst hwo
        go_wp2_with fail
        go_loopw [84] (fun ix wr=>∃ k:Nat,k≤ms∧ix = .int .i64 k∧Hid (FD w0 wr a m LA LM x y A M (t.step.acks k) 2)∧Hid (Keeps (Ft wB w0.heap.size) wB wr)) (fun ix _=>ms - (intOf ix).toNat)
        case atStart=>exact⟨0,Nat.zero_le _,rfl,HD3,HK3⟩
        case round=>
         obtain⟨k,hk,rfl,HDK,HKK⟩:=hrel
         by_cases hlt:k<ms
         ·have hlt':(k:Int)<(ms:Int):=by omega
          have HA:=hid (HAN.out k _ HDK.out)
          go_wp2_with fail
          refine HA.out.mono ?_
          rintro e w4 ⟨rfl,hd4,hk4⟩
          have HD4:=hid hd4;have HK4:=hid (Ft.trans HKK.out hk4)
          clear hd4 hk4
          go_wp2_with fail
          exact⟨⟨k+1,by omega,by go_num,HD4,HK4⟩,by simp [intOf];omega⟩
         ·have hnl:¬ (k:Int)<(ms:Int):=by omega
          obtain⟨wu,hwu⟩:∃ wu:World,wu=wr:=⟨_,rfl⟩
          subst hwu
          have hkm:k=ms:=by omega
          have HU:=hid (show FD w0 wu a m LA LM x y A M t.step.answer 2 by rw [HANS.out,← hkm];exact HDK.out)
          have HKU:=HKK
          clear HKK HDK
          rcases Nat.lt_or_ge 60 mid.length with hm60 | hm60
          ·have hm1:(60:Int)<(mid.length:Int):=by omega
           by_cases him:i<60
           ·have hm2:(i:Int)<60:=by omega
            have hm3:(i:Int)<(mid.length:Int):=by omega
            have hme:(mid.take 60)[i]?=mid[i]?:=by rw [List.getElem?_take,if_pos him]
            obtain⟨z,hz⟩:∃ z,mid[i]?=some z:=⟨_,List.getElem?_eq_getElem (by omega)⟩
            obtain⟨b2,o2,rfl,hb2,hzc⟩:=HROW2.out i z hz
            have hbl:=Nat.lt_of_lt_of_le hb2 HU.out.kp.size
            obtain⟨hzb,g0,g1,g2,g3,g4⟩:=hzc.same (HU.out.kp.block b2 hb2 (fun h=>h))
            obtain⟨y0,y1,y2,y3,hblq⟩:=HBX.out _ HKU.out
            have HBY:=hid hzb
            have HRD:=hid (show t.round (mid.take 60) i=z.doR t.step.answer ms by unfold Sys.round;rw [hme,hz,HMS.out])
            have HDO:=hid (fun W (hk:Keeps (fun _=>False) wu W)=>mvref a m z ms t.step.answer W (HU.out.quiet hk) HUO.out (by omega) (by omega) HBY.out)
            clear hme hz hzc hzb hb2
            go_wp2_with fail
            refine (HDO.out _ (Keeps.refl _ _)).mono ?_
            rintro e w9 ⟨rfl,hd9,hk9⟩
            have HD9:=hid hd9;have HK9:=hid hk9
            clear hd9 hk9
            go_wp2_with fail
            refine⟨⟨i+1,by go_num,HNX.out,hid ?_,hid ?_⟩,by simp [intOf];omega⟩
            ·rw [HRG.out,HRD.out];exact HD9.out
            ·exact Ft.trans HKU.out HK9.out
           ·omega
          ·have hm1:¬ (60:Int)<(mid.length:Int):=by omega
           by_cases him:i<mid.length
           ·have hme:(mid.take 60)[i]?=mid[i]?:=by rw [List.take_of_length_le (by omega)]
            have hm2:(i:Int)<(mid.length:Int):=by omega
            obtain⟨z,hz⟩:∃ z,mid[i]?=some z:=⟨_,List.getElem?_eq_getElem (by omega)⟩
            obtain⟨b2,o2,rfl,hb2,hzc⟩:=HROW2.out i z hz
            have hbl:=Nat.lt_of_lt_of_le hb2 HU.out.kp.size
            obtain⟨hzb,g0,g1,g2,g3,g4⟩:=hzc.same (HU.out.kp.block b2 hb2 (fun h=>h))
            obtain⟨y0,y1,y2,y3,hblq⟩:=HBX.out _ HKU.out
            have HBY:=hid hzb
            have HRD:=hid (show t.round (mid.take 60) i=z.doR t.step.answer ms by unfold Sys.round;rw [hme,hz,HMS.out])
            have HDO:=hid (fun W (hk:Keeps (fun _=>False) wu W)=>mvref a m z ms t.step.answer W (HU.out.quiet hk) HUO.out (by omega) (by omega) HBY.out)
            clear hme hz hzc hzb hb2
            go_wp2_with fail
            refine (HDO.out _ (Keeps.refl _ _)).mono ?_
            rintro e w9 ⟨rfl,hd9,hk9⟩
            have HD9:=hid hd9;have HK9:=hid hk9
            clear hd9 hk9
            go_wp2_with fail
            refine⟨⟨i+1,by go_num,HNX.out,hid ?_,hid ?_⟩,by simp [intOf];omega⟩
            ·rw [HRG.out,HRD.out];exact HD9.out
            ·exact Ft.trans HKU.out HK9.out
           ·have hm2:¬ (i:Int)<(mid.length:Int):=by omega
            have hme:(mid.take 60)[i]?=none:=by rw [List.take_of_length_le (by omega),List.getElem?_eq_none (by omega)]
            have HRD:=hid (show t.round (mid.take 60) i=t.step.answer by unfold Sys.round;rw [hme])
            obtain⟨y0,y1,y2,y3,hblq⟩:=HBX.out _ HKU.out
            clear hme
            go_wp2_with fail
            refine⟨⟨i+1,by go_num,HNX.out,hid ?_,HKU⟩,by simp [intOf];omega⟩
            rw [HRG.out,HRD.out];exact HU.out
      ·have HANS:=hid (show t.step.answer=t.step by unfold Sys.answer;rw [if_neg (by show ¬ ((t.M.stepR t.A).K.ph=1∨(t.M.stepR t.A).K.ph=2);rw [hq];exact hq12)])
       have hq1:((q:Int) == 1)=false:=by simp;omega
       have hq2:((q:Int) == 2)=false:=by simp;omega
       clear hq12 hq
       go_wp2_with fail
       refine (HEN.out).mono ?_
       rintro e w' ⟨rfl,h'⟩
       obtain rfl:=h'.symm
       go_wp2_with fail
       refine HST.out.mono ?_
       rintro e w3 ⟨rfl,hd3,hk3⟩
       have HD3:=hid hd3
       have HK3:=hid (Ft.trans HKR.out hk3)
       clear hd3 hk3
       go_wp2_with fail
       refine ((HPH.out _ HD3.out)).mono ?_
       rintro e w' ⟨rfl,h'⟩
       obtain rfl:=h'.symm
       obtain⟨wu,hwu⟩:∃ wu,wu=w3:=⟨_,rfl⟩
       subst hwu
       have HU:=hid (show FD w0 wu a m LA LM x y A M t.step.answer 2 by rw [HANS.out];exact HD3.out)
       have HKU:=HK3
       clear HK3
       rcases Nat.lt_or_ge 60 mid.length with hm60 | hm60
       ·have hm1:(60:Int)<(mid.length:Int):=by omega
        by_cases him:i<60
        ·have hm2:(i:Int)<60:=by omega
         have hm3:(i:Int)<(mid.length:Int):=by omega
         have hme:(mid.take 60)[i]?=mid[i]?:=by rw [List.getElem?_take,if_pos him]
         obtain⟨z,hz⟩:∃ z,mid[i]?=some z:=⟨_,List.getElem?_eq_getElem (by omega)⟩
         obtain⟨b2,o2,rfl,hb2,hzc⟩:=HROW2.out i z hz
         have hbl:=Nat.lt_of_lt_of_le hb2 HU.out.kp.size
         obtain⟨hzb,g0,g1,g2,g3,g4⟩:=hzc.same (HU.out.kp.block b2 hb2 (fun h=>h))
         obtain⟨y0,y1,y2,y3,hblq⟩:=HBX.out _ HKU.out
         have HBY:=hid hzb
         have HRD:=hid (show t.round (mid.take 60) i=z.doR t.step.answer ms by unfold Sys.round;rw [hme,hz,HMS.out])
         have HDO:=hid (fun W (hk:Keeps (fun _=>False) wu W)=>mvref a m z ms t.step.answer W (HU.out.quiet hk) HUO.out (by omega) (by omega) HBY.out)
         clear hme hz hzc hzb hb2
         go_wp2_with fail
         refine (HDO.out _ (Keeps.refl _ _)).mono ?_
         rintro e w9 ⟨rfl,hd9,hk9⟩
         have HD9:=hid hd9;have HK9:=hid hk9
         clear hd9 hk9
         go_wp2_with fail
         refine⟨⟨i+1,by go_num,HNX.out,hid ?_,hid ?_⟩,by simp [intOf];omega⟩
         ·rw [HRG.out,HRD.out];exact HD9.out
         ·exact Ft.trans HKU.out HK9.out
        ·omega
       ·have hm1:¬ (60:Int)<(mid.length:Int):=by omega
        by_cases him:i<mid.length
        ·have hme:(mid.take 60)[i]?=mid[i]?:=by rw [List.take_of_length_le (by omega)]
         have hm2:(i:Int)<(mid.length:Int):=by omega
         obtain⟨z,hz⟩:∃ z,mid[i]?=some z:=⟨_,List.getElem?_eq_getElem (by omega)⟩
         obtain⟨b2,o2,rfl,hb2,hzc⟩:=HROW2.out i z hz
         have hbl:=Nat.lt_of_lt_of_le hb2 HU.out.kp.size
         obtain⟨hzb,g0,g1,g2,g3,g4⟩:=hzc.same (HU.out.kp.block b2 hb2 (fun h=>h))
         obtain⟨y0,y1,y2,y3,hblq⟩:=HBX.out _ HKU.out
         have HBY:=hid hzb
         have HRD:=hid (show t.round (mid.take 60) i=z.doR t.step.answer ms by unfold Sys.round;rw [hme,hz,HMS.out])
         have HDO:=hid (fun W (hk:Keeps (fun _=>False) wu W)=>mvref a m z ms t.step.answer W (HU.out.quiet hk) HUO.out (by omega) (by omega) HBY.out)
         clear hme hz hzc hzb hb2
         go_wp2_with fail
         refine (HDO.out _ (Keeps.refl _ _)).mono ?_
         rintro e w9 ⟨rfl,hd9,hk9⟩
         have HD9:=hid hd9;have HK9:=hid hk9
         clear hd9 hk9
         go_wp2_with fail
         refine⟨⟨i+1,by go_num,HNX.out,hid ?_,hid ?_⟩,by simp [intOf];omega⟩
         ·rw [HRG.out,HRD.out];exact HD9.out
         ·exact Ft.trans HKU.out HK9.out
        ·have hm2:¬ (i:Int)<(mid.length:Int):=by omega
         have hme:(mid.take 60)[i]?=none:=by rw [List.take_of_length_le (by omega),List.getElem?_eq_none (by omega)]
         have HRD:=hid (show t.round (mid.take 60) i=t.step.answer by unfold Sys.round;rw [hme])
         obtain⟨y0,y1,y2,y3,hblq⟩:=HBX.out _ HKU.out
         clear hme
         go_wp2_with fail
         refine⟨⟨i+1,by go_num,HNX.out,hid ?_,HKU⟩,by simp [intOf];omega⟩
         rw [HRG.out,HRD.out];exact HU.out
 ·have hm1:¬ (60:Int)<(l.length:Int):=by omega
  have hN:(l.take 60).length=l.length:=by rw [List.length_take];omega
  go_wp2_with fail
  go_loopw [47] (fun ix wr=>∃ k:Nat,k≤l.length∧ix = .int .i64 k∧Hid (FD w0 wr a m LA LM x y A M ((Sys.new n ms).moves (l.take 60) ms k) 2)∧Hid (Keeps (Ft wB w0.heap.size) wB wr)) (fun ix _=>l.length - (intOf ix).toNat)
  case atStart=>exact⟨0,Nat.zero_le _,rfl,HD3,HK3⟩
  case round=>
   clear HD3 HK3
   obtain⟨k,hk,rfl,HDK,HKK⟩:=hrel
   clear z0 z1 z2 z3
   have hnx:=Sys.moves_next (Sys.Ok.new (n:=n) (ms:=ms) (by omega) (by omega) (by omega) (by omega)) (l.take 60) ms k
   by_cases hlt:k<l.length
   ·obtain⟨z,hz⟩:∃ z,l[k]?=some z:=⟨_,List.getElem?_eq_getElem (by omega)⟩
    have hz2:(l.take 60)[k]?=some z:=by rw [List.getElem?_take,if_pos (by omega),hz]
    obtain⟨b2,o2,rfl,hb2,hzc⟩:=HROW1.out k z hz
    have hbl:=Nat.lt_of_lt_of_le hb2 HDK.out.kp.size
    obtain⟨hzb,g0,g1,g2,g3,g4⟩:=hzc.same (HDK.out.kp.block b2 hb2 (fun h=>h))
    have hlt':(k:Int)<(l.length:Int):=by omega
    have hk0:(0:Int)≤k:=by omega
    have HMS:=hid (show (Sys.new n ms).moves (l.take 60) ms (k+1)=z.doR ((Sys.new n ms).moves (l.take 60) ms k) ms by
     show (match (l.take 60)[k]? with | some x=>x.doR ((Sys.new n ms).moves (l.take 60) ms k) ms | none=>_)=_
     rw [hz2])
    have HDO:=hid (fun W (hk:Keeps (fun _=>False) wr W)=>mvref a m z ms _ W (HDK.out.quiet hk) hnx.ok (by omega) (by omega) hzb)
    clear hnx hz hz2 hzc hzb hb2
    go_wp2_with fail
    refine (HDO.out _ ((Keeps.refl _ _).alloc _)).mono ?_
    rintro e w9 ⟨rfl,hd9,hk9⟩
    have HD9:=hid hd9;have HK9:=hid (Ft.trans HKK.out (Ft.trans ((Keeps.refl (fun _=>False) wr).alloc _).up hk9))
    clear hd9 hk9
    go_wp2_with fail
    refine⟨⟨k+1,by omega,by go_num,hid ?_,HK9⟩,by simp [intOf];omega⟩
    rw [HMS.out];exact HD9.out
   ·obtain rfl:k=l.length:=by omega
    have hnl:¬ ((l.length:Nat):Int)<(l.length:Int):=by omega
    have HRES:=hid (show Sys.made n ms l mid=((Sys.new n ms).moves (l.take 60) ms l.length).marked mid by unfold Sys.made;rw [hN])
    obtain⟨s,hs⟩:∃ s,(Sys.new n ms).moves (l.take 60) ms l.length=s:=⟨_,rfl⟩
    rw [hs] at HDK HRES hnx
    have HOK:=hid (show s.Ok∧s.M.K.ph=0∧s.M.P.n=n∧s.M.K.many=ms∧s.M.K.cy=0 from⟨hnx.ok,by rw [hnx.K];rfl,hnx.n,by rw [hnx.K];rfl,by rw [hnx.K];rfl⟩)
    have HBG:=hid (Fo.dbegin HDK.out)
    clear hnx hs
    go_wp2_with fail
    refine HBG.out.mono ?_
    rintro e w4 ⟨rfl,hd4,hk4⟩
    have HD4:=hid (show FD w0 w4 a m LA LM x y A M (s.begun.rounds (mid.take 60) 0) 2 from hd4)
    have HK4:=hid (Ft.trans HKK.out hk4)
    clear hd4 hk4 HBG HDK HKK
    go_wp2_with fail
    go_loopw [13] (fun ix wr=>∃ i:Nat,ix = .int .i64 i∧Half s mid i∧Hid (FD w0 wr a m LA LM x y A M (s.begun.rounds (mid.take 60) i) 2)∧Hid (Keeps (Ft wB w0.heap.size) wB wr)) (fun ix _=>5+s.M.P.n - (intOf ix).toNat)
    case atStart=>exact⟨0,rfl,Half.zero HOK.out.1 HOK.out.2.1 mid,HD4,HK4⟩
    case round=>
     clear HD4 HK4
     obtain⟨i,rfl,hhalf,HD,HKR⟩:=hrel
     obtain⟨t,ht⟩:∃ t,s.begun.rounds (mid.take 60) i=t:=⟨_,rfl⟩
     have hmid:=hhalf.at'
     have htm:=hhalf.many
     have htc:=hhalf.cy
     have HLE:=hid hhalf.le
     have HDN:=hid hhalf.done
     have HNXT:=hid hhalf.next
     have hrgo:=@Sys.rounds_go s.begun (mid.take 60) i
     rw [ht] at HD hmid htm htc HLE HDN HNXT hrgo
     have HEN:=hid HD.out.en
     have hcy:t.M.K.cy<4611686018427387904:=by rw [htc,HOK.out.2.2.2.2];omega
     by_cases hph:4≤t.M.K.ph
     ·rw [show decide (4≤t.M.K.ph)=true by simpa using hph] at HEN
      obtain⟨hw,h4,hwok⟩:=HDN.out hph
      obtain⟨e1,e2,e3,e4⟩:=Sys.marked_of h4 hwok
      have HGO:=hid (Fo.dgo HD.out hmid.ok.m hcy)
      have e5:s.marked mid=⟨t.A,t.M.goR.1⟩:=by unfold Sys.marked;rw [hw]
      have e6:t.M.goR.2=0:=by rw [← hw];exact e4
      rw [e6] at HGO
      have HMR:=hid e5
      clear hmid htc htm hrgo hw e1 e2 e3 e4 e5 e6 h4 hwok hph ht hcy hhalf
      go_wp2_with fail
      refine (HEN.out).mono ?_
      rintro e w' ⟨rfl,h'⟩
      obtain rfl:=h'.symm
      go_wp2_with fail
      refine HGO.out.mono ?_
      rintro e w5 ⟨rfl,hd5,hk5⟩
      have HD5:=hid hd5;have HK5:=hid (Ft.trans HKR.out hk5)
      clear hd5 hk5
      go_wp2_with fail
      refine bodyPost_ret_by (v:=.tuple #[.pointer (some ⟨x,0,none⟩),.pointer (some ⟨y,0,none⟩),.bool true]) (by simp [results,Tryz.results5,go_sem, *]) rfl ⟨x,y,rfl,?_,Ft.trans HKB.out.up HK5.out⟩
      rw [HRES.out,HMR.out];exact HD5.out
     ·rw [show decide (4≤t.M.K.ph)=false by simpa using hph] at HEN
      have hph':t.M.K.ph<4:=by omega
      have HNX:=hid (HNXT.out hph')
      have HRG:=hid (hrgo hph')
      have hile:=HLE.out hph'
      have hsn0:s.M.P.n=n:=HOK.out.2.2.1
      have hsm0:s.M.K.many=ms:=HOK.out.2.2.2.1
      obtain⟨hso,hsm,hsn⟩:=Sys.step_next hmid.ok
      have HST:=hid (HD.out.step hmid.ok hcy)
      obtain⟨q,hq⟩:∃ q,(t.M.stepR t.A).K.ph=q:=⟨_,rfl⟩
      have HPH:=hid (fun W (hd:FD w0 W a m LA LM x y A M t.step 2)=>show Calls Tryz.prog 35 #[.pointer (some ⟨y,0,none⟩)] W fun e w'=>e = .returned (.int .i64 q)∧w'=W from by rw [← hq];exact hd.ph)
      have hstm:t.step.M.K.many=ms:=by rw [show t.step.M.K.many=(t.M.stepR t.A).K.many from rfl,hsm,htm,hsm0]
      obtain⟨ha1,ha2,ha3,ha4,ha5,_⟩:=Sys.answer_next hso
      have HUO:=hid ha1
      have HMS:=hid (show t.M.K.many=ms from htm.trans hsm0)
      have hnle:¬ (2 * (n:Int)+20<(i:Int)):=by omega
      clear hph hmid hrgo HLE HDN HNXT htc htm hcy hhalf
      by_cases hq12:q=1∨q=2
      ·have HANS:=hid (show t.step.answer=t.step.acks ms by unfold Sys.answer;rw [if_pos (by show (t.M.stepR t.A).K.ph=1∨(t.M.stepR t.A).K.ph=2;rw [hq];exact hq12),hstm])
       have HAN:=hid (fun k W (hd:FD w0 W a m LA LM x y A M (t.step.acks k) 2)=>show Calls Tryz.prog 36 #[.pointer (some ⟨y,0,none⟩),.pointer (some ⟨x,0,none⟩),.int .i64 k] W fun e w'=>e = .returned (.tuple #[.bool ((t.step.acks k).M.ackR (t.step.acks k).A k).is,.int .i64 ((t.step.acks k).M.ackR (t.step.acks k).A k).e])∧FD w0 w' a m LA LM x y A M (t.step.acks (k+1)) 2∧Keeps (Ft W w0.heap.size) W w' from by
        obtain⟨b1,b2,b3,b4,b5,b6,b7⟩:=Sys.acks_next hso k
        exact (Fo.dack hd b1.n b1.k k).mono (fun e w' ⟨h1,h2,h3⟩=>⟨h1,h2,h3⟩))
       have hq12':((q:Int) == 1)=true∨((q:Int) == 1)=false∧((q:Int) == 2)=true:=by
        rcases hq12 with rfl | rfl
        ·exact .inl rfl
        ·exact .inr ⟨rfl,rfl⟩
       clear hq12 hq
       rcases hq12' with hq1 | ⟨hq1,hq2⟩
       all_goals
        go_wp2_with fail
        refine (HEN.out).mono ?_
        rintro e w' ⟨rfl,h'⟩
        obtain rfl:=h'.symm
        go_wp2_with fail
        refine HST.out.mono ?_
        rintro e w3 ⟨rfl,hd3,hk3⟩
        have HD3:=hid hd3
        have HK3:=hid (Ft.trans HKR.out hk3)
        clear hd3 hk3
        go_wp2_with fail
        refine ((HPH.out _ HD3.out)).mono ?_
        rintro e w' ⟨rfl,h'⟩
        obtain rfl:=h'.symm
        obtain⟨wo,hwo⟩:∃ wo:World,wo=wr:=⟨_,rfl⟩
        subst hwo
        go_wp2_with fail
        go_loopw [84] (fun ix wr=>∃ k:Nat,k≤ms∧ix = .int .i64 k∧Hid (FD w0 wr a m LA LM x y A M (t.step.acks k) 2)∧Hid (Keeps (Ft wB w0.heap.size) wB wr)) (fun ix _=>ms - (intOf ix).toNat)
        case atStart=>exact⟨0,Nat.zero_le _,rfl,HD3,HK3⟩
        case round=>
         obtain⟨k,hk,rfl,HDK,HKK⟩:=hrel
         by_cases hlt:k<ms
         ·have hlt':(k:Int)<(ms:Int):=by omega
          have HA:=hid (HAN.out k _ HDK.out)
          go_wp2_with fail
          refine HA.out.mono ?_
          rintro e w4 ⟨rfl,hd4,hk4⟩
          have HD4:=hid hd4;have HK4:=hid (Ft.trans HKK.out hk4)
          clear hd4 hk4
          go_wp2_with fail
          exact⟨⟨k+1,by omega,by go_num,HD4,HK4⟩,by simp [intOf];omega⟩
         ·have hnl:¬ (k:Int)<(ms:Int):=by omega
          obtain⟨wu,hwu⟩:∃ wu:World,wu=wr:=⟨_,rfl⟩
          subst hwu
          have hkm:k=ms:=by omega
          have HU:=hid (show FD w0 wu a m LA LM x y A M t.step.answer 2 by rw [HANS.out,← hkm];exact HDK.out)
          have HKU:=HKK
          clear HKK HDK
          rcases Nat.lt_or_ge 60 mid.length with hm60 | hm60
          ·have hm1:(60:Int)<(mid.length:Int):=by omega
           by_cases him:i<60
           ·have hm2:(i:Int)<60:=by omega
            have hm3:(i:Int)<(mid.length:Int):=by omega
            have hme:(mid.take 60)[i]?=mid[i]?:=by rw [List.getElem?_take,if_pos him]
            obtain⟨z,hz⟩:∃ z,mid[i]?=some z:=⟨_,List.getElem?_eq_getElem (by omega)⟩
            obtain⟨b2,o2,rfl,hb2,hzc⟩:=HROW2.out i z hz
            have hbl:=Nat.lt_of_lt_of_le hb2 HU.out.kp.size
            obtain⟨hzb,g0,g1,g2,g3,g4⟩:=hzc.same (HU.out.kp.block b2 hb2 (fun h=>h))
            obtain⟨y0,y1,y2,y3,hblq⟩:=HBX.out _ HKU.out
            have HBY:=hid hzb
            have HRD:=hid (show t.round (mid.take 60) i=z.doR t.step.answer ms by unfold Sys.round;rw [hme,hz,HMS.out])
            have HDO:=hid (fun W (hk:Keeps (fun _=>False) wu W)=>mvref a m z ms t.step.answer W (HU.out.quiet hk) HUO.out (by omega) (by omega) HBY.out)
            clear hme hz hzc hzb hb2
            go_wp2_with fail
            refine (HDO.out _ (Keeps.refl _ _)).mono ?_
            rintro e w9 ⟨rfl,hd9,hk9⟩
            have HD9:=hid hd9;have HK9:=hid hk9
            clear hd9 hk9
            go_wp2_with fail
            refine⟨⟨i+1,by go_num,HNX.out,hid ?_,hid ?_⟩,by simp [intOf];omega⟩
            ·rw [HRG.out,HRD.out];exact HD9.out
            ·exact Ft.trans HKU.out HK9.out
           ·omega
          ·have hm1:¬ (60:Int)<(mid.length:Int):=by omega
           by_cases him:i<mid.length
           ·have hme:(mid.take 60)[i]?=mid[i]?:=by rw [List.take_of_length_le (by omega)]
            have hm2:(i:Int)<(mid.length:Int):=by omega
            obtain⟨z,hz⟩:∃ z,mid[i]?=some z:=⟨_,List.getElem?_eq_getElem (by omega)⟩
            obtain⟨b2,o2,rfl,hb2,hzc⟩:=HROW2.out i z hz
            have hbl:=Nat.lt_of_lt_of_le hb2 HU.out.kp.size
            obtain⟨hzb,g0,g1,g2,g3,g4⟩:=hzc.same (HU.out.kp.block b2 hb2 (fun h=>h))
            obtain⟨y0,y1,y2,y3,hblq⟩:=HBX.out _ HKU.out
            have HBY:=hid hzb
            have HRD:=hid (show t.round (mid.take 60) i=z.doR t.step.answer ms by unfold Sys.round;rw [hme,hz,HMS.out])
            have HDO:=hid (fun W (hk:Keeps (fun _=>False) wu W)=>mvref a m z ms t.step.answer W (HU.out.quiet hk) HUO.out (by omega) (by omega) HBY.out)
            clear hme hz hzc hzb hb2
            go_wp2_with fail
            refine (HDO.out _ (Keeps.refl _ _)).mono ?_
            rintro e w9 ⟨rfl,hd9,hk9⟩
            have HD9:=hid hd9;have HK9:=hid hk9
            clear hd9 hk9
            go_wp2_with fail
            refine⟨⟨i+1,by go_num,HNX.out,hid ?_,hid ?_⟩,by simp [intOf];omega⟩
            ·rw [HRG.out,HRD.out];exact HD9.out
            ·exact Ft.trans HKU.out HK9.out
           ·have hm2:¬ (i:Int)<(mid.length:Int):=by omega
            have hme:(mid.take 60)[i]?=none:=by rw [List.take_of_length_le (by omega),List.getElem?_eq_none (by omega)]
            have HRD:=hid (show t.round (mid.take 60) i=t.step.answer by unfold Sys.round;rw [hme])
            obtain⟨y0,y1,y2,y3,hblq⟩:=HBX.out _ HKU.out
            clear hme
            go_wp2_with fail
            refine⟨⟨i+1,by go_num,HNX.out,hid ?_,HKU⟩,by simp [intOf];omega⟩
            rw [HRG.out,HRD.out];exact HU.out
      ·have HANS:=hid (show t.step.answer=t.step by unfold Sys.answer;rw [if_neg (by show ¬ ((t.M.stepR t.A).K.ph=1∨(t.M.stepR t.A).K.ph=2);rw [hq];exact hq12)])
       have hq1:((q:Int) == 1)=false:=by simp;omega
       have hq2:((q:Int) == 2)=false:=by simp;omega
       clear hq12 hq
       go_wp2_with fail
       refine (HEN.out).mono ?_
       rintro e w' ⟨rfl,h'⟩
       obtain rfl:=h'.symm
       go_wp2_with fail
       refine HST.out.mono ?_
       rintro e w3 ⟨rfl,hd3,hk3⟩
       have HD3:=hid hd3
       have HK3:=hid (Ft.trans HKR.out hk3)
       clear hd3 hk3
       go_wp2_with fail
       refine ((HPH.out _ HD3.out)).mono ?_
       rintro e w' ⟨rfl,h'⟩
       obtain rfl:=h'.symm
       obtain⟨wu,hwu⟩:∃ wu,wu=w3:=⟨_,rfl⟩
       subst hwu
       have HU:=hid (show FD w0 wu a m LA LM x y A M t.step.answer 2 by rw [HANS.out];exact HD3.out)
       have HKU:=HK3
       clear HK3
       rcases Nat.lt_or_ge 60 mid.length with hm60 | hm60
       ·have hm1:(60:Int)<(mid.length:Int):=by omega
        by_cases him:i<60
        ·have hm2:(i:Int)<60:=by omega
         have hm3:(i:Int)<(mid.length:Int):=by omega
         have hme:(mid.take 60)[i]?=mid[i]?:=by rw [List.getElem?_take,if_pos him]
         obtain⟨z,hz⟩:∃ z,mid[i]?=some z:=⟨_,List.getElem?_eq_getElem (by omega)⟩
         obtain⟨b2,o2,rfl,hb2,hzc⟩:=HROW2.out i z hz
         have hbl:=Nat.lt_of_lt_of_le hb2 HU.out.kp.size
         obtain⟨hzb,g0,g1,g2,g3,g4⟩:=hzc.same (HU.out.kp.block b2 hb2 (fun h=>h))
         obtain⟨y0,y1,y2,y3,hblq⟩:=HBX.out _ HKU.out
         have HBY:=hid hzb
         have HRD:=hid (show t.round (mid.take 60) i=z.doR t.step.answer ms by unfold Sys.round;rw [hme,hz,HMS.out])
         have HDO:=hid (fun W (hk:Keeps (fun _=>False) wu W)=>mvref a m z ms t.step.answer W (HU.out.quiet hk) HUO.out (by omega) (by omega) HBY.out)
         clear hme hz hzc hzb hb2
         go_wp2_with fail
         refine (HDO.out _ (Keeps.refl _ _)).mono ?_
         rintro e w9 ⟨rfl,hd9,hk9⟩
         have HD9:=hid hd9;have HK9:=hid hk9
         clear hd9 hk9
         go_wp2_with fail
         refine⟨⟨i+1,by go_num,HNX.out,hid ?_,hid ?_⟩,by simp [intOf];omega⟩
         ·rw [HRG.out,HRD.out];exact HD9.out
         ·exact Ft.trans HKU.out HK9.out
        ·omega
       ·have hm1:¬ (60:Int)<(mid.length:Int):=by omega
        by_cases him:i<mid.length
        ·have hme:(mid.take 60)[i]?=mid[i]?:=by rw [List.take_of_length_le (by omega)]
         have hm2:(i:Int)<(mid.length:Int):=by omega
         obtain⟨z,hz⟩:∃ z,mid[i]?=some z:=⟨_,List.getElem?_eq_getElem (by omega)⟩
         obtain⟨b2,o2,rfl,hb2,hzc⟩:=HROW2.out i z hz
         have hbl:=Nat.lt_of_lt_of_le hb2 HU.out.kp.size
         obtain⟨hzb,g0,g1,g2,g3,g4⟩:=hzc.same (HU.out.kp.block b2 hb2 (fun h=>h))
         obtain⟨y0,y1,y2,y3,hblq⟩:=HBX.out _ HKU.out
         have HBY:=hid hzb
         have HRD:=hid (show t.round (mid.take 60) i=z.doR t.step.answer ms by unfold Sys.round;rw [hme,hz,HMS.out])
         have HDO:=hid (fun W (hk:Keeps (fun _=>False) wu W)=>mvref a m z ms t.step.answer W (HU.out.quiet hk) HUO.out (by omega) (by omega) HBY.out)
         clear hme hz hzc hzb hb2
         go_wp2_with fail
         refine (HDO.out _ (Keeps.refl _ _)).mono ?_
         rintro e w9 ⟨rfl,hd9,hk9⟩
         have HD9:=hid hd9;have HK9:=hid hk9
         clear hd9 hk9
         go_wp2_with fail
         refine⟨⟨i+1,by go_num,HNX.out,hid ?_,hid ?_⟩,by simp [intOf];omega⟩
         ·rw [HRG.out,HRD.out];exact HD9.out
         ·exact Ft.trans HKU.out HK9.out
        ·have hm2:¬ (i:Int)<(mid.length:Int):=by omega
         have hme:(mid.take 60)[i]?=none:=by rw [List.take_of_length_le (by omega),List.getElem?_eq_none (by omega)]
         have HRD:=hid (show t.round (mid.take 60) i=t.step.answer by unfold Sys.round;rw [hme])
         obtain⟨y0,y1,y2,y3,hblq⟩:=HBX.out _ HKU.out
         clear hme
         go_wp2_with fail
         refine⟨⟨i+1,by go_num,HNX.out,hid ?_,HKU⟩,by simp [intOf];omega⟩
         rw [HRG.out,HRD.out];exact HU.out
end Go.Proofs.YtlicmmofekkmoaaGreat
