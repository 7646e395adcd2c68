import Derived.Test.YtnlkfbndlngjaaaGreatCgA
import Derived.Test.YtnlkfbndlngjaaaGreatNgA
set_option maxHeartbeats 4000000
set_option maxRecDepth 100000
namespace Go.Proofs.YtnlkfbndlngjaaaGreat
theorem Mk.trace1_cy (M:Mk) (H:Hp) (hp:M.K.ph=3):(M.trace1 H).K.cy=M.K.cy:=by
 have hg:M.K.go.cy=M.K.cy:=by show (if M.K.ph=5 then M.K.cy+1 else M.K.cy)=_;rw [if_neg (by omega)]
 unfold Mk.trace1
 split
 ·split
  ·exact hg
  ·rw [(Mk.scanAt_K M H _).1]
 ·split
  ·rw [(Mk.scanAt_K _ H _).1]
  ·rfl
theorem Mk.stepR_cy (M:Mk) (A:Ar) (hp:M.K.ph<4):(M.stepR A).K.cy=M.K.cy:=by
 have hg:M.K.go.cy=M.K.cy:=by show (if M.K.ph=5 then M.K.cy+1 else M.K.cy)=_;rw [if_neg (by omega)]
 unfold Mk.stepR
 split
 ·split
  ·exact hg
  ·rfl
 split
 ·split
  ·exact hg
  ·rfl
 split
 ·rename_i h3
  unfold Mk.traceR
  rw [Mk.trace1_cy _ _ (by rw [(M.drains_K _).1];exact h3),(M.drains_K _).1]
 ·rfl
theorem Sys.step_next {s:Sys} (h:s.Ok):s.step.Ok∧(s.M.stepR s.A).K.many=s.M.K.many∧(s.M.stepR s.A).P.n=s.M.P.n:=by
 have key:(s.M.stepR s.A).K.many=s.M.K.many∧(s.M.stepR s.A).P.n=s.M.P.n∧Gs (s.M.stepR s.A).P (s.M.stepR s.A).S:=by
  unfold Mk.stepR
  split
  ·split
   ·exact⟨rfl,shds_n (s.M.P,s.M.S) _,(gs_shade (M:={ s.M with K:=s.M.K.go }) h.g _).1⟩
   ·exact⟨rfl,rfl,h.g⟩
  split
  ·split
   ·exact⟨rfl,rfl,h.g⟩
   ·exact⟨rfl,rfl,h.g⟩
  split
  ·obtain⟨g1,g2,g3⟩:=gs_trace (H:=s.A.H) h.m h.g
   rcases g3 with⟨hK,hn⟩ | ⟨hK,hn,_⟩
   ·exact⟨by rw [hK];rfl,hn,g1⟩
   ·exact⟨by rw [hK],hn,g1⟩
  ·exact⟨rfl,rfl,h.g⟩
 exact⟨Sys.step_ok h key.2.1 key.1 key.2.2,key.1,key.2.1⟩
theorem Sys.round_K {s:Sys} (h:s.Ok) (hp:s.M.K.ph<4) (mid:List Mv) (j:Nat):(s.round mid j).M.K.cy=s.M.K.cy∧(s.round mid j).M.K.many=s.M.K.many:=by
 obtain⟨hs,hk,_⟩:=Sys.step_next h
 have h1:s.step.M.K.cy=s.M.K.cy:=Mk.stepR_cy _ _ hp
 obtain⟨a1,_,a3,a4,_⟩:=Sys.answer_next hs
 unfold Sys.round
 split
 ·rw [(Mv.next _ a1 _).K,a3,a4,h1];exact⟨rfl,hk⟩
 ·rw [a3,a4,h1];exact⟨rfl,hk⟩
theorem Sys.rounds_stay {s:Sys} {mid:List Mv} {i:Nat} (h:4≤(s.rounds mid i).M.K.ph) (d:Nat):s.rounds mid (i+d)=s.rounds mid i:=by
 induction d with
 | zero=>rfl
 | succ d ih=>
  show (if 4≤(s.rounds mid (i+d)).M.K.ph then s.rounds mid (i+d) else _)=_
  rw [ih,if_pos h]
theorem Sys.rounds_go {s:Sys} {mid:List Mv} {i:Nat} (h:(s.rounds mid i).M.K.ph<4):s.rounds mid (i+1)=(s.rounds mid i).round mid i:=if_neg (by omega)
def Sys.begun (s:Sys):Sys:=⟨s.A,s.M.beginR.1⟩
def Sys.whole (s:Sys) (mid:List Mv):Sys:=s.begun.rounds (mid.take 60) (2 * s.M.P.n+21)
def Sys.marked (s:Sys) (mid:List Mv):Sys:=⟨(s.whole mid).A,(s.whole mid).M.goR.1⟩
theorem Sys.begun_mid {s:Sys} (h:s.Ok) (hp:s.M.K.ph=0):Mid s.M.P.n 0 s.begun∧s.begun.M.K.cy=s.M.K.cy∧s.begun.M.K.many=s.M.K.many:=by
 have e:s.M.beginR.1={ s.M with K:=s.M.K.to 1 }:=by unfold Mk.beginR;rw [if_pos hp]
 have hb:=h.m.beginR
 unfold Sys.begun
 rw [e] at hb ⊢
 exact⟨⟨⟨h.a,hb,h.n,h.k,h.g⟩,rfl,.inl ⟨rfl,rfl,fun _=>rfl⟩⟩,rfl,rfl⟩
structure Half (s:Sys) (mid:List Mv) (i:Nat):Prop where
 at':Mid s.M.P.n i (s.begun.rounds (mid.take 60) i)
 cy:(s.begun.rounds (mid.take 60) i).M.K.cy=s.M.K.cy
 many:(s.begun.rounds (mid.take 60) i).M.K.many=s.M.K.many
theorem Half.zero {s:Sys} (h:s.Ok) (hp:s.M.K.ph=0) (mid:List Mv):Half s mid 0:=by
 obtain⟨h1,h2,h3⟩:=Sys.begun_mid h hp
 exact⟨h1,h2,h3⟩
theorem Half.next {s:Sys} {mid:List Mv} {i:Nat} (h:Half s mid i) (hp:(s.begun.rounds (mid.take 60) i).M.K.ph<4):Half s mid (i+1):=by
 obtain⟨h1,h2⟩:=Sys.round_K h.at'.ok hp (mid.take 60) i
 refine⟨?_,?_,?_⟩
 ·rw [Sys.rounds_go hp];exact h.at'.round hp _
 ·rw [Sys.rounds_go hp,h1,h.cy]
 ·rw [Sys.rounds_go hp,h2,h.many]
theorem Half.le {s:Sys} {mid:List Mv} {i:Nat} (h:Half s mid i) (hp:(s.begun.rounds (mid.take 60) i).M.K.ph<4):i≤3+s.M.P.n:=by
 have hb:=blkN_le (s.begun.rounds (mid.take 60) i).M.P.c s.M.P.n
 rcases h.at'.at' with h | h | h | h | h
 all_goals omega
theorem Half.done {s:Sys} {mid:List Mv} {i:Nat} (h:Half s mid i) (hp:4≤(s.begun.rounds (mid.take 60) i).M.K.ph):
 s.whole mid=s.begun.rounds (mid.take 60) i∧(s.whole mid).M.K.ph=4∧(s.whole mid).Ok:=by
 have h4:(s.begun.rounds (mid.take 60) i).M.K.ph=4∧i≤4+s.M.P.n:=by
  rcases h.at'.at' with h | h | h | h | h
  all_goals omega
 have e:s.whole mid=s.begun.rounds (mid.take 60) i:=by
  unfold Sys.whole
  have:=h.at'.ok.m.n1
  rw [h.at'.nn] at this
  obtain⟨d,hd⟩:∃ d,2 * s.M.P.n+21=i+d:=⟨2 * s.M.P.n+21 - i,by omega⟩
  rw [hd,Sys.rounds_stay hp]
 exact⟨e,by rw [e];exact h4.1,by rw [e];exact h.at'.ok⟩
theorem Sys.marked_of {s:Sys} {mid:List Mv} (h4:(s.whole mid).M.K.ph=4) (hok:(s.whole mid).Ok):s.marked mid=⟨(s.whole mid).A,{ (s.whole mid).M with K:=(s.whole mid).M.K.go }⟩∧(s.marked mid).Ok∧(s.marked mid).M.K.ph=5∧(s.whole mid).M.goR.2=0:=by
 unfold Sys.marked
 generalize s.whole mid=t at *
 have e:t.M.goR=({ t.M with K:=t.M.K.go },0):=by
  unfold Mk.goR;rw [if_neg (by omega),if_pos h4]
 have hm:=hok.m.goR
 rw [e] at hm ⊢
 exact⟨rfl,⟨hok.a,hm,hok.n,hok.k,hok.g⟩,by show (t.M.K.ph+1) % 6=5;rw [h4],rfl⟩
end Go.Proofs.YtnlkfbndlngjaaaGreat
namespace Go.Proofs.YtnlkfbndlngjaaaGreat
open Go.ChangeShapes Go.WideShapes Go.ChangeAt Go.RowKit Go.Deep
set_option linter.unusedVariables false
structure MvCell (w:World) (b o:Nat) (x:Mv):Prop where
 by':x.Byte
 c0:w.cell? ⟨b,o,none⟩=some (.int .u8 x.kind)
 c1:w.cell? ⟨b,o+1,none⟩=some (.int .u8 x.m)
 c2:w.cell? ⟨b,o+2,none⟩=some (.int .u8 x.a)
 c3:w.cell? ⟨b,o+3,none⟩=some (.int .u8 x.b)
 c4:w.cell? ⟨b,o+4,none⟩=some (.int .u8 x.c)
def MvRow (w:World) (v:Value) (l:List Mv):Prop:=∃ a cap,v = .slice a l.length cap∧l.length≤cap∧cap≤maxLen∧(l=[]∨∃ b off,a=some ⟨b,off,none⟩∧b<w.heap.size∧∀ (i:Nat) (x:Mv),l[i]?=some x→MvCell w b (off+i * 5) x)
theorem MvCell.same {w w':World} {b o:Nat} {x:Mv} (h:MvCell w b o x) (hb:w'.heap[b]?=w.heap[b]?):MvCell w' b o x:=by
 have e:=fun k=>World.cell?_of_block (w:=w) (w':=w') (a:=⟨b,k,none⟩) hb
 exact⟨h.by',(e _).trans h.c0,(e _).trans h.c1,(e _).trans h.c2,(e _).trans h.c3,(e _).trans h.c4⟩
theorem MvRow.keeps0 {w w':World} {v:Value} {l:List Mv} (h:MvRow w v l) (hk:Keeps (fun _=>False) w w'):MvRow w' v l:=by
 obtain⟨a,cap,h1,h2,h3,h4⟩:=h
 refine⟨a,cap,h1,h2,h3,?_⟩
 rcases h4 with h4 | ⟨b,off,e,hb,hx⟩
 ·exact .inl h4
 ·exact .inr ⟨b,off,e,Nat.lt_of_lt_of_le hb hk.size,fun i x hi=>(hx i x hi).same (hk.block b hb (fun h=>h))⟩
theorem byte_of {u:Value} (h:Flat.Ok (.int .u8) u):∃ n:Nat,u = .int .u8 n∧n<256:=by
 obtain⟨n,rfl,hn⟩:=h
 have:0≤n∧n<256:=by
  have e1:IntKind.u8.min=0:=by decide
  have e2:IntKind.u8.max=255:=by decide
  simp [Lit.wf,e1,e2] at hn
  omega
 exact⟨n.toNat,by rw [Int.toNat_of_nonneg this.1],by omega⟩
structure SetupAt (w:World) (v:Value) (x y:Nat) (l mid:List Mv):Prop where
 x':x<256
 y':y<256
 ex:∃ v1 v2,v = .agg #[.int .u8 x,.int .u8 y,v1,v2]∧MvRow w v1 l∧MvRow w v2 mid
theorem SetupAt.keeps0 {w w':World} {v:Value} {x y:Nat} {l mid:List Mv} (h:SetupAt w v x y l mid) (hk:Keeps (fun _=>False) w w'):SetupAt w' v x y l mid:=by
 obtain⟨h1,h2,v1,v2,h3,h4,h5⟩:=h
 exact⟨h1,h2,v1,v2,h3,h4.keeps0 hk,h5.keeps0 hk⟩
end Go.Proofs.YtnlkfbndlngjaaaGreat
namespace Go.Proofs.YtnlkfbndlngjaaaGreat
open Go.RowKit
set_option linter.unusedVariables false
theorem foot2_of {LA:ArL} {LM:MkL} {s t:Sys} (h1:t.A.many=s.A.many) (h2:t.M.K.many=s.M.K.many):foot2 LA LM t=foot2 LA LM s:=by
 unfold foot2;rw [h1,h2]
theorem Both.footlt {w0 w:World} {a m:Nat} {LA:ArL} {LM:MkL} {s:Sys} (h:Both w0 w a m LA LM s):∀ y,foot2 LA LM s y→y<w.heap.size:=by
 intro y hy
 rcases hy with hy | hy
 ·exact h.ar.footlt y hy
 ·have hb:=h.mm.btw
  rcases hy with rfl | rfl | rfl | ⟨k,hk,rfl⟩
  ·exact hb.c.2
  ·exact hb.p.2
  ·exact hb.s.2
  ·exact (hb.bb k hk).2
theorem sizes25 (x y:Nat) (v1 v2:Value) (w:World) (hx:x<256) (hy:y<256):
 Calls Tryz.prog 7 #[.agg #[.int .u8 x,.int .u8 y,v1,v2]] w fun e w'=>e = .returned (.tuple #[.int .i64 (1+x % 24:Nat),.int .i64 (1+y % 2:Nat)])∧Keeps (fun _=>False) w w':=by
 have e1:((1+x % 24:Nat):Int)=1+(x:Int) % 24:=by simp
 have e2:((1+y % 2:Nat):Int)=1+(y:Int) % 2:=by simp
 rw [e1,e2]
 go_enter Tryz.func7,Tryz.ntmps7
 go_wp2_with fail
 go_quiet (fail)
 go_wp2_with fail
 go_ret2
 exact⟨rfl,((Keeps.refl _ _).alloc _).drewN _⟩
theorem mark25 {w0:World} {LA:ArL} {LM:MkL} (a m:Nat) (v:Value) (x y:Nat) (l mid:List Mv) (s:Sys) (w:World) (h:Both w0 w a m LA LM s) (hv:SetupAt w0 v x y l mid) (hok:s.Ok) (hp:s.M.K.ph=0)
 (hn:s.M.P.n=1+x % 24) (hm:s.M.K.many=1+y % 2) (hcy:s.M.K.cy<4611686018427387904):
 Calls Tryz.prog 91 #[v,.pointer (some ⟨a,0,none⟩),.pointer (some ⟨m,0,none⟩)] w fun e w'=>e = .returned (.bool true)∧Both w0 w' a m LA LM (s.marked mid)∧Keeps (foot2 LA LM s) w w':=by
 obtain⟨hx,hy,v1,v2,rfl,hr1,hr2⟩:=hv
 obtain⟨a1,cap1,rfl,_⟩:=hr1
 obtain⟨a2,cap2,rfl,_,_,hr2⟩:=hr2
 have hrow:∀ (i:Nat) (z:Mv),mid[i]?=some z→∃ b2 o2,a2=some ⟨b2,o2,none⟩∧b2<w0.heap.size∧MvCell w0 b2 (o2+i * 5) z:=fun i z hz=>by
  rcases hr2 with rfl | ⟨b2,o2,e,hb,hc⟩
  ·cases hz
  ·exact⟨b2,o2,e,hb,hc i z hz⟩
 have HROW:=hid hrow
 have hfl:=Both.footlt h
 have HSZ:=hid (fun W=>sizes25 x y (.slice a1 l.length cap1) (.slice a2 mid.length cap2) W hx hy)
 have HHALF:=hid (Half.zero hok hp mid)
 have HBG:=hid (fun W (hk:Keeps (fun _=>False) w W)=>duo_begin_any (Duo.same h hk))
 rw [show s.M.beginR.2=0 by unfold Mk.beginR;rw [if_pos hp]] at HBG
 obtain⟨n,hnn⟩:∃ n,1+x % 24=n:=⟨_,rfl⟩
 obtain⟨ms,hmm⟩:∃ ms,1+y % 2=ms:=⟨_,rfl⟩
 have hn24:n≤24:=by omega
 have hms4:1≤ms∧ms≤2:=by omega
 rw [hnn] at HSZ hn;rw [hmm] at HSZ hm
 obtain⟨wB,hwB⟩:∃ wB,w.alloc (.cells #[.int .u8 x,.int .u8 y,.slice a1 l.length cap1,.slice a2 mid.length cap2] 24)=wB:=⟨_,rfl⟩
 have hkB:Keeps (fun _=>False) w wB:=by rw [← hwB];exact (Keeps.refl _ _).alloc _
 have hqB:wB.heap[w.heap.size]?=some (.cells #[.int .u8 x,.int .u8 y,.slice a1 l.length cap1,.slice a2 mid.length cap2] 24):=by rw [← hwB];exact alloc_new
 have hHB:∀ W,Keeps (foot2 LA LM s) wB W→W.cell? ⟨w.heap.size,3,none⟩=some (.slice a2 mid.length cap2):=fun W hk=>cell_at (block_keep hqB hk (fun hf=>by have:=hfl _ hf;omega)) rfl
 have HBX:=hid hHB;have HKB:=hid hkB
 have hbl0:=lt_block hqB
 obtain⟨z0,z1,z2,z3,_⟩:=cells4 hqB
 clear hrow hr2 hHB hqB hfl
 go_enter Tryz.func91,Tryz.ntmps91
 go_wp2_with fail
 refine (HSZ.out _).mono ?_
 rintro e w1 ⟨rfl,hk1⟩
 have HK1:=hid (HKB.out.trans hk1)
 have HKB1:=hid hk1
 clear hk1 hwB
 go_wp2_with fail
 refine (HBG.out _ HK1.out).mono ?_
 rintro e w2 ⟨rfl,hd2,hk2⟩
 have HD2:=hid (show Both w0 w2 a m LA LM (s.begun.rounds (mid.take 60) 0) from hd2)
 have HK2:=hid (show Keeps (foot2 LA LM s) wB w2 from HKB1.out.up.trans (hk2.mono (fun _ _ h=>.inr h)))
 clear hd2 hk2 z0 z1 z2 z3
 go_wp2_with fail
 go_loopw [9] (fun ix wr=>∃ i:Nat,ix = .int .i64 i∧Half s mid i∧Both w0 wr a m LA LM (s.begun.rounds (mid.take 60) i)∧Keeps (foot2 LA LM s) wB wr) (fun ix _=>5+s.M.P.n - (intOf ix).toNat)
 case atStart=>exact⟨0,rfl,HHALF.out,HD2.out,HK2.out⟩
 case round=>
  obtain⟨i,rfl,hhalf,hd,hkk⟩:=hrel
  clear HHALF HD2 HK2 HK1 HKB1
  obtain⟨t,ht⟩:∃ t,s.begun.rounds (mid.take 60) i=t:=⟨_,rfl⟩
  have hmid:=hhalf.at'
  have htm:=hhalf.many
  have htc:=hhalf.cy
  have HLE:=hid hhalf.le
  have HDN:=hid hhalf.done
  have HNXT:=hid hhalf.next
  have hrgo:=@Sys.rounds_go s.begun (mid.take 60) i
  rw [ht] at hd hmid htm htc HLE HDN HNXT hrgo
  have HEN:=hid (mended m LM t.M wr hd.mm)
  have HD:=hid hd;have HKR:=hid hkk
  by_cases hph:4≤t.M.K.ph
  ·rw [show decide (4≤t.M.K.ph)=true by simpa using hph] at HEN
   obtain⟨hw,h4,hwok⟩:=HDN.out hph
   obtain⟨e1,e2,e3,e4⟩:=Sys.marked_of h4 hwok
   have HGO:=hid (duo_go_any (w:=wr) hd hmid.ok.m (by rw [htc];exact hcy))
   have e5:s.marked mid=⟨t.A,t.M.goR.1⟩:=by unfold Sys.marked;rw [hw]
   have e6:t.M.goR.2=0:=by rw [← hw];exact e4
   rw [e6] at HGO
   have e7:t.M.goR.1.K.ph=5:=by
    have:=e3
    rw [e5] at this;exact this
   have HPH:=hid (fun W (hd:Both w0 W a m LA LM ⟨t.A,t.M.goR.1⟩)=>mphase m LM _ W hd.mm)
   rw [e7] at HPH
   have HMR:=hid e5
   have HMK:=hid htm
   clear hd hkk hmid htc htm hrgo hw e1 e2 e3 e4 e5 e6 e7 h4 hwok hph ht
   go_wp2_with fail
   refine (HEN.out).mono ?_
   rintro e w' ⟨rfl,h'⟩
   obtain rfl:=h'.symm
   go_wp2_with fail
   refine HGO.out.mono ?_
   rintro e w3 ⟨rfl,hd3,hk3⟩
   have HD3:=hid hd3
   have HK3:=hid (HKR.out.trans (hk3.mono (T:=foot2 LA LM s) (fun _ _ h=>.inr (by rw [← HMK.out];exact h))))
   clear hd3 hk3
   go_wp2_with fail
   refine ((HPH.out _ HD3.out)).mono ?_
   rintro e w' ⟨rfl,h'⟩
   obtain rfl:=h'.symm
   go_wp2_with fail
   go_ret
   exact⟨rfl,by rw [HMR.out];exact HD3.out,HKB.out.up.trans HK3.out⟩
  ·rw [show decide (4≤t.M.K.ph)=false by simpa using hph] at HEN
   have hph':t.M.K.ph<4:=by omega
   have HNX:=hid (HNXT.out hph')
   have HRG:=hid (hrgo hph')
   have hile:=HLE.out hph'
   obtain⟨hso,hsm,hsn⟩:=Sys.step_next hmid.ok
   have HST:=hid (duo_step_any (w:=wr) hd hmid.ok.m hmid.ok.n hmid.ok.k (by rw [htc];exact hcy))
   have HPH:=hid (fun W (hd:Duo w0 W a m LA LM t.A (t.M.stepR t.A))=>mphase m LM _ W hd.mm)
   obtain⟨q,hq⟩:∃ q,(t.M.stepR t.A).K.ph=q:=⟨_,rfl⟩
   rw [hq] at HPH
   have HF2:=hid (show ∀ y,LM.foot t.M.K.many y→foot2 LA LM s y from fun y hy=>.inr (by rw [← htm];exact hy))
   have hstm:t.step.M.K.many=ms:=by rw [show t.step.M.K.many=(t.M.stepR t.A).K.many from rfl,hsm,htm,hm]
   obtain⟨ha1,ha2,ha3,ha4,ha5,_⟩:=Sys.answer_next hso
   have HUO:=hid ha1
   have HMS:=hid (show t.M.K.many=ms from htm.trans hm)
   have HFU:=hid (show foot2 LA LM t.step.answer=foot2 LA LM s from foot2_of (by rw [ha1.k,ha4,hstm,hok.k,hm]) (by rw [ha4,hstm,hm]))
   have hnle:¬ (2 * (n:Int)+20<(i:Int)):=by omega
   clear hph hd hkk hmid hrgo HLE HDN HNXT htc htm
   by_cases hq12:q=1∨q=2
   ·have HANS:=hid (show t.step.answer=t.step.acks ms by unfold Sys.answer;rw [if_pos (by show (t.M.stepR t.A).K.ph=1∨(t.M.stepR t.A).K.ph=2;rw [hq];exact hq12),hstm])
    have HACK:=hid (fun k (hk:k<ms)=>(show ((t.step.acks k).M.ackR (t.step.acks k).A k).e=0 by
     obtain⟨b1,b2,b3,b4,b5,b6,b7⟩:=Sys.acks_next hso k
     unfold Mk.ackR
     rw [if_neg (by rw [b5,hstm];omega),if_neg (by rw [b3];show ¬ ¬ ((t.M.stepR t.A).K.ph=1∨(t.M.stepR t.A).K.ph=2);rw [hq];exact not_not_intro hq12)]
     split <;> rfl))
    have HAN:=hid (fun k W (hd:Both w0 W a m LA LM (t.step.acks k))=>show Calls Tryz.prog 54 #[.pointer (some ⟨m,0,none⟩),.pointer (some ⟨a,0,none⟩),.int .i64 k] W fun e w'=>e = .returned (.tuple #[.bool ((t.step.acks k).M.ackR (t.step.acks k).A k).is,.int .i64 ((t.step.acks k).M.ackR (t.step.acks k).A k).e])∧Both w0 w' a m LA LM (t.step.acks (k+1))∧Keeps (foot2 LA LM s) W w' from by
     obtain⟨b1,b2,b3,b4,b5,b6,b7⟩:=Sys.acks_next hso k
     exact (duo_ack_any hd b1.n b1.k k).mono (fun e w' ⟨h1,h2,h3⟩=>⟨h1,h2,h3.mono (fun y _ hy=>.inr (by rw [b5,hstm] at hy;rw [hm];exact hy))⟩))
    have hq12':((q:Int) == 1)=true∨((q:Int) == 1)=false∧((q:Int) == 2)=true:=by
     rcases hq12 with rfl | rfl
     ·exact .inl rfl
     ·exact .inr ⟨rfl,rfl⟩
    clear hq12 hq
    rcases hq12' with hq1 | ⟨hq1,hq2⟩
    all_goals
     go_wp2_with fail
     refine (HEN.out).mono ?_
     rintro e w' ⟨rfl,h'⟩
     obtain rfl:=h'.symm
     go_wp2_with fail
     refine HST.out.mono ?_
     rintro e w3 ⟨rfl,hd3,hk3⟩
     have HD3:=hid hd3
     have HK3:=hid (HKR.out.trans (hk3.mono (T:=foot2 LA LM s) (fun y _ h=>HF2.out y h)))
     clear hd3 hk3
     go_wp2_with fail
     refine ((HPH.out _ HD3.out)).mono ?_
     rintro e w' ⟨rfl,h'⟩
     obtain rfl:=h'.symm
     obtain⟨wo,hwo⟩:∃ wo:World,wo=wr:=⟨_,rfl⟩
     subst hwo
     go_wp2_with fail
     go_loopw [47] (fun ix wr=>∃ k:Nat,k≤ms∧ix = .int .i64 k∧Both w0 wr a m LA LM (t.step.acks k)∧Keeps (foot2 LA LM s) wB wr) (fun ix _=>ms - (intOf ix).toNat)
     case atStart=>exact⟨0,Nat.zero_le _,rfl,HD3.out,HK3.out⟩
     case round=>
      obtain⟨k,hk,rfl,hdk,hkk⟩:=hrel
      by_cases hlt:k<ms
      ·have hlt':(k:Int)<(ms:Int):=by omega
       have HA:=hid (HAN.out k _ hdk)
       rw [HACK.out k hlt] at HA
       have HKK:=hid hkk
       clear hdk hkk
       go_wp2_with fail
       refine HA.out.mono ?_
       rintro e w4 ⟨rfl,hd4,hk4⟩
       have HD4:=hid hd4;have HK4:=hid (HKK.out.trans hk4)
       clear hd4 hk4
       go_wp2_with fail
       exact⟨⟨k+1,by omega,by go_num,HD4.out,HK4.out⟩,by simp [intOf];omega⟩
      ·have hnl:¬ (k:Int)<(ms:Int):=by omega
       obtain⟨wu,hwu⟩:∃ wu:World,wu=wr:=⟨_,rfl⟩
       subst hwu
       have hkm:k=ms:=by omega
       have HU:=hid (show Both w0 wu a m LA LM t.step.answer by rw [HANS.out,← hkm];exact hdk)
       have HKU:=hid hkk
       clear hdk hkk
       have hbw:=Nat.lt_of_lt_of_le hbl0 HKU.out.size
       rcases Nat.lt_or_ge 60 mid.length with hm60 | hm60
       ·have hm1:(60:Int)<(mid.length:Int):=by omega
        by_cases him:i<60
        ·have hm2:(i:Int)<60:=by omega
         have hm3:(i:Int)<(mid.length:Int):=by omega
         have hme:(mid.take 60)[i]?=mid[i]?:=by rw [List.getElem?_take,if_pos him]
         obtain⟨z,hz⟩:∃ z,mid[i]?=some z:=⟨_,List.getElem?_eq_getElem (by omega)⟩
         obtain⟨b2,o2,rfl,hb2,hzc⟩:=HROW.out i z hz
         have hbl:=Nat.lt_of_lt_of_le hb2 HU.out.kp.size
         obtain⟨hzb,g0,g1,g2,g3,g4⟩:=hzc.same (HU.out.kp.block b2 hb2 (fun h=>h))
         have hbx:=HBX.out _ HKU.out
         have HBY:=hid hzb
         have HRD:=hid (show t.round (mid.take 60) i=z.doR t.step.answer ms by unfold Sys.round;rw [hme,hz,HMS.out])
         have HDO:=hid (fun W (hk:Keeps (fun _=>False) wu W)=>mvdo a m z ms t.step.answer W (Duo.same HU.out hk) HUO.out (by omega) (by omega) HBY.out)
         clear hme hz hzc hzb hb2
         go_wp2_with fail
         refine (HDO.out _ (Keeps.refl _ _)).mono ?_
         rintro e w9 ⟨rfl,hd9,hk9⟩
         have HD9:=hid hd9;have HK9:=hid hk9
         clear hd9 hk9
         go_wp2_with fail
         refine⟨⟨i+1,by go_num,HNX.out,?_,?_⟩,by simp [intOf];omega⟩
         ·rw [HRG.out,HRD.out];exact HD9.out
         ·exact HKU.out.trans (HFU.out ▸ HK9.out)
        ·omega
       ·have hm1:¬ (60:Int)<(mid.length:Int):=by omega
        by_cases him:i<mid.length
        ·have hme:(mid.take 60)[i]?=mid[i]?:=by rw [List.take_of_length_le (by omega)]
         have hm2:(i:Int)<(mid.length:Int):=by omega
         obtain⟨z,hz⟩:∃ z,mid[i]?=some z:=⟨_,List.getElem?_eq_getElem (by omega)⟩
         obtain⟨b2,o2,rfl,hb2,hzc⟩:=HROW.out i z hz
         have hbl:=Nat.lt_of_lt_of_le hb2 HU.out.kp.size
         obtain⟨hzb,g0,g1,g2,g3,g4⟩:=hzc.same (HU.out.kp.block b2 hb2 (fun h=>h))
         have hbx:=HBX.out _ HKU.out
         have HBY:=hid hzb
         have HRD:=hid (show t.round (mid.take 60) i=z.doR t.step.answer ms by unfold Sys.round;rw [hme,hz,HMS.out])
         have HDO:=hid (fun W (hk:Keeps (fun _=>False) wu W)=>mvdo a m z ms t.step.answer W (Duo.same HU.out hk) HUO.out (by omega) (by omega) HBY.out)
         clear hme hz hzc hzb hb2
         go_wp2_with fail
         refine (HDO.out _ (Keeps.refl _ _)).mono ?_
         rintro e w9 ⟨rfl,hd9,hk9⟩
         have HD9:=hid hd9;have HK9:=hid hk9
         clear hd9 hk9
         go_wp2_with fail
         refine⟨⟨i+1,by go_num,HNX.out,?_,?_⟩,by simp [intOf];omega⟩
         ·rw [HRG.out,HRD.out];exact HD9.out
         ·exact HKU.out.trans (HFU.out ▸ HK9.out)
        ·have hm2:¬ (i:Int)<(mid.length:Int):=by omega
         have hme:(mid.take 60)[i]?=none:=by rw [List.take_of_length_le (by omega),List.getElem?_eq_none (by omega)]
         have hbx:=HBX.out _ HKU.out
         have HRD:=hid (show t.round (mid.take 60) i=t.step.answer by unfold Sys.round;rw [hme])
         clear hme
         go_wp2_with fail
         refine⟨⟨i+1,by go_num,HNX.out,?_,HKU.out⟩,by simp [intOf];omega⟩
         rw [HRG.out,HRD.out];exact HU.out
   ·have HANS:=hid (show t.step.answer=t.step by unfold Sys.answer;rw [if_neg (by show ¬ ((t.M.stepR t.A).K.ph=1∨(t.M.stepR t.A).K.ph=2);rw [hq];exact hq12)])
    have hq1:((q:Int) == 1)=false:=by simp;omega
    have hq2:((q:Int) == 2)=false:=by simp;omega
    clear hq12 hq
    go_wp2_with fail
    refine (HEN.out).mono ?_
    rintro e w' ⟨rfl,h'⟩
    obtain rfl:=h'.symm
    go_wp2_with fail
    refine HST.out.mono ?_
    rintro e w3 ⟨rfl,hd3,hk3⟩
    have HD3:=hid hd3
    have HK3:=hid (HKR.out.trans (hk3.mono (T:=foot2 LA LM s) (fun y _ h=>HF2.out y h)))
    clear hd3 hk3
    go_wp2_with fail
    refine ((HPH.out _ HD3.out)).mono ?_
    rintro e w' ⟨rfl,h'⟩
    obtain rfl:=h'.symm
    obtain⟨wu,hwu⟩:∃ wu,wu=w3:=⟨_,rfl⟩
    subst hwu
    have HU:=hid (show Both w0 wu a m LA LM t.step.answer by rw [HANS.out];exact HD3.out)
    have HKU:=HK3
    clear HK3
    have hbw:=Nat.lt_of_lt_of_le hbl0 HKU.out.size
    rcases Nat.lt_or_ge 60 mid.length with hm60 | hm60
    ·have hm1:(60:Int)<(mid.length:Int):=by omega
     by_cases him:i<60
     ·have hm2:(i:Int)<60:=by omega
      have hm3:(i:Int)<(mid.length:Int):=by omega
      have hme:(mid.take 60)[i]?=mid[i]?:=by rw [List.getElem?_take,if_pos him]
      obtain⟨z,hz⟩:∃ z,mid[i]?=some z:=⟨_,List.getElem?_eq_getElem (by omega)⟩
      obtain⟨b2,o2,rfl,hb2,hzc⟩:=HROW.out i z hz
      have hbl:=Nat.lt_of_lt_of_le hb2 HU.out.kp.size
      obtain⟨hzb,g0,g1,g2,g3,g4⟩:=hzc.same (HU.out.kp.block b2 hb2 (fun h=>h))
      have hbx:=HBX.out _ HKU.out
      have HBY:=hid hzb
      have HRD:=hid (show t.round (mid.take 60) i=z.doR t.step.answer ms by unfold Sys.round;rw [hme,hz,HMS.out])
      have HDO:=hid (fun W (hk:Keeps (fun _=>False) wu W)=>mvdo a m z ms t.step.answer W (Duo.same HU.out hk) HUO.out (by omega) (by omega) HBY.out)
      clear hme hz hzc hzb hb2
      go_wp2_with fail
      refine (HDO.out _ (Keeps.refl _ _)).mono ?_
      rintro e w9 ⟨rfl,hd9,hk9⟩
      have HD9:=hid hd9;have HK9:=hid hk9
      clear hd9 hk9
      go_wp2_with fail
      refine⟨⟨i+1,by go_num,HNX.out,?_,?_⟩,by simp [intOf];omega⟩
      ·rw [HRG.out,HRD.out];exact HD9.out
      ·exact HKU.out.trans (HFU.out ▸ HK9.out)
     ·omega
    ·have hm1:¬ (60:Int)<(mid.length:Int):=by omega
     by_cases him:i<mid.length
     ·have hme:(mid.take 60)[i]?=mid[i]?:=by rw [List.take_of_length_le (by omega)]
      have hm2:(i:Int)<(mid.length:Int):=by omega
      obtain⟨z,hz⟩:∃ z,mid[i]?=some z:=⟨_,List.getElem?_eq_getElem (by omega)⟩
      obtain⟨b2,o2,rfl,hb2,hzc⟩:=HROW.out i z hz
      have hbl:=Nat.lt_of_lt_of_le hb2 HU.out.kp.size
      obtain⟨hzb,g0,g1,g2,g3,g4⟩:=hzc.same (HU.out.kp.block b2 hb2 (fun h=>h))
      have hbx:=HBX.out _ HKU.out
      have HBY:=hid hzb
      have HRD:=hid (show t.round (mid.take 60) i=z.doR t.step.answer ms by unfold Sys.round;rw [hme,hz,HMS.out])
      have HDO:=hid (fun W (hk:Keeps (fun _=>False) wu W)=>mvdo a m z ms t.step.answer W (Duo.same HU.out hk) HUO.out (by omega) (by omega) HBY.out)
      clear hme hz hzc hzb hb2
      go_wp2_with fail
      refine (HDO.out _ (Keeps.refl _ _)).mono ?_
      rintro e w9 ⟨rfl,hd9,hk9⟩
      have HD9:=hid hd9;have HK9:=hid hk9
      clear hd9 hk9
      go_wp2_with fail
      refine⟨⟨i+1,by go_num,HNX.out,?_,?_⟩,by simp [intOf];omega⟩
      ·rw [HRG.out,HRD.out];exact HD9.out
      ·exact HKU.out.trans (HFU.out ▸ HK9.out)
     ·have hm2:¬ (i:Int)<(mid.length:Int):=by omega
      have hme:(mid.take 60)[i]?=none:=by rw [List.take_of_length_le (by omega),List.getElem?_eq_none (by omega)]
      have hbx:=HBX.out _ HKU.out
      have HRD:=hid (show t.round (mid.take 60) i=t.step.answer by unfold Sys.round;rw [hme])
      clear hme
      go_wp2_with fail
      refine⟨⟨i+1,by go_num,HNX.out,?_,HKU.out⟩,by simp [intOf];omega⟩
      rw [HRG.out,HRD.out];exact HU.out
end Go.Proofs.YtnlkfbndlngjaaaGreat
namespace Go.Proofs.YtnlkfbndlngjaaaGreat
open Go.RowKit
set_option linter.unusedVariables false
theorem Mk.Ok.new {n k s p:Nat} (n1:1≤n) (n2:n≤256) (k1:1≤k) (k4:k≤4):(Mk.new n k s p).Ok:=
 ⟨n1,n2,k1,k4,Nat.zero_le _,fun _=>⟨Int.le_refl _,by show (0:Int)<n;omega⟩,fun _ _ _=>⟨Int.le_refl _,by show (0:Int)<n;omega⟩⟩
def Sys.new (n ms:Nat):Sys:=⟨Ar.new n ms 1,Mk.new n ms 2 2⟩
theorem Sys.Ok.new {n ms:Nat} (n1:1≤n) (n2:n≤256) (k1:1≤ms) (k4:ms≤4):(Sys.new n ms).Ok:=
 ⟨Ar.Ok.new n1 n2 k1 k4 (by omega) (by omega),Mk.Ok.new n1 n2 k1 k4,rfl,rfl,⟨fun _ h=>absurd h (Nat.not_lt_zero _),fun _ _ h=>absurd h (Nat.not_lt_zero _)⟩⟩
def Sys.moves (s:Sys) (l:List Mv) (ms:Nat):Nat→Sys
 | 0=>s
 | k+1=>match l[k]? with
  | some x=>x.doR (s.moves l ms k) ms
  | none=>s.moves l ms k
theorem Sys.moves_next {s:Sys} (h:s.Ok) (l:List Mv) (ms:Nat) (k:Nat):Sys.Next s (s.moves l ms k):=by
 induction k with
 | zero=>exact Sys.Next.refl h
 | succ k ih=>
  unfold Sys.moves
  split
  ·rename_i x _
   have h2:=Mv.next x ih.ok ms
   exact⟨h2.ok,h2.K.trans ih.K,h2.n.trans ih.n,ih.b.trans h2.b⟩
  ·exact ih
def Sys.made (n ms:Nat) (l mid:List Mv):Sys:=((Sys.new n ms).moves (l.take 60) ms (l.take 60).length).marked mid
theorem made25 (v:Value) (x y:Nat) (l mid:List Mv) (w:World) (hv:SetupAt w v x y l mid):
 Calls Tryz.prog 29 #[v] w fun e w'=>∃ a m LA LM w0,e = .returned (.tuple #[.pointer (some ⟨a,0,none⟩),.pointer (some ⟨m,0,none⟩),.bool true])∧Keeps (fun _=>False) w w0∧Both w0 w' a m LA LM (Sys.made (1+x % 24) (1+y % 2) l mid):=by
 have HVV:=hid hv
 obtain⟨hx,hy,v1,v2,rfl,hr1,hr2⟩:=hv
 obtain⟨a1,cap1,rfl,hc1,hc2,hr1⟩:=hr1
 have hrow:∀ (i:Nat) (z:Mv),l[i]?=some z→∃ b2 o2,a1=some ⟨b2,o2,none⟩∧b2<w.heap.size∧MvCell w b2 (o2+i * 5) z:=fun i z hz=>by
  rcases hr1 with rfl | ⟨b2,o2,e,hb,hc⟩
  ·cases hz
  ·exact⟨b2,o2,e,hb,hc i z hz⟩
 have HROW:=hid hrow
 have HSZ:=hid (fun W=>sizes25 x y (.slice a1 l.length cap1) v2 W hx hy)
 obtain⟨n,hnn⟩:∃ n,1+x % 24=n:=⟨_,rfl⟩
 obtain⟨ms,hmm⟩:∃ ms,1+y % 2=ms:=⟨_,rfl⟩
 have hn24:1≤n∧n≤24:=by omega
 have hms4:1≤ms∧ms≤2:=by omega
 have hmx:maxLen=maxLen:=rfl
 rw [hnn,hmm] at HSZ
 rw [hnn,hmm]
 obtain⟨wB,hwB⟩:∃ wB,w.alloc (.cells #[.int .u8 x,.int .u8 y,.slice a1 l.length cap1,v2] 24)=wB:=⟨_,rfl⟩
 have hkB:Keeps (fun _=>False) w wB:=by rw [← hwB];exact (Keeps.refl _ _).alloc _
 have hqB:wB.heap[w.heap.size]?=some (.cells #[.int .u8 x,.int .u8 y,.slice a1 l.length cap1,v2] 24):=by rw [← hwB];exact alloc_new
 have hbl0:=lt_block hqB
 obtain⟨z0,z1,z2,z3,_⟩:=cells4 hqB
 have HQB:=hid hqB;have HKB:=hid hkB
 clear hrow hr1 hr2 hqB
 go_enter Tryz.func29,Tryz.ntmps29
 go_wp2_with fail
 refine (HSZ.out _).mono ?_
 rintro e w1 ⟨rfl,hk1⟩
 have HK1:=hid (HKB.out.trans hk1)
 have HQ1:=hid (block_keep HQB.out hk1 (fun h=>h))
 clear hk1 hwB z0 z1 z2 z3
 go_wp2_with fail
 refine (anew_ok n ms 1 w1 (by omega) (by omega) (by omega) (by omega) (by omega) (by omega)).mono ?_
 rintro e w2 ⟨a,rfl,k2,ha⟩
 have HK2:=hid k2;have HA:=hid ha
 clear k2 ha
 go_wp2_with fail
 refine (mnew_ok n ms 2 2 w2 (by omega) (by omega) (by omega) (by omega) (by omega) (by omega) (by omega) (by omega)).mono ?_
 rintro e w3 ⟨rfl,k3,LM,hm,bm⟩
 obtain⟨LA,hduo⟩:=Duo.new (w0:=w1) HK2.out HA.out k3 hm bm
 obtain⟨m,hmm2⟩:∃ m,w2.heap.size=m:=⟨_,rfl⟩
 rw [hmm2] at hduo ⊢
 rw [Int.toNat_natCast] at hduo
 have HD3:=hid (show Both w1 w3 a m LA LM (Sys.new n ms) from hduo)
 have hq3:=block_keep HQ1.out HD3.out.kp (fun h=>h)
 obtain⟨z0,z1,z2,z3,_⟩:=cells4 hq3
 have hbl3:=lt_block hq3
 clear k3 hm bm hduo hmm2 HA HK2 hq3
 have HVW:=hid (HVV.out.keeps0 HK1.out)
 rcases Nat.lt_or_ge 60 l.length with h60 | h60
 ·have hm1:(60:Int)<(l.length:Int):=by omega
  have hN:(l.take 60).length=60:=by rw [List.length_take];omega
  go_wp2_with fail
  go_loopw [52] (fun ix wr=>∃ k:Nat,k≤60∧ix = .int .i64 k∧Both w1 wr a m LA LM ((Sys.new n ms).moves (l.take 60) ms k)) (fun ix _=>60 - (intOf ix).toNat)
  case atStart=>exact⟨0,Nat.zero_le _,rfl,HD3.out⟩
  case round=>
   obtain⟨k,hk,rfl,hdk⟩:=hrel
   clear z0 z1 z2 z3
   have hnx:=Sys.moves_next (Sys.Ok.new (n:=n) (ms:=ms) (by omega) (by omega) (by omega) (by omega)) (l.take 60) ms k
   by_cases hlt:k<60
   ·obtain⟨z,hz⟩:∃ z,l[k]?=some z:=⟨_,List.getElem?_eq_getElem (by omega)⟩
    have hz2:(l.take 60)[k]?=some z:=by rw [List.getElem?_take,if_pos (by omega),hz]
    obtain⟨b2,o2,rfl,hb2,hzc⟩:=HROW.out k z hz
    have kw:=HK1.out.trans hdk.kp
    have hbl:=Nat.lt_of_lt_of_le hb2 kw.size
    obtain⟨hzb,g0,g1,g2,g3,g4⟩:=hzc.same (kw.block b2 hb2 (fun h=>h))
    have hlt':(k:Int)<(60:Int):=by omega
    have hk0:(0:Int)≤k:=by omega
    have HMS:=hid (show (Sys.new n ms).moves (l.take 60) ms (k+1)=z.doR ((Sys.new n ms).moves (l.take 60) ms k) ms by
     show (match (l.take 60)[k]? with | some x=>x.doR ((Sys.new n ms).moves (l.take 60) ms k) ms | none=>_)=_
     rw [hz2])
    have HDO:=hid (fun W (hk:Keeps (fun _=>False) wr W)=>mvdo a m z ms _ W (Duo.same hdk hk) hnx.ok (by omega) (by omega) hzb)
    clear hdk hnx hz hz2 hzc hzb hb2 kw
    go_wp2_with fail
    refine (HDO.out _ ((Keeps.refl _ _).alloc _)).mono ?_
    rintro e w9 ⟨rfl,hd9,_⟩
    have HD9:=hid hd9
    clear hd9
    go_wp2_with fail
    refine⟨⟨k+1,by omega,by go_num,?_⟩,by simp [intOf];omega⟩
    rw [HMS.out];exact HD9.out
   ·obtain rfl:k=60:=by omega
    have hnl:¬ ((60:Nat):Int)<(60:Int):=by omega
    have hq:=block_keep HQ1.out hdk.kp (fun h=>h)
    obtain⟨y0,y1,y2,y3,_⟩:=cells4 hq
    have hblq:=lt_block hq
    have HMA:=hid (mark25 a m _ x y l mid _ wr hdk HVW.out hnx.ok (by rw [hnx.K];rfl) (by rw [hnx.n,hnn];rfl) (by rw [hnx.K,hmm];rfl) (by rw [hnx.K];show (0:Nat)<_;decide))
    have HRES:=hid (show Sys.made n ms l mid=((Sys.new n ms).moves (l.take 60) ms 60).marked mid by unfold Sys.made;rw [hN])
    clear hdk hnx hq
    go_wp2_with fail
    refine HMA.out.mono ?_
    rintro e w9 ⟨rfl,hd9,_⟩
    have HD9:=hid hd9
    clear hd9
    go_wp2_with fail
    refine bodyPost_ret_by (v:=.tuple #[.pointer (some ⟨a,0,none⟩),.pointer (some ⟨m,0,none⟩),.bool true]) (by simp [results,Tryz.results29,go_sem, *]) rfl ⟨a,m,LA,LM,w1,rfl,HK1.out,?_⟩
    rw [HRES.out];exact HD9.out
 ·have hm1:¬ (60:Int)<(l.length:Int):=by omega
  have hN:(l.take 60).length=l.length:=by rw [List.length_take];omega
  go_wp2_with fail
  go_loopw [52] (fun ix wr=>∃ k:Nat,k≤l.length∧ix = .int .i64 k∧Both w1 wr a m LA LM ((Sys.new n ms).moves (l.take 60) ms k)) (fun ix _=>l.length - (intOf ix).toNat)
  case atStart=>exact⟨0,Nat.zero_le _,rfl,HD3.out⟩
  case round=>
   obtain⟨k,hk,rfl,hdk⟩:=hrel
   clear z0 z1 z2 z3
   have hnx:=Sys.moves_next (Sys.Ok.new (n:=n) (ms:=ms) (by omega) (by omega) (by omega) (by omega)) (l.take 60) ms k
   by_cases hlt:k<l.length
   ·obtain⟨z,hz⟩:∃ z,l[k]?=some z:=⟨_,List.getElem?_eq_getElem (by omega)⟩
    have hz2:(l.take 60)[k]?=some z:=by rw [List.getElem?_take,if_pos (by omega),hz]
    obtain⟨b2,o2,rfl,hb2,hzc⟩:=HROW.out k z hz
    have kw:=HK1.out.trans hdk.kp
    have hbl:=Nat.lt_of_lt_of_le hb2 kw.size
    obtain⟨hzb,g0,g1,g2,g3,g4⟩:=hzc.same (kw.block b2 hb2 (fun h=>h))
    have hlt':(k:Int)<(l.length:Int):=by omega
    have hk0:(0:Int)≤k:=by omega
    have HMS:=hid (show (Sys.new n ms).moves (l.take 60) ms (k+1)=z.doR ((Sys.new n ms).moves (l.take 60) ms k) ms by
     show (match (l.take 60)[k]? with | some x=>x.doR ((Sys.new n ms).moves (l.take 60) ms k) ms | none=>_)=_
     rw [hz2])
    have HDO:=hid (fun W (hk:Keeps (fun _=>False) wr W)=>mvdo a m z ms _ W (Duo.same hdk hk) hnx.ok (by omega) (by omega) hzb)
    clear hdk hnx hz hz2 hzc hzb hb2 kw
    go_wp2_with fail
    refine (HDO.out _ ((Keeps.refl _ _).alloc _)).mono ?_
    rintro e w9 ⟨rfl,hd9,_⟩
    have HD9:=hid hd9
    clear hd9
    go_wp2_with fail
    refine⟨⟨k+1,by omega,by go_num,?_⟩,by simp [intOf];omega⟩
    rw [HMS.out];exact HD9.out
   ·obtain rfl:k=l.length:=by omega
    have hnl:¬ ((l.length:Nat):Int)<(l.length:Int):=by omega
    have hq:=block_keep HQ1.out hdk.kp (fun h=>h)
    obtain⟨y0,y1,y2,y3,_⟩:=cells4 hq
    have hblq:=lt_block hq
    have HMA:=hid (mark25 a m _ x y l mid _ wr hdk HVW.out hnx.ok (by rw [hnx.K];rfl) (by rw [hnx.n,hnn];rfl) (by rw [hnx.K,hmm];rfl) (by rw [hnx.K];show (0:Nat)<_;decide))
    have HRES:=hid (show Sys.made n ms l mid=((Sys.new n ms).moves (l.take 60) ms l.length).marked mid by unfold Sys.made;rw [hN])
    clear hdk hnx hq
    go_wp2_with fail
    refine HMA.out.mono ?_
    rintro e w9 ⟨rfl,hd9,_⟩
    have HD9:=hid hd9
    clear hd9
    go_wp2_with fail
    refine bodyPost_ret_by (v:=.tuple #[.pointer (some ⟨a,0,none⟩),.pointer (some ⟨m,0,none⟩),.bool true]) (by simp [results,Tryz.results29,go_sem, *]) rfl ⟨a,m,LA,LM,w1,rfl,HK1.out,?_⟩
    rw [HRES.out];exact HD9.out
end Go.Proofs.YtnlkfbndlngjaaaGreat
namespace Go.Proofs.YtnlkfbndlngjaaaGreat
open Go.ChangeShapes Go.WideShapes Go.ChangeAt Go.RowKit Go.Deep
set_option linter.unusedVariables false
def ks5:List Flat:=[.int .u8,.int .u8,.int .u8,.int .u8,.int .u8]
theorem mvcell_of {w:World} {b o:Nat} (h:CellsAt w b o ks5):∃ x,MvCell w b o x:=by
 obtain⟨_,h0,k0⟩:=h 0 _ rfl
 obtain⟨_,h1,k1⟩:=h 1 _ rfl
 obtain⟨_,h2,k2⟩:=h 2 _ rfl
 obtain⟨_,h3,k3⟩:=h 3 _ rfl
 obtain⟨_,h4,k4⟩:=h 4 _ rfl
 obtain⟨a0,rfl,l0⟩:=byte_of k0
 obtain⟨a1,rfl,l1⟩:=byte_of k1
 obtain⟨a2,rfl,l2⟩:=byte_of k2
 obtain⟨a3,rfl,l3⟩:=byte_of k3
 obtain⟨a4,rfl,l4⟩:=byte_of k4
 exact⟨⟨a0,a1,a2,a3,a4⟩,⟨l0,l1,l2,l3,l4⟩,h0,h1,h2,h3,h4⟩
theorem mvrow_of {w:World} {a:Option Addr} {len cap:Nat} (h1:len≤cap) (h2:cap≤maxLen) (h:len=0∨∃ b off,a=some ⟨b,off,none⟩∧b<w.heap.size∧∀ i,i<len→CellsAt w b (off+i * ks5.length) ks5):
 ∃ l,MvRow w (.slice a len cap) l:=by
 rcases h with rfl | ⟨b,off,rfl,hb,hx⟩
 ·exact⟨[],a,cap,rfl,h1,h2,.inl rfl⟩
 ·have hc:∀ i:Nat,∃ x,i<len→MvCell w b (off+i * 5) x:=fun i=>by
   by_cases hi:i<len
   ·obtain⟨x,hx⟩:=mvcell_of (hx i hi);exact⟨x,fun _=>hx⟩
   ·exact⟨⟨0,0,0,0,0⟩,fun h=>absurd h hi⟩
  obtain⟨f,hf⟩:=Classical.axiomOfChoice hc
  refine⟨(List.range len).map f,_,cap,by simp,by simpa using h1,h2,.inr ⟨b,off,rfl,hb,fun i x hi=>?_⟩⟩
  rw [List.getElem?_map] at hi
  by_cases hl:i<len
  ·rw [List.getElem?_range hl] at hi
   simp only [Option.map_some,Option.some.injEq] at hi
   subst hi
   exact hf i hl
  ·rw [List.getElem?_eq_none (by simpa using hl)] at hi
   cases hi
theorem setup25_shape {H:Type} {enc:TypeId × Value→H} {w:World} {base:Nat} {spare:Nat→Bool} {held:Bool} {r:Reach} {b0:Nat} {v:Value} {d:DataW H} {p:List MemPlace} (hv:Value.okWide Tryz.prog w r b0 24 v)
 (h:DataW.Trod enc Tryz.prog w base spare held 24 v d p):∃ x y l mid,SetupAt w v x y l mid:=by
 obtain⟨cs,rfl,hs,hf⟩:=open_fields Tryz.underlying24 hv h
 have hs4:cs.size=4:=hs.trans (by kernel_rfl)
 obtain⟨n0,x0,g0⟩:=hf 0 _ rfl
 have f0:DataW.trod enc Tryz.prog w base spare held n0 5 ((cs.toList.drop 0).take (Tryz.prog.cellsOf 5))=some x0:=g0
 obtain⟨n1,x1,g1⟩:=hf 1 _ rfl
 have f1:DataW.trod enc Tryz.prog w base spare held n1 5 ((cs.toList.drop 1).take (Tryz.prog.cellsOf 5))=some x1:=g1
 obtain⟨n2,x2,g2⟩:=hf 2 _ rfl
 have f2:DataW.trod enc Tryz.prog w base spare held n2 22 ((cs.toList.drop 2).take (Tryz.prog.cellsOf 22))=some x2:=g2
 obtain⟨n3,x3,g3⟩:=hf 3 _ rfl
 have f3:DataW.trod enc Tryz.prog w base spare held n3 22 ((cs.toList.drop 3).take (Tryz.prog.cellsOf 22))=some x3:=g3
 have c1:Tryz.prog.cellsOf 5=1:=by kernel_rfl
 have c2:Tryz.prog.cellsOf 22=1:=by kernel_rfl
 rw [c1] at f0 f1
 rw [c2] at f2 f3
 obtain⟨_,hu0,hk0⟩:=flat_at 8 5 [.int .u8] (by kernel_rfl) _ _ _ f0 0 _ rfl
 obtain⟨_,hu1,hk1⟩:=flat_at 8 5 [.int .u8] (by kernel_rfl) _ _ _ f1 0 _ rfl
 obtain⟨a,rfl,ha⟩:=byte_of hk0
 obtain⟨b,rfl,hb⟩:=byte_of hk1
 obtain⟨a2,l2,k2,e2,h2,h2',h2x⟩:=open_flat_slice_at (ks:=ks5) Tryz.underlying22 (by kernel_rfl) (by kernel_rfl) (by decide) f2
 obtain⟨a3,l3,k3,e3,h3,h3',h3x⟩:=open_flat_slice_at (ks:=ks5) Tryz.underlying22 (by kernel_rfl) (by kernel_rfl) (by decide) f3
 obtain⟨wl,hwl⟩:=mvrow_of h2 h2' h2x
 obtain⟨ml,hml⟩:=mvrow_of h3 h3' h3x
 refine⟨a,b,wl,ml,ha,hb,_,_,?_,hwl,hml⟩
 clear g0 g1 g2 g3
 have g0:cs[0]?=some (.int .u8 a):=by simpa using hu0
 have g1:cs[1]?=some (.int .u8 b):=by simpa using hu1
 have g2:cs[2]?=some (.slice a2 l2 k2):=by
  have:=congrArg (fun l=>l[0]?) e2
  simpa using this
 have g3:cs[3]?=some (.slice a3 l3 k3):=by
  have:=congrArg (fun l=>l[0]?) e3
  simpa using this
 refine congrArg Value.agg (arr_eq (l:=[.int .u8 a,.int .u8 b,.slice a2 l2 k2,.slice a3 l3 k3]) hs4 (fun i u hu=>?_))
 match i,hu with
 | 0,hu=>rw [g0];exact hu
 | 1,hu=>rw [g1];exact hu
 | 2,hu=>rw [g2];exact hu
 | 3,hu=>rw [g3];exact hu
 | n+4,hu=>simp at hu
end Go.Proofs.YtnlkfbndlngjaaaGreat
