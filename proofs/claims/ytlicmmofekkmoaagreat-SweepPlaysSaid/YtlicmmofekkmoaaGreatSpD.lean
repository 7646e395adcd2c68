import Derived.Test.YtlicmmofekkmoaaGreatNgE
import Derived.Test.YtlicmmofekkmoaaGreatSpC
set_option maxHeartbeats 4000000
set_option maxRecDepth 100000
namespace Go.Proofs.YtlicmmofekkmoaaGreat
open Go.RowKit
set_option linter.unusedVariables false
set_option linter.unusedSimpArgs false
structure Tw (w0 w:World) (a m:Nat) (LA:ArL) (LM:MkL) (x y b b2:Nat) (s t:Sys) (S T:Sw):Prop where
 fo:Fo (fun _=>False) w0 w a m LA LM x y s.A s.M t.A t.M 2
 sw:SwAt w b S
 hb:w0.heap.size≤b
 dw:DwAt w b2 T
 hb2:w0.heap.size≤b2
section
variable {w0 w w':World} {a m x y b b2:Nat} {LA:ArL} {LM:MkL} {s t s' t':Sys} {S T S' T':Sw}
theorem Tw.both (h:Tw w0 w a m LA LM x y b b2 s t S T):Both w0 w a m LA LM s:=h.fo.du
theorem Tw.fd (h:Tw w0 w a m LA LM x y b b2 s t S T):FD w0 w a m LA LM x y s.A s.M t 2:=h.fo
theorem Tw.quiet (h:Tw w0 w a m LA LM x y b b2 s t S T) (hk:Keeps (fun _=>False) w w'):Tw w0 w' a m LA LM x y b b2 s t S T:=
 ⟨h.fo.quiet hk,h.sw.keeps hk (fun h=>h),h.hb,block_keep h.dw hk (fun h=>h),h.hb2⟩
theorem Tw.prog (h:Tw w0 w a m LA LM x y b b2 s t S T) (hd:Both w0 w' a m LA LM s') (hs:SwAt w' b S') (hk:Keeps (fun z=>z=b∨foot2 LA LM s z) w w'):Tw w0 w' a m LA LM x y b b2 s' t S' T:=by
 obtain⟨LR,h1,h2,h4⟩:=h.fo.doc
 have ty:∀ z c u,w.heap[z]?=some (.cells c u)→(z=b∨foot2 LA LM s z)→u=78∨PTy u:=fun z c u hz e=>by
  rcases e with rfl | e | e
  ·have hq:=h.sw.own
   rw [hz] at hq
   simp at hq
   exact .inl hq.2
  ·exact .inr (ty_of (h.fo.du.ar.blk e) hz)
  ·exact .inr (ty_of (h.fo.du.mm.blk e) hz)
 refine⟨⟨hd,h.fo.lx,⟨LR,h1,h2.keeps hk (fun z c u hz ht e=>?_),h4⟩,h.fo.d.other hk (fun z c u hz e=>?_)⟩,hs,h.hb,block_keep h.dw hk (fun e=>?_),h.hb2⟩
 ·rcases ty z c u hz e with h' | h'
  ·rw [h'] at ht;revert ht;decide
  ·rcases ht with rfl | rfl | rfl | rfl | rfl <;> revert h' <;> decide
 ·rcases ty z c u hz e with rfl | h'
  ·decide
  ·exact h'.w
 ·rcases ty b2 _ _ h.dw e with h' | h'
  ·revert h';decide
  ·revert h';decide
theorem Tw.docu (h:Tw w0 w a m LA LM x y b b2 s t S T) (hf:FD w0 w' a m LA LM x y s.A s.M t' 2) (hT:DwAt w' b2 T') (hk:Keeps (fun z=>z=b2∨Ft w w0.heap.size z) w w'):Tw w0 w' a m LA LM x y b b2 s t' S T':=by
 refine⟨hf,h.sw.keeps hk (fun e=>?_),h.hb,hT,h.hb2⟩
 have hq:=h.sw.own
 rcases e with rfl | ⟨_,c,u,hc,ht⟩
 ·have hq2:=h.dw
  unfold DwAt at hq2
  rw [hq] at hq2
  simp at hq2
 ·rw [hq] at hc
  simp at hc
  rw [← hc.2] at ht
  revert ht;decide
structure TwOk (n ms:Nat) (s:Sys) (S:Sw):Prop where
 ok:s.Ok
 ph:s.M.K.ph=5
 pn:s.M.P.n=n
 pms:s.M.K.many=ms
 sz:S.size=n
theorem Sw.stepR_ok {n ms:Nat} (h:TwOk n ms s S) (hlt:S.next<n):TwOk n ms (S.stepR s).s (S.stepR s).S:=by
 unfold Sw.stepR
 split
 ·exact⟨h.ok,h.ph,h.pn,h.pms,h.sz⟩
 ·rename_i hc
  have hc0:s.M.P.c S.next=0:=by
   by_cases e:s.M.P.c S.next=0
   ·exact e
   ·exact absurd (.inl e) hc
  have e:(s.M.freedR (S.next:Int)).1={ s.M with P:=s.M.P.put S.next 0 }:=by
   unfold Mk.freedR;rw [if_neg (by have:=h.pn;omega),Int.toNat_natCast]
  refine⟨h.ok.free (by rw [h.pn];exact hlt) hc0,?_,?_,?_,h.sz⟩
  ·show ((s.M.freedR (S.next:Int)).1).K.ph=5
   rw [e];exact h.ph
  ·show ((s.M.freedR (S.next:Int)).1).P.n=n
   rw [e];exact h.pn
  ·show ((s.M.freedR (S.next:Int)).1).K.many=ms
   rw [e];exact h.pms
theorem TwOk.move {n ms:Nat} (h:TwOk n ms s S) (z:Mv):TwOk n ms (z.doR s ms) S:=by
 have hn:=z.next h.ok ms
 exact⟨hn.ok,by rw [hn.K];exact h.ph,hn.n.trans h.pn,by rw [hn.K];exact h.pms,h.sz⟩
def Sw.go (S:Sw) (s:Sys):SwRes:=if S.next=S.size then ⟨S,s,.no,false⟩ else S.stepR s
def Sw.goE (S:Sw):Int:=if S.next=S.size then 8 else 0
theorem Sw.go_ok {n ms:Nat} (h:TwOk n ms s S) (hn:S.next≤S.size):TwOk n ms (S.go s).s (S.go s).S:=by
 unfold Sw.go
 split
 ·exact h
 ·rename_i e
  exact Sw.stepR_ok h (by have:=h.sz;omega)
theorem Tw.pstep {n ms:Nat} (h:Tw w0 w a m LA LM x y b b2 s t S T) (hk:TwOk n ms s S):
 Calls Tryz.prog 11 #[.pointer (some ⟨b,0,none⟩),.pointer (some ⟨a,0,none⟩),.pointer (some ⟨m,0,none⟩)] w fun e w'=>e = .returned (.tuple #[(S.go s).r.val,.bool (S.go s).is,.int .i64 S.goE])∧Tw w0 w' a m LA LM x y b b2 (S.go s).s t (S.go s).S T:=by
 have hA:s.A.H.T.n=S.size:=by rw [hk.ok.n,hk.pn,hk.sz]
 have hM:s.M.P.n=S.size:=by rw [hk.pn,hk.sz]
 unfold Sw.go Sw.goE
 split
 ·rename_i e
  have hc:S.chk s.A s.M=8:=by unfold Sw.chk;rw [if_neg (by omega),if_pos (.inl e)]
  refine (swstep_err (w0:=w0) (LA:=LA) (LM:=LM) _ _ b w 8 (by decide) (fun W k=>?_)).mono ?_
  ·have:=swcheck b a m S LA LM s.A s.M W (h.sw.keeps k (fun h=>h)) (h.both.ar.keeps0 k) (h.both.mm.keeps0 k)
   rw [hc] at this
   exact this
  ·rintro e' w' ⟨rfl,k⟩
   exact⟨rfl,h.quiet k⟩
 ·rename_i e
  have hc:S.chk s.A s.M=0:=by unfold Sw.chk;rw [if_neg (by omega),if_neg (by have:=hk.ph;omega)]
  refine (swstep_ok a m b s S w h.both h.sw h.hb hk.ok hc).mono ?_
  rintro e' w' ⟨rfl,h1,h2,h3⟩
  exact⟨rfl,h.prog h1 h2 h3⟩
theorem Tw.dstep {n ms:Nat} (h:Tw w0 w a m LA LM x y b b2 s t S T) (hk:TwOk n ms t T) (hx:T.next≤T.size∧T.n≤T.next) (h1:1≤n) (h2:n≤256):
 Calls Tryz.prog 12 #[.pointer (some ⟨b2,0,none⟩),.pointer (some ⟨x,0,none⟩),.pointer (some ⟨y,0,none⟩)] w fun e w'=>e = .returned (.tuple #[(T.go t).r.val,.bool (T.go t).is,.int .i64 T.goE])∧Tw w0 w' a m LA LM x y b b2 s (T.go t).s S (T.go t).S∧Keeps (fun z=>z=b2∨Ft w w0.heap.size z) w w':=by
 have hM:t.M.P.n=T.size:=by rw [hk.pn,hk.sz]
 have hs:=hk.sz
 unfold Sw.go Sw.goE
 split
 ·rename_i e
  refine (dsw_end h.fd h.dw hM (by omega) (by omega) hk.ok hk.ph e).mono ?_
  rintro e' w' ⟨rfl,k⟩
  exact⟨rfl,h.quiet k,k.up⟩
 ·rename_i e
  refine (dsw_step h.fd h.dw h.hb2 hM (by omega) (by omega) hk.ok hk.ph (by omega) hx.2).mono ?_
  rintro e' w' ⟨rfl,g1,g2,g3⟩
  exact⟨rfl,h.docu g1 g2 g3,g3⟩
theorem Tw.refk {B:Nat} {c:Array Value} (h:Tw w0 w a m LA LM x y b b2 s t S T) (hq:w.heap[B]?=some (.cells c 45)) (hk:Keeps (fun z=>z=b2∨Ft w w0.heap.size z) w w'):w'.heap[B]?=some (.cells c 45):=
 block_keep hq hk (fun e=>by
  rcases e with rfl | ⟨_,c',u,hc,ht⟩
  ·have hq2:=h.dw
   unfold DwAt at hq2
   rw [hq] at hq2
   simp at hq2
  ·rw [hq] at hc
   simp at hc
   rw [← hc.2] at ht
   revert ht;decide)
end
theorem sweepPlays_walk (v lv:Value) (sx sy again:Nat) (l0 mid l:List Mv) (w:World) (hv:SetupAt w v sx sy l0 mid) (hl:MvRow w lv l) (hag:again<256):
 Calls Tryz.prog 3 #[v,lv,.int .u8 again] w fun e w'=>e = .returned (.bool true)∧Keeps (fun _=>False) w w':=by
 have HV:=hid hv
 obtain⟨hx,hy,v1,v2,rfl,_,_⟩:=hv
 obtain⟨la,lcap,rfl,lc1,lc2,hlr⟩:=hl
 have HROW0:=hid (show ∀ (i:Nat) (z:Mv),l[i]?=some z→∃ b2 o2,la=some ⟨b2,o2,none⟩∧b2<w.heap.size∧MvCell w b2 (o2+i * 5) z from fun i z hz=>by
  rcases hlr with rfl | ⟨b2,o2,e,hb,hc⟩
  ·cases hz
  ·exact⟨b2,o2,e,hb,hc i z hz⟩)
 have HSZ:=hid (fun W=>sizes25 sx sy v1 v2 W hx hy)
 have HMD:=hid (fun W (hk:Keeps (fun _=>False) w W)=>made25 _ sx sy l0 mid W (HV.out.keeps0 hk))
 have HAL:=hid (fun (n ms:Nat) (n1:1≤n) (n2:n≤256) (k1:1≤ms) (k4:ms≤4)=>made_all n1 n2 k1 k4 l0 mid)
 obtain⟨n,hnn⟩:∃ n,1+sx % 24=n:=⟨_,rfl⟩
 obtain⟨ms,hmm⟩:∃ ms,1+sy % 2=ms:=⟨_,rfl⟩
 have hn24:1≤n∧n≤24:=by omega
 have hms4:1≤ms∧ms≤2:=by omega
 rw [hnn,hmm] at HSZ HMD
 obtain⟨wB,hwB⟩:∃ wB,w.alloc (.cells #[.int .u8 sx,.int .u8 sy,v1,v2] 24)=wB:=⟨_,rfl⟩
 have hkB:Keeps (fun _=>False) w wB:=by rw [← hwB];exact (Keeps.refl _ _).alloc _
 have HQB:=hid (show wB.heap[w.heap.size]?=some (.cells #[.int .u8 sx,.int .u8 sy,v1,v2] 24) from by rw [← hwB];exact alloc_new)
 have HBX:=hid (fun W (hk:Keeps (fun _=>False) wB W)=>cells4 (block_keep HQB.out hk (fun h=>h)))
 have HKB:=hid hkB
 obtain⟨z0,z1,z2,z3,_⟩:=cells4 HQB.out
 clear hlr hkB
 go_enter Tryz.func3,Tryz.ntmps3
 go_wp2_with fail
 refine (HMD.out _ HKB.out).mono ?_
 rintro e w1 ⟨a,m,LA,LM,w0,rfl,k0,hd1⟩
 have K0:=hid k0;have HD1:=hid hd1
 have K01:=hid (k0.trans hd1.kp)
 clear hwB z0 z1 z2 z3 k0 hd1
 obtain⟨z0,z1,z2,z3,_⟩:=HBX.out _ K01.out
 have HMR:=hid (madeRef25 _ sx sy l0 mid HD1.out (HV.out.keeps0 (HKB.out.trans K0.out)))
 rw [hnn,hmm] at HMR
 obtain⟨s0,hs0⟩:∃ s0,Sys.made n ms l0 mid=s0:=⟨_,rfl⟩
 have HAL2:=hid (HAL.out n ms hn24.1 (by omega) hms4.1 (by omega))
 rw [hs0] at HMR HD1 HAL2
 go_wp2_with fail
 refine HMR.out.mono ?_
 rintro e w2 ⟨x,y,rfl,hf2,_⟩
 have HF2:=hid hf2
 have K02:=hid (K0.out.trans hf2.kp)
 clear hf2 z0 z1 z2 z3 HMR
 obtain⟨z0,z1,z2,z3,_⟩:=HBX.out _ K02.out
 go_wp2_with fail
 refine (HSZ.out _).mono ?_
 rintro e w3 ⟨rfl,k3⟩
 have HF3:=hid (HF2.out.quiet k3)
 clear k3 z0 z1 z2 z3
 go_wp2_with fail
 refine (swnew_ok n w3 (by omega) (by omega)).mono ?_
 rintro e w4 ⟨rfl,k4,hsw⟩
 have HF4:=hid (HF3.out.quiet k4);have HSW:=hid hsw
 have hz3:=HF3.out.kp.size
 have hz4:=HF4.out.kp.size
 obtain⟨b,hb⟩:∃ b,w3.heap.size=b:=⟨_,rfl⟩
 rw [hb] at HSW hz3 ⊢
 clear k4 hsw hb
 go_wp2_with fail
 refine (new25_ok n w4 (by omega) (by omega)).mono ?_
 rintro e w5 ⟨rfl,k5,hq5⟩
 obtain⟨b2,hb2⟩:∃ b2,w4.heap.size=b2:=⟨_,rfl⟩
 rw [hb2] at hq5 hz4 ⊢
 have HT5:=hid (show Tw w0 w5 a m LA LM x y b b2 s0 s0 ⟨n,n,0⟩ ⟨n,n,0⟩ from⟨HF4.out.quiet k5,HSW.out.keeps k5 (fun h=>h),hz3,hq5,hz4⟩)
 have HOK5:=hid (show TwOk n ms s0 ⟨n,n,0⟩ from⟨HAL2.out.1,HAL2.out.2.1,HAL2.out.2.2.2.2,HAL2.out.2.2.2.1,rfl⟩)
 have HROW:=hid (show ∀ (i:Nat) (z:Mv),l[i]?=some z→∃ b2 o2,la=some ⟨b2,o2,none⟩∧b2<w0.heap.size∧MvCell w0 b2 (o2+i * 5) z from fun i z hz=>by
  obtain⟨b2,o2,e,hb,hc⟩:=HROW0.out i z hz
  have kw:=HKB.out.trans K0.out
  exact⟨b2,o2,e,Nat.lt_of_lt_of_le hb kw.size,hc.same (kw.block b2 hb (fun h=>h))⟩)
 have HKW:=hid (HKB.out.trans K0.out)
 obtain⟨q,hq⟩:∃ q,again % (2 * n)=q:=⟨_,rfl⟩
 have hq1:(again:Int) % (2 * (n:Int))=(q:Int):=by rw [← hq];simp
 have hq2:(again:Int).tmod (2 * (n:Int))=(q:Int):=by rw [Int.tmod_eq_emod_of_nonneg (by omega)];exact hq1
 have hqn:q<2 * n:=by rw [← hq];exact Nat.mod_lt _ (by omega)
 have hw1:IntKind.i64.wrap (2 * (n:Int))=2 * (n:Int):=IntWalk.i64_in _ (by omega)
 have hw2:IntKind.i64.wrap (2 * (n:Int)+4)=2 * (n:Int)+4:=IntWalk.i64_in _ (by omega)
 have hw3:IntKind.i64.wrap (again:Int)=(again:Int):=IntWalk.i64_in _ (by omega)
 have hw4:IntKind.i64.wrap (q:Int)=(q:Int):=IntWalk.i64_in _ (by omega)
 have hw5:IntKind.i64.wrap (2+(q:Int))=2+(q:Int):=IntWalk.i64_in _ (by omega)
 clear hb2 hq5 k5 HF2 HF3 HF4 HSW HD1 K01 K02 HBX HQB HV HROW0 HMD HAL HAL2 HSZ hq
 go_wp2_with fail
 go_loopw [74] (fun ix wr=>∃ (i:Nat) (s:Sys) (S:Sw),i≤2 * n+4∧ix = .int .i64 i∧Hid (Tw w0 wr a m LA LM x y b b2 s s S S)∧Hid (TwOk n ms s S)) (fun ix _=>2 * n+4 - (intOf ix).toNat)
 case atStart=>exact⟨0,s0,_,Nat.zero_le _,rfl,HT5,HOK5⟩
 case round=>
  clear HT5 HOK5
  obtain⟨i,s,S,hi,rfl,HT0,HOK0⟩:=hrel
  have hi0:(0:Int)≤i:=by omega
  by_cases hlt:i<2 * n+4
  ·have hlt':(i:Int)<2 * (n:Int)+4:=by omega
   by_cases hc:i=1∨i=2+q
   ·have hc':((i:Int) == 1)=true∨((i:Int) == 1)=false∧((i:Int) == 2+(q:Int))=true:=by
     by_cases e:i=1
     ·exact .inl (by simp [e])
     ·exact .inr ⟨by simp;omega,by simp;omega⟩
    clear hc
    rcases hc' with hc1 | ⟨hc1,hc2⟩
    all_goals
     go_wp2_with fail
     refine (swbegin_ok b S _ HT0.out.sw).mono ?_
     rintro e wa ⟨rfl,ka,hsa⟩
     have HTA:=hid (HT0.out.prog (HT0.out.both.sw HT0.out.sw ka HT0.out.hb) hsa (ka.mono (fun _ _ h=>.inl h)))
     clear ka hsa
     go_wp2_with fail
     refine (dsw_begin HTA.out.dw).mono ?_
     rintro e wv ⟨rfl,kv,hdv⟩
     have HT1:=hid (HTA.out.docu (show FD w0 wv a m LA LM x y s.A s.M s 2 from Fo.own HTA.out.fo HTA.out.dw HTA.out.hb2 kv) hdv (kv.mono (fun _ _ h=>.inl h)))
     have HOK1:=hid (show TwOk n ms s ⟨S.size,0,0⟩ from⟨HOK0.out.ok,HOK0.out.ph,HOK0.out.pn,HOK0.out.pms,HOK0.out.sz⟩)
     obtain⟨S,hS⟩:∃ S',(⟨S.size,0,0⟩:Sw)=S':=⟨_,rfl⟩
     rw [hS] at HT1 HOK1
     clear kv hdv HTA HT0 HOK0 hS
     go_wp2_with fail
     have HPS:=hid (HT1.out.pstep HOK1.out)
     have HNX:=hid (And.intro HT1.out.sw.nx HT1.out.sw.nn)
     obtain⟨R,hR⟩:∃ R,S.go s=R:=⟨_,rfl⟩
     have HGO:=hid (show TwOk n ms R.s R.S by rw [← hR];exact Sw.go_ok HOK1.out HT1.out.sw.nx)
     have HDSX:=hid (fun W (hT:Tw w0 W a m LA LM x y b b2 R.s s R.S S)=>(by have:=hT.dstep HOK1.out HNX.out (by omega) (by omega);rw [hR] at this;exact this:Calls Tryz.prog 12 #[.pointer (some ⟨b2,0,none⟩),.pointer (some ⟨x,0,none⟩),.pointer (some ⟨y,0,none⟩)] W fun e w'=>e = .returned (.tuple #[R.r.val,.bool R.is,.int .i64 S.goE])∧Tw w0 w' a m LA LM x y b b2 R.s R.s R.S R.S∧Keeps (fun z=>z=b2∨Ft W w0.heap.size z) W w'))
     rw [hR] at HPS
     obtain⟨E,hE⟩:∃ E,S.goE=E:=⟨_,rfl⟩
     rw [hE] at HPS HDSX
     clear hR hE
     go_wp2_with fail
     refine HPS.out.mono ?_
     rintro e w3 ⟨rfl,ht3⟩
     dsimp only [Rf.val]
     have HT3:=hid ht3
     clear ht3 HPS
     obtain⟨w4,hw4⟩:∃ w4,w3.alloc (.cells #[.int .i64 R.r.s,.int .u32 R.r.g] 45)=w4:=⟨_,rfl⟩
     have HT4:=hid (show Tw w0 w4 a m LA LM x y b b2 R.s s R.S S from by rw [← hw4];exact HT3.out.quiet ((Keeps.refl _ _).alloc _))
     have HQ4:=hid (show w4.heap[w3.heap.size]?=some (.cells #[.int .i64 R.r.s,.int .u32 R.r.g] 45) from by rw [← hw4];exact alloc_new)
     have HDS:=hid (HDSX.out _ HT4.out)
     go_wp2_with fail
     try rw [hw4]
     clear hw4 HT3
     refine HDS.out.mono ?_
     rintro e w5 ⟨rfl,ht5,hk5⟩
     dsimp only [Rf.val]
     have HT5:=hid ht5;have HQ5:=hid (HT4.out.refk HQ4.out hk5)
     clear ht5 hk5 HDS HT4 HQ4
     obtain⟨w6,hw6⟩:∃ w6,w5.alloc (.cells #[.int .i64 R.r.s,.int .u32 R.r.g] 45)=w6:=⟨_,rfl⟩
     have k6:Keeps (fun _=>False) w5 w6:=by rw [← hw6];exact (Keeps.refl _ _).alloc _
     have HT6:=hid (HT5.out.quiet k6)
     have HQ6:=hid (block_keep HQ5.out k6 (fun h=>h))
     have HP6:=hid (show w6.heap[w5.heap.size]?=some (.cells #[.int .i64 R.r.s,.int .u32 R.r.g] 45) from by rw [← hw6];exact alloc_new)
     obtain⟨q0,q1,_,ql⟩:=cells2 HQ6.out
     obtain⟨p0,p1,_,pl⟩:=cells2 HP6.out
     have hql:=fun W=>eql_ref W R.r.s R.r.g R.r.s R.r.g
     rw [show (R.r.s == R.r.s && R.r.g == R.r.g)=true by simp] at hql
     go_wp2_with fail
     try rw [hw6]
     refine ((swat_ok b R.S _ HT6.out.sw)).mono ?_
     rintro e w' ⟨rfl,h'⟩
     obtain rfl:=h'.symm
     go_wp2_with fail
     refine ((dsw_at HT6.out.dw)).mono ?_
     rintro e w' ⟨rfl,h'⟩
     obtain rfl:=h'.symm
     go_wp2_with fail
     refine (swdone_ok b R.S _ HT6.out.sw).mono ?_
     rintro e w7 ⟨rfl,k7⟩
     have HT7:=hid (HT6.out.quiet k7)
     have HDN:=hid (dsw_done HT7.out.dw)
     obtain⟨dn,hdn⟩:∃ dn,(R.S.next == R.S.size)=dn:=⟨_,rfl⟩
     rw [show ((R.S.next:Int) == (R.S.size:Int))=dn by rw [← hdn,Bool.eq_iff_iff];simp;omega] at HDN
     rw [hdn]
     clear k7 q0 q1 p0 p1 hql hdn
     go_wp2_with fail
     refine HDN.out.mono ?_
     rintro e w7b ⟨rfl,k7b⟩
     have HT7:=hid (HT7.out.quiet k7b)
     clear k7b HDN
     go_wp2_with fail
     refine ((swfreed_ok b R.S _ HT7.out.sw)).mono ?_
     rintro e w' ⟨rfl,h'⟩
     obtain rfl:=h'.symm
     go_wp2_with fail
     refine ((dsw_freed HT7.out.dw)).mono ?_
     rintro e w' ⟨rfl,h'⟩
     obtain rfl:=h'.symm
     go_wp2_with fail
     refine (aheap_ok a LA _ _ HT7.out.both.ar).mono ?_
     rintro e w8 ⟨h1,h2,rfl,k8,_,_,hh⟩
     have HT8:=hid (HT7.out.quiet k8);have HH:=hid hh
     clear k8 hh
     go_wp2_with fail
     refine (hall_ok h1 h2 _ w8 HH.out).mono ?_
     rintro e w9 ⟨v1,rfl,hr1,k9⟩
     have HT9:=hid (HT8.out.quiet k9);have HV1:=hid hr1.refs
     clear hr1 k9
     go_wp2_with fail
     refine (HT9.out.fd.heap).mono ?_
     rintro e w10 ⟨h3,h4,rfl,k10,_,_,hh⟩
     have HT10:=hid (HT9.out.quiet k10);have HH2:=hid hh;have HV2:=hid (HV1.out.keeps k10 (fun _ _ h=>h))
     clear k10 hh
     go_wp2_with fail
     refine (all14 HH2.out).mono ?_
     rintro e w11 ⟨v2,rfl,hr2,k11⟩
     have HT11:=hid (HT10.out.quiet k11);have HV3:=hid (HV2.out.keeps k11 (fun _ _ h=>h));have HU:=hid hr2.refs
     clear hr2 k11
     have HEQ:=hid (requal v1 v2 _ _ w11 HV3.out HU.out (by have:=tk_len R.s.A.H.T;have:=HGO.out.ok.n;have:=HGO.out.pn;omega))
     rw [decide_eq_true rfl] at HEQ
     go_wp2_with fail
     refine HEQ.out.mono ?_
     rintro e wu ⟨rfl,k12⟩
     have HT:=hid (HT11.out.quiet k12);have HOK:=HGO
     clear k12 HEQ HU HV3 HT11 HGO HDSX
     rcases Nat.lt_or_ge 60 l.length with hm60 | hm60
     ·have hm1:(60:Int)<(l.length:Int):=by omega
      by_cases him:i<60
      ·have hm2:(i:Int)<60:=by omega
       have hm3:(i:Int)<(l.length:Int):=by omega
       have hi0:(0:Int)≤(i:Int):=by omega
       have hi1:(i:Int)<(l.length:Int):=by omega
       obtain⟨z,hz⟩:∃ z,l[i]?=some z:=⟨_,List.getElem?_eq_getElem (by omega)⟩
       obtain⟨bl,ol,rfl,hbl,hzc⟩:=HROW.out i z hz
       have hblw:=Nat.lt_of_lt_of_le hbl HT.out.both.kp.size
       obtain⟨hzb,g0,g1,g2,g3,g4⟩:=hzc.same (HT.out.both.kp.block bl hbl (fun h=>h))
       have HZB:=hid hzb
       have HZC:=hid hzc
       have HDO:=hid (fun W (hk:Keeps (fun _=>False) wu W)=>mvdo a m z ms _ W (Duo.same HT.out.both hk) HOK.out.ok (by omega) (by omega) HZB.out)
       clear hz hzc hzb
       go_wp2_with fail
       refine (HDO.out _ (Keeps.refl _ _)).mono ?_
       rintro e w8 ⟨rfl,hd8,hk8⟩
       have HT8:=hid (HT.out.prog hd8 (HT.out.sw.keeps hk8 (SwAt.foot HT.out.both HT.out.sw)) (hk8.mono (fun _ _ h=>.inr h)))
       clear hd8 hk8 g0 g1 g2 g3 g4 hblw
       have hblw:=Nat.lt_of_lt_of_le hbl HT8.out.both.kp.size
       obtain⟨hzb,g0,g1,g2,g3,g4⟩:=HZC.out.same (HT8.out.both.kp.block bl hbl (fun h=>h))
       have HRE:=hid (mvref a m z ms _ w8 HT8.out.fd HOK.out.ok (by omega) (by omega) HZB.out)
       go_wp2_with fail
       refine HRE.out.mono ?_
       rintro e w9 ⟨rfl,hd9,hk9⟩
       have HT9:=hid (HT8.out.docu hd9 (HT8.out.dw.ft hk9) (hk9.mono (fun _ _ h=>.inr h)))
       have HOK9:=hid (HOK.out.move z)
       clear hd9 hk9 g0 g1 g2 g3 g4
       go_wp2_with fail
       exact⟨⟨i+1,_,_,by omega,by go_num,HT9,HOK9⟩,by simp [intOf];omega⟩
      ·have hm2:¬ (i:Int)<60:=by omega
       go_wp2_with fail
       all_goals exact⟨⟨i+1,_,_,by omega,by go_num,HT,HOK⟩,by simp [intOf];omega⟩
     ·have hm1:¬ (60:Int)<(l.length:Int):=by omega
      by_cases him:i<l.length
      ·have hm2:(i:Int)<(l.length:Int):=by omega
       have hi0:(0:Int)≤(i:Int):=by omega
       have hi1:(i:Int)<(l.length:Int):=by omega
       obtain⟨z,hz⟩:∃ z,l[i]?=some z:=⟨_,List.getElem?_eq_getElem (by omega)⟩
       obtain⟨bl,ol,rfl,hbl,hzc⟩:=HROW.out i z hz
       have hblw:=Nat.lt_of_lt_of_le hbl HT.out.both.kp.size
       obtain⟨hzb,g0,g1,g2,g3,g4⟩:=hzc.same (HT.out.both.kp.block bl hbl (fun h=>h))
       have HZB:=hid hzb
       have HZC:=hid hzc
       have HDO:=hid (fun W (hk:Keeps (fun _=>False) wu W)=>mvdo a m z ms _ W (Duo.same HT.out.both hk) HOK.out.ok (by omega) (by omega) HZB.out)
       clear hz hzc hzb
       go_wp2_with fail
       refine (HDO.out _ (Keeps.refl _ _)).mono ?_
       rintro e w8 ⟨rfl,hd8,hk8⟩
       have HT8:=hid (HT.out.prog hd8 (HT.out.sw.keeps hk8 (SwAt.foot HT.out.both HT.out.sw)) (hk8.mono (fun _ _ h=>.inr h)))
       clear hd8 hk8 g0 g1 g2 g3 g4 hblw
       have hblw:=Nat.lt_of_lt_of_le hbl HT8.out.both.kp.size
       obtain⟨hzb,g0,g1,g2,g3,g4⟩:=HZC.out.same (HT8.out.both.kp.block bl hbl (fun h=>h))
       have HRE:=hid (mvref a m z ms _ w8 HT8.out.fd HOK.out.ok (by omega) (by omega) HZB.out)
       go_wp2_with fail
       refine HRE.out.mono ?_
       rintro e w9 ⟨rfl,hd9,hk9⟩
       have HT9:=hid (HT8.out.docu hd9 (HT8.out.dw.ft hk9) (hk9.mono (fun _ _ h=>.inr h)))
       have HOK9:=hid (HOK.out.move z)
       clear hd9 hk9 g0 g1 g2 g3 g4
       go_wp2_with fail
       exact⟨⟨i+1,_,_,by omega,by go_num,HT9,HOK9⟩,by simp [intOf];omega⟩
      ·have hm2:¬ (i:Int)<(l.length:Int):=by omega
       go_wp2_with fail
       all_goals exact⟨⟨i+1,_,_,by omega,by go_num,HT,HOK⟩,by simp [intOf];omega⟩
   ·have hc1:((i:Int) == 1)=false:=by simp;omega
    have hc2:((i:Int) == 2+(q:Int))=false:=by simp;omega
    have HT1:=HT0;have HOK1:=HOK0
    clear hc HT0 HOK0
    go_wp2_with fail
    have HPS:=hid (HT1.out.pstep HOK1.out)
    have HNX:=hid (And.intro HT1.out.sw.nx HT1.out.sw.nn)
    obtain⟨R,hR⟩:∃ R,S.go s=R:=⟨_,rfl⟩
    have HGO:=hid (show TwOk n ms R.s R.S by rw [← hR];exact Sw.go_ok HOK1.out HT1.out.sw.nx)
    have HDSX:=hid (fun W (hT:Tw w0 W a m LA LM x y b b2 R.s s R.S S)=>(by have:=hT.dstep HOK1.out HNX.out (by omega) (by omega);rw [hR] at this;exact this:Calls Tryz.prog 12 #[.pointer (some ⟨b2,0,none⟩),.pointer (some ⟨x,0,none⟩),.pointer (some ⟨y,0,none⟩)] W fun e w'=>e = .returned (.tuple #[R.r.val,.bool R.is,.int .i64 S.goE])∧Tw w0 w' a m LA LM x y b b2 R.s R.s R.S R.S∧Keeps (fun z=>z=b2∨Ft W w0.heap.size z) W w'))
    rw [hR] at HPS
    obtain⟨E,hE⟩:∃ E,S.goE=E:=⟨_,rfl⟩
    rw [hE] at HPS HDSX
    clear hR hE
    go_wp2_with fail
    refine HPS.out.mono ?_
    rintro e w3 ⟨rfl,ht3⟩
    dsimp only [Rf.val]
    have HT3:=hid ht3
    clear ht3 HPS
    obtain⟨w4,hw4⟩:∃ w4,w3.alloc (.cells #[.int .i64 R.r.s,.int .u32 R.r.g] 45)=w4:=⟨_,rfl⟩
    have HT4:=hid (show Tw w0 w4 a m LA LM x y b b2 R.s s R.S S from by rw [← hw4];exact HT3.out.quiet ((Keeps.refl _ _).alloc _))
    have HQ4:=hid (show w4.heap[w3.heap.size]?=some (.cells #[.int .i64 R.r.s,.int .u32 R.r.g] 45) from by rw [← hw4];exact alloc_new)
    have HDS:=hid (HDSX.out _ HT4.out)
    go_wp2_with fail
    try rw [hw4]
    clear hw4 HT3
    refine HDS.out.mono ?_
    rintro e w5 ⟨rfl,ht5,hk5⟩
    dsimp only [Rf.val]
    have HT5:=hid ht5;have HQ5:=hid (HT4.out.refk HQ4.out hk5)
    clear ht5 hk5 HDS HT4 HQ4
    obtain⟨w6,hw6⟩:∃ w6,w5.alloc (.cells #[.int .i64 R.r.s,.int .u32 R.r.g] 45)=w6:=⟨_,rfl⟩
    have k6:Keeps (fun _=>False) w5 w6:=by rw [← hw6];exact (Keeps.refl _ _).alloc _
    have HT6:=hid (HT5.out.quiet k6)
    have HQ6:=hid (block_keep HQ5.out k6 (fun h=>h))
    have HP6:=hid (show w6.heap[w5.heap.size]?=some (.cells #[.int .i64 R.r.s,.int .u32 R.r.g] 45) from by rw [← hw6];exact alloc_new)
    obtain⟨q0,q1,_,ql⟩:=cells2 HQ6.out
    obtain⟨p0,p1,_,pl⟩:=cells2 HP6.out
    have hql:=fun W=>eql_ref W R.r.s R.r.g R.r.s R.r.g
    rw [show (R.r.s == R.r.s && R.r.g == R.r.g)=true by simp] at hql
    go_wp2_with fail
    try rw [hw6]
    refine ((swat_ok b R.S _ HT6.out.sw)).mono ?_
    rintro e w' ⟨rfl,h'⟩
    obtain rfl:=h'.symm
    go_wp2_with fail
    refine ((dsw_at HT6.out.dw)).mono ?_
    rintro e w' ⟨rfl,h'⟩
    obtain rfl:=h'.symm
    go_wp2_with fail
    refine (swdone_ok b R.S _ HT6.out.sw).mono ?_
    rintro e w7 ⟨rfl,k7⟩
    have HT7:=hid (HT6.out.quiet k7)
    have HDN:=hid (dsw_done HT7.out.dw)
    obtain⟨dn,hdn⟩:∃ dn,(R.S.next == R.S.size)=dn:=⟨_,rfl⟩
    rw [show ((R.S.next:Int) == (R.S.size:Int))=dn by rw [← hdn,Bool.eq_iff_iff];simp;omega] at HDN
    rw [hdn]
    clear k7 q0 q1 p0 p1 hql hdn
    go_wp2_with fail
    refine HDN.out.mono ?_
    rintro e w7b ⟨rfl,k7b⟩
    have HT7:=hid (HT7.out.quiet k7b)
    clear k7b HDN
    go_wp2_with fail
    refine ((swfreed_ok b R.S _ HT7.out.sw)).mono ?_
    rintro e w' ⟨rfl,h'⟩
    obtain rfl:=h'.symm
    go_wp2_with fail
    refine ((dsw_freed HT7.out.dw)).mono ?_
    rintro e w' ⟨rfl,h'⟩
    obtain rfl:=h'.symm
    go_wp2_with fail
    refine (aheap_ok a LA _ _ HT7.out.both.ar).mono ?_
    rintro e w8 ⟨h1,h2,rfl,k8,_,_,hh⟩
    have HT8:=hid (HT7.out.quiet k8);have HH:=hid hh
    clear k8 hh
    go_wp2_with fail
    refine (hall_ok h1 h2 _ w8 HH.out).mono ?_
    rintro e w9 ⟨v1,rfl,hr1,k9⟩
    have HT9:=hid (HT8.out.quiet k9);have HV1:=hid hr1.refs
    clear hr1 k9
    go_wp2_with fail
    refine (HT9.out.fd.heap).mono ?_
    rintro e w10 ⟨h3,h4,rfl,k10,_,_,hh⟩
    have HT10:=hid (HT9.out.quiet k10);have HH2:=hid hh;have HV2:=hid (HV1.out.keeps k10 (fun _ _ h=>h))
    clear k10 hh
    go_wp2_with fail
    refine (all14 HH2.out).mono ?_
    rintro e w11 ⟨v2,rfl,hr2,k11⟩
    have HT11:=hid (HT10.out.quiet k11);have HV3:=hid (HV2.out.keeps k11 (fun _ _ h=>h));have HU:=hid hr2.refs
    clear hr2 k11
    have HEQ:=hid (requal v1 v2 _ _ w11 HV3.out HU.out (by have:=tk_len R.s.A.H.T;have:=HGO.out.ok.n;have:=HGO.out.pn;omega))
    rw [decide_eq_true rfl] at HEQ
    go_wp2_with fail
    refine HEQ.out.mono ?_
    rintro e wu ⟨rfl,k12⟩
    have HT:=hid (HT11.out.quiet k12);have HOK:=HGO
    clear k12 HEQ HU HV3 HT11 HGO HDSX
    rcases Nat.lt_or_ge 60 l.length with hm60 | hm60
    ·have hm1:(60:Int)<(l.length:Int):=by omega
     by_cases him:i<60
     ·have hm2:(i:Int)<60:=by omega
      have hm3:(i:Int)<(l.length:Int):=by omega
      have hi0:(0:Int)≤(i:Int):=by omega
      have hi1:(i:Int)<(l.length:Int):=by omega
      obtain⟨z,hz⟩:∃ z,l[i]?=some z:=⟨_,List.getElem?_eq_getElem (by omega)⟩
      obtain⟨bl,ol,rfl,hbl,hzc⟩:=HROW.out i z hz
      have hblw:=Nat.lt_of_lt_of_le hbl HT.out.both.kp.size
      obtain⟨hzb,g0,g1,g2,g3,g4⟩:=hzc.same (HT.out.both.kp.block bl hbl (fun h=>h))
      have HZB:=hid hzb
      have HZC:=hid hzc
      have HDO:=hid (fun W (hk:Keeps (fun _=>False) wu W)=>mvdo a m z ms _ W (Duo.same HT.out.both hk) HOK.out.ok (by omega) (by omega) HZB.out)
      clear hz hzc hzb
      go_wp2_with fail
      refine (HDO.out _ (Keeps.refl _ _)).mono ?_
      rintro e w8 ⟨rfl,hd8,hk8⟩
      have HT8:=hid (HT.out.prog hd8 (HT.out.sw.keeps hk8 (SwAt.foot HT.out.both HT.out.sw)) (hk8.mono (fun _ _ h=>.inr h)))
      clear hd8 hk8 g0 g1 g2 g3 g4 hblw
      have hblw:=Nat.lt_of_lt_of_le hbl HT8.out.both.kp.size
      obtain⟨hzb,g0,g1,g2,g3,g4⟩:=HZC.out.same (HT8.out.both.kp.block bl hbl (fun h=>h))
      have HRE:=hid (mvref a m z ms _ w8 HT8.out.fd HOK.out.ok (by omega) (by omega) HZB.out)
      go_wp2_with fail
      refine HRE.out.mono ?_
      rintro e w9 ⟨rfl,hd9,hk9⟩
      have HT9:=hid (HT8.out.docu hd9 (HT8.out.dw.ft hk9) (hk9.mono (fun _ _ h=>.inr h)))
      have HOK9:=hid (HOK.out.move z)
      clear hd9 hk9 g0 g1 g2 g3 g4
      go_wp2_with fail
      exact⟨⟨i+1,_,_,by omega,by go_num,HT9,HOK9⟩,by simp [intOf];omega⟩
     ·have hm2:¬ (i:Int)<60:=by omega
      go_wp2_with fail
      all_goals exact⟨⟨i+1,_,_,by omega,by go_num,HT,HOK⟩,by simp [intOf];omega⟩
    ·have hm1:¬ (60:Int)<(l.length:Int):=by omega
     by_cases him:i<l.length
     ·have hm2:(i:Int)<(l.length:Int):=by omega
      have hi0:(0:Int)≤(i:Int):=by omega
      have hi1:(i:Int)<(l.length:Int):=by omega
      obtain⟨z,hz⟩:∃ z,l[i]?=some z:=⟨_,List.getElem?_eq_getElem (by omega)⟩
      obtain⟨bl,ol,rfl,hbl,hzc⟩:=HROW.out i z hz
      have hblw:=Nat.lt_of_lt_of_le hbl HT.out.both.kp.size
      obtain⟨hzb,g0,g1,g2,g3,g4⟩:=hzc.same (HT.out.both.kp.block bl hbl (fun h=>h))
      have HZB:=hid hzb
      have HZC:=hid hzc
      have HDO:=hid (fun W (hk:Keeps (fun _=>False) wu W)=>mvdo a m z ms _ W (Duo.same HT.out.both hk) HOK.out.ok (by omega) (by omega) HZB.out)
      clear hz hzc hzb
      go_wp2_with fail
      refine (HDO.out _ (Keeps.refl _ _)).mono ?_
      rintro e w8 ⟨rfl,hd8,hk8⟩
      have HT8:=hid (HT.out.prog hd8 (HT.out.sw.keeps hk8 (SwAt.foot HT.out.both HT.out.sw)) (hk8.mono (fun _ _ h=>.inr h)))
      clear hd8 hk8 g0 g1 g2 g3 g4 hblw
      have hblw:=Nat.lt_of_lt_of_le hbl HT8.out.both.kp.size
      obtain⟨hzb,g0,g1,g2,g3,g4⟩:=HZC.out.same (HT8.out.both.kp.block bl hbl (fun h=>h))
      have HRE:=hid (mvref a m z ms _ w8 HT8.out.fd HOK.out.ok (by omega) (by omega) HZB.out)
      go_wp2_with fail
      refine HRE.out.mono ?_
      rintro e w9 ⟨rfl,hd9,hk9⟩
      have HT9:=hid (HT8.out.docu hd9 (HT8.out.dw.ft hk9) (hk9.mono (fun _ _ h=>.inr h)))
      have HOK9:=hid (HOK.out.move z)
      clear hd9 hk9 g0 g1 g2 g3 g4
      go_wp2_with fail
      exact⟨⟨i+1,_,_,by omega,by go_num,HT9,HOK9⟩,by simp [intOf];omega⟩
     ·have hm2:¬ (i:Int)<(l.length:Int):=by omega
      go_wp2_with fail
      all_goals exact⟨⟨i+1,_,_,by omega,by go_num,HT,HOK⟩,by simp [intOf];omega⟩
  ·have hnl:¬ (i:Int)<2 * (n:Int)+4:=by omega
   go_wp2_with fail
   refine (works25 _).mono ?_
   rintro e wz ⟨rfl,kz⟩
   have KZ:=hid kz
   clear kz
   go_wp2_with fail
   go_ret
   exact⟨rfl,(HKW.out.trans HT0.out.both.kp).trans KZ.out⟩
theorem u8_natS {x:Int} (h:(Lit.int .u8 x).wf=true):∃ k:Nat,x=k∧k<256:=by
 have e1:IntKind.u8.min=0:=by decide
 have e2:IntKind.u8.max=255:=by decide
 simp [Lit.wf,e1,e2] at h
 exact⟨x.toNat,by omega,by omega⟩
open Go.ChangeShapes Go.WideShapes Go.ChangeAt Go.Deep in
theorem sweepPlays_law {H:Type} {enc:TypeId × Value→H} {base:Nat} {spare:Nat→Bool} {held:Bool} {r:Reach} {b0:Nat} (v0:Value) (d0:DataW H) (p0:List MemPlace) {w:World} (hv0:Value.okWide Tryz.prog w r b0 24 v0)
 (h0:DataW.Trod enc Tryz.prog w base spare held 24 v0 d0 p0) (v1:Value) (d1:DataW H) (p1:List MemPlace) (hv1:Value.okWide Tryz.prog w r b0 22 v1) (h1:DataW.Trod enc Tryz.prog w base spare held 22 v1 d1 p1)
 (a2:Int) (w2:(Lit.int .u8 a2).wf=true) (w':World) (e':w'=w):Calls Tryz.prog 3 #[v0,v1,.int .u8 a2] w' fun e w2=>e = .returned (.bool true)∧Keeps (fun _=>False) w' w2:=by
 subst e'
 obtain⟨x,y,l0,mid,hs⟩:=setup25_shape hv0 h0
 obtain⟨a,n1,k1,rfl,e1,e2,hx⟩:=open_flat_slice (ks:=ks5) Tryz.underlying22 (by kernel_rfl) (by kernel_rfl) (by decide) hv1 h1
 obtain⟨l,hl⟩:=mvrow_of e1 e2 hx
 obtain⟨k,rfl,hk⟩:=u8_natS w2
 exact sweepPlays_walk v0 _ x y k l0 mid l w' hs hl hk
end Go.Proofs.YtlicmmofekkmoaaGreat
