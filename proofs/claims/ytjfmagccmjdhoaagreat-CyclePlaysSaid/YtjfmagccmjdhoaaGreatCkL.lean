import Derived.Test.YtjfmagccmjdhoaaGreatCkF
import Derived.Test.YtjfmagccmjdhoaaGreatCyM
set_option maxHeartbeats 40000000
set_option maxRecDepth 100000
namespace Go.Proofs.YtjfmagccmjdhoaaGreat
open Go.RowKit
structure TK (l:List (Bool × Nat)) (p:Prop):Prop where
 out:p
theorem TK.at {p:Prop} (l:List (Bool × Nat)) (h:TK l p):p:=h.out
section
variable {P:Program} {ops:Array Oper} {Q:Exit→Act→World→Prop} {md:Region.Mode} {S:World→Prop} {fuel:Nat} {listed:Array Bool} {a:Act} {w:World} {i:Nat} {o:Oper} {l:List (Bool × Nat)}
theorem TK.take {v:Value} (hi:ops[i]?=some o) (hs:Region.noSelect ops=true) (hf:Region.free md ops listed i=true) (hr:(Region.ready md ops listed).contains i=true)
 (hQ:∀ c a w,Q (.panic c) (a.put o.dst v) w→Q (.panic c) a w) (hy:YieldsIf P ops S o v a) (hS:S w) (h:TK l (wpAnyH P md ops Q S fuel (listed.setIfInBounds i true) (a.put o.dst v) w)):TK ((false,i) :: l) (wpAnyH P md ops Q S (fuel+1) listed a w):=
 ⟨wpAnyH_take hi hs hf hr hQ hy hS h.out⟩
theorem TK.call (hr:Region.ready md ops listed=[i]) (ho:ops[i]?=some o)
 (h:∀ K':Act→World→Prop,Shut (∀ a w,S w→(S w→TK l (wpAnyH P md ops Q S fuel (listed.setIfInBounds i true) a w))→K' a w)→if Region.wanted o (yielded ops a.tmps)=true then Oper.wp P o a w K' Q else K' (a.put o.dst undef) w):TK ((true,i) :: l) (wpAnyH P md ops Q S (fuel+1) listed a w):=
 ⟨wpAnyH_ready hr (by simp) (AllReadyH.cons ho (fun K hK=>h K (fun a w hs k=>hK a w hs (fun s=>(k s).out))) AllReadyH.nil)⟩
end
section
variable {w0 w w':World} {p a m b c x y qq u z t:Nat} {LA:ArL} {LM:MkL} {k:Col} {f:List Rf}
theorem Bth.dc (h:Bth w0 w p a m b c LA LM x y qq u z t k f k f):∃ F,Dc F w0 w a m LA LM x y k.s.A k.s.M qq u z k:=by
 obtain⟨F,h1,_⟩:=h.ex
 exact⟨F,h1.dc⟩
theorem Bth.cs (h:Bth w0 w p a m b c LA LM x y qq u z t k f k f):(w.cell? ⟨p,0,none⟩=some (.pointer (some ⟨a,0,none⟩))∧w.cell? ⟨p,1,none⟩=some (.pointer (some ⟨c,0,none⟩))∧w.cell? ⟨p,3,none⟩=some (.bool false))∧w.cell? ⟨t,0,none⟩=some (.pointer (some ⟨x,0,none⟩))∧w.cell? ⟨t,1,none⟩=some (.pointer (some ⟨z,0,none⟩)):=by
 obtain⟨_,⟨v,h1,_⟩,_⟩:=id h.pr
 obtain⟨F,⟨_,⟨v2,h2,_⟩,_⟩,_⟩:=h.ex
 exact⟨⟨zD h1 rfl,zD h1 rfl,zD h1 rfl⟩,zD h2 rfl,zD h2 rfl⟩
theorem Bth.rows (h:Bth w0 w p a m b c LA LM x y qq u z t k f k f):∃ p1 c1 p2 c2,w.cell? ⟨p,2,none⟩=some (.slice p1 f.length c1)∧Refs w (.slice p1 f.length c1) f∧w.cell? ⟨t,2,none⟩=some (.slice p2 f.length c2)∧Refs w (.slice p2 f.length c2) f:=by
 obtain⟨_,⟨v,h1,h2⟩,_⟩:=id h.pr
 obtain⟨F,⟨_,⟨v2,g1,g2,_⟩,_⟩,_⟩:=h.ex
 obtain⟨p1,c1,rfl⟩:=h2.refs.slice
 obtain⟨p2,c2,rfl⟩:=g2.refs.slice
 exact⟨p1,c1,p2,c2,zD h1 rfl,h2.refs,zD g1 rfl,g2.refs⟩
theorem alike26 (h:Bth w0 w p a m b c LA LM x y qq u z t k f k f) (hok:k.Ok) (hl:f.length≤100000):
 Calls Tryz.prog 14 #[.pointer (some ⟨p,0,none⟩),.pointer (some ⟨t,0,none⟩)] w fun e w'=>e = .returned (.bool true)∧Kz w w':=by
 have HT:=zC (fun W (hk:Kz w W)=>h.quiet hk)
 have HCS:=zC (fun W (hk:Kz w W)=>(h.quiet hk).cs)
 obtain⟨p1,c1,p2,c2,r1,r2,r3,r4⟩:=h.rows
 have HPS:=zC (fun W (hk:Kz w W)=>show (W.cell? ⟨p,1,none⟩=some (.pointer (some ⟨c,0,none⟩))∧W.cell? ⟨t,1,none⟩=some (.pointer (some ⟨z,0,none⟩)))∧(W.cell? ⟨p,2,none⟩=some (.slice p1 f.length c1)∧W.cell? ⟨t,2,none⟩=some (.slice p2 f.length c2))∧W.cell? ⟨p,0,none⟩=some (.pointer (some ⟨a,0,none⟩))∧W.cell? ⟨t,0,none⟩=some (.pointer (some ⟨x,0,none⟩)) from by
  obtain⟨_,⟨v,h1,_⟩,_⟩:=id h.pr
  obtain⟨F,⟨_,⟨v2,h2,_⟩,_⟩,_⟩:=h.ex
  have e1:=zD (i:=2) h1 rfl
  rw [r1] at e1
  have e2:=zD (i:=2) h2 rfl
  rw [r3] at e2
  obtain rfl:=Option.some.inj e1
  obtain rfl:=Option.some.inj e2
  have q1:=zB h1 hk (fun h=>h)
  have q2:=zB h2 hk (fun h=>h)
  exact⟨⟨zD q1 rfl,zD q2 rfl⟩,⟨zD q1 rfl,zD q2 rfl⟩,zD q1 rfl,zD q2 rfl⟩)
 have HR1:=zC (fun W (hk:Kz w W)=>same14 _ _ f f W (r2.keeps hk (fun _ _ h=>h)) (r4.keeps hk (fun _ _ h=>h)) hl)
 rw [decide_eq_true (rfl:f=f)] at HR1
 have HP1:=zC (fun W (hk:Kz w W)=>cyphase (h.quiet hk).pr.q)
 have HP2:=zC (fun W (hk:Kz w W)=>cybegun (h.quiet hk).pr.q)
 have HP3:=zC (fun W (hk:Kz w W)=>cyended (h.quiet hk).pr.q)
 obtain⟨F,hdc⟩:=h.dc
 have HQ1:=zC (fun W (hk:Kz w W)=>ccphase (hdc.quiet hk))
 have HQ2:=zC (fun W (hk:Kz w W)=>ccbegun (hdc.quiet hk))
 have HQ3:=zC (fun W (hk:Kz w W)=>ccended (hdc.quiet hk))
 have HH1:=zC (fun W (hk:Kz w W)=>aheap_ok a LA k.s.A W (Duo.ar (h.quiet hk).pr.q.tr.both))
 have HH2:=zC (fun W (hk:Kz w W)=>(hdc.quiet hk).wk.heap)
 have HSZ:=zC (fun W (hk:Kz w W)=>(hdc.quiet hk).wk.sizes)
 rw [hok.s.n] at HSZ
 have HM1:=zC (fun W (hk:Kz w W)=>cymarker (h.quiet hk).pr.q)
 have HM2:=zC (fun W (hk:Kz w W)=>ccmarker (hdc.quiet hk))
 have HK1:=zC (fun (i:Nat) (hi:i<k.s.M.P.n) W (hk:Kz w W)=>mmarked_ok m LM k.s.M i W (Duo.mm (h.quiet hk).pr.q.tr.both) hi)
 have HK2:=zC (fun (i:Nat) (hi:i<k.s.M.P.n) W (hk:Kz w W)=>(hdc.quiet hk).wk.mk i hi)
 have hlen:=tk_len k.s.A.H.T
 have hTn:=hok.s.n
 have hn2:k.s.M.P.n≤256:=by have:=hok.s.m.n2;omega
 have HLN:=zC (show k.s.A.H.T.tk.length≤100000 by omega)
 obtain⟨n,hn⟩:∃ n,k.s.M.P.n=n:=⟨_,rfl⟩
 rw [hn] at HSZ HK1 HK2 hn2
 clear h hok hl r1 r2 r3 r4 hdc hlen hTn hn
 go_in
 go_upto_region 1 with (fail)
 dsimp only [List.append]
 refine wp_region_noPanic ?_
 refine wp_region_held_drew (S:=(fun W=>(W.cell? ⟨p,1,none⟩=some (.pointer (some ⟨c,0,none⟩))∧W.cell? ⟨t,1,none⟩=some (.pointer (some ⟨z,0,none⟩)))∧(W.cell? ⟨p,2,none⟩=some (.slice p1 f.length c1)∧W.cell? ⟨t,2,none⟩=some (.slice p2 f.length c2))∧W.cell? ⟨p,0,none⟩=some (.pointer (some ⟨a,0,none⟩))∧W.cell? ⟨t,0,none⟩=some (.pointer (some ⟨x,0,none⟩)))) (by kernel_rfl) ?_ (fun hHeld=>?_)
 ·exact HPS.out _ (zA.refl _ _).drew
 refine TK.at [(false,0),(false,1),(false,2),(false,3),(false,5),(false,6),(false,7),(false,8),(true,4),(true,9),(false,10),(false,11),(false,12),(false,13),(false,14),(false,15),(false,17),(false,18),(false,19),(false,20),(true,16),(true,21),(false,22),(false,23),(false,24),(false,25),(false,26),(false,27),(false,28),(false,30),(false,31),(false,32),(false,33),(true,29),(true,34),(false,35),(false,36),(false,37),(false,38),(false,39),(false,40),(false,41),(false,42),(false,43),(false,44),(false,45),(true,46),(false,47),(false,48),(false,49),(false,50),(false,51),(false,52),(false,53),(false,56),(false,57),(false,58),(false,59),(true,54),(true,55),(true,60),(true,61),(true,62),(false,63),(false,64)] ?_
 repeat (first
  | (refine TK.take (v:=?_) rfl (by kernel_rfl) (by kernel_rfl) (by kernel_rfl) (fun _ _ _ h=>h) (Or.inl ⟨by rfl,?_⟩) (by assumption) ?_
     rotate_left
     ·(intro w hSw;(try dsimp only at hSw);simp only [List.getElem_toArray,List.getElem_cons_zero,List.getElem_cons_succ];go_simp;(first | done | with_reducible rfl))
     simp only [List.getElem_toArray,List.getElem_cons_zero,List.getElem_cons_succ,Act.put,List.setIfInBounds_toArray,List.set_cons_zero,List.set_cons_succ])
  | (refine TK.call (by kernel_rfl) rfl (fun K hK=>?_)
     go_simp
     (first
      | (go_at_call 9;refine (HP1.out _ zA.r).mono ?_;rintro e w' ⟨rfl,h'⟩;obtain rfl:=h'.symm)
      | (go_at_call 56;refine (HQ1.out _ zA.r).mono ?_;rintro e w' ⟨rfl,h'⟩;obtain rfl:=h'.symm)
      | (go_at_call 10;refine (HP2.out _ zA.r).mono ?_;rintro e w' ⟨rfl,h'⟩;obtain rfl:=h'.symm)
      | (go_at_call 57;refine (HQ2.out _ zA.r).mono ?_;rintro e w' ⟨rfl,h'⟩;obtain rfl:=h'.symm)
      | (go_at_call 11;refine (HP3.out _ zA.r).mono ?_;rintro e w' ⟨rfl,h'⟩;obtain rfl:=h'.symm)
      | (go_at_call 58;refine (HQ3.out _ zA.r).mono ?_;rintro e w' ⟨rfl,h'⟩;obtain rfl:=h'.symm)
      | (have hu8:=hu7.keeps k8 (fun _ _ h=>h);go_at_call 18;refine (same14 v7 v9 _ _ _ (hu8.keeps k9 (fun _ _ h=>h)) hu9 HLN.out).mono ?_;clear hu8;rintro e w10 ⟨rfl,k10⟩;rw [decide_eq_true rfl])
      | (go_at_call 18;refine (HR1.out _ zA.r).mono ?_;rintro e w5 ⟨rfl,k5⟩)
      | (go_at_call 19;refine (HH1.out _ zA.r).mono ?_;rintro e w6 ⟨b6,t6,rfl,k6,_,_,hh6⟩)
      | (go_at_call 59;refine (hall_ok b6 t6 _ _ hh6).mono ?_;rintro e w7 ⟨v7,rfl,hr7,k7⟩;have hu7:=hr7.refs)
      | (go_at_call 60;refine (HH2.out _ zA.r).mono ?_;rintro e w8 ⟨b8,t8,rfl,k8,_,_,hh8⟩)
      | (go_at_call 61;refine (all14 hh8).mono ?_;rintro e w9 ⟨v9,rfl,hr9,k9⟩;have hu9:=hr9.refs))
     refine hK.out _ _ ?_ (fun hHeld=>?_)
     ·(refine HPS.out _ ?_;(with_reducible repeat first | exact zA.refl _ _ | refine zA.drew ?_ | refine zA.trans ?_ (by with_reducible assumption)))
     clear hK K
     try dsimp only [Act.put,List.setIfInBounds_toArray,List.set_cons_zero,List.set_cons_succ]))
 refine TK.mk (wpAnyH_done (by kernel_rfl) ?_ _)
 refine NoPanic.normal ?_
 have K1:=zC (show Kz w w10 from zA.r)
 clear k5 k6 hh6 k7 hr7 hu7 k8 hh8 hr9 hu9 k9 k10
 obtain⟨⟨x0,x1,x3⟩,y0,y1⟩:=HCS.out _ K1.out
 go_wp2_with fail
 refine zQ (HSZ.out _ K1.out) fun w11 k11=>?_
 have K2:=zC (K1.out.trans k11)
 clear k11 x0 x1 x3 y0 y1
 go_wp2_with fail
 go_loopw [7] (fun ix wr=>∃ i:Nat,i≤n∧ix = .int .i64 i∧Hid (Kz w wr)) (fun ix _=>n - (intOf ix).toNat)
 case atStart=>exact⟨0,Nat.zero_le _,rfl,K2⟩
 case round=>
  obtain⟨i,hi,rfl,HK⟩:=hrel
  obtain⟨⟨x0,x1,x3⟩,y0,y1⟩:=HCS.out _ HK.out
  have hi0:(0:Int)≤i:=by omega
  by_cases hlt:i<n
  ·have hlt':(i:Int)<(n:Int):=by omega
   have h1:=HK1.out i hlt wr HK.out
   have h2:=fun W (hk:Kz w W)=>HK2.out i hlt W hk
   obtain⟨mk,hmk⟩:∃ mk,(k.s.M.P.c i != 0)=mk:=⟨_,rfl⟩
   rw [show (!(k.s.M.P.c i == 0))=mk from hmk] at h1
   rw [hmk] at h2
   have H1:=zC h1;have H2:=zC h2
   clear h1 h2 hmk
   go_wp2_with fail
   refine zP ((HM1.out _ HK.out)) ?_
   go_wp2_with fail
   refine zQ H1.out fun w12 k12=>?_
   have HK3:=zC (HK.out.trans k12)
   clear k12 x0 x1 x3 y0 y1
   obtain⟨⟨x0,x1,x3⟩,y0,y1⟩:=HCS.out _ HK3.out
   go_wp2_with fail
   refine zP ((HM2.out _ HK3.out)) ?_
   go_wp2_with fail
   refine zP ((H2.out _ HK3.out)) ?_
   go_wp2_with fail
   exact⟨⟨i+1,by omega,by go_num,HK3⟩,by simp [intOf];omega⟩
  ·have hlt':¬ (i:Int)<(n:Int):=by omega
   go_wp2_with fail
   go_ret
   exact⟨rfl,HK.out⟩
end
theorem u8_natC {v:Int} (h:(Lit.int .u8 v).wf=true):∃ k:Nat,v=k∧k<256:=by
 have e1:IntKind.u8.min=0:=by decide
 have e2:IntKind.u8.max=255:=by decide
 simp [Lit.wf,e1,e2] at h
 exact⟨v.toNat,by omega,by omega⟩
theorem Col.turn_nn {k:Col} (h:k.Nn) (u:Mv) (f:List Rf):(u.turn26 k f).1.Nn:=by
 unfold Mv.turn26
 split
 ·exact h
 split
 ·exact h
 split
 ·show k.askR.1.Nn
  unfold Col.askR
  split
  ·exact h
  ·exact h
 ·exact Col.steps_nn h _ f _
theorem Col.tn_nn {k:Col} (h:k.Nn) (l:List Mv):∀ i,i≤l.length→(k.tn l i).1.Nn:=by
 intro i
 induction i with
 | zero=>intro _;exact h
 | succ i ih=>
  intro hi
  obtain⟨u,hu⟩:∃ u,l[i]?=some u:=⟨_,List.getElem?_eq_getElem (by omega)⟩
  rw [Col.tn_succ k l hu]
  exact Col.turn_nn (ih (by omega)) u _
def OldAt (w:World) (ms:Nat) (LM:MkL) (m b c:Nat) (v:Value):Prop:=
 v = .pointer none∨∃ (N0 mo co:Nat) (LO:MkL) (ko:Col),v = .pointer (some ⟨co,0,none⟩)∧OldC w N0 mo co LO ko∧Late LM m ms b c N0∧ko.s.M.K.ph≤5∧ko.C.begun≤2000∧ko.s.M.K.cy≤2000
def CpAt (w0 w:World) (p a t x y qq u z ms:Nat) (LA:ArL) (K:Col) (f:List Rf) (v:Value):Prop:=
 ∃ (m b c:Nat) (LM:MkL),Bth w0 w p a m b c LA LM x y qq u z t K f K f∧OldAt w ms LM m b c v
theorem OldC.quiet {w w':World} {N0 m c:Nat} {LM:MkL} {k:Col} (h:OldC w N0 m c LM k) (hk:Kz w w'):OldC w' N0 m c LM k:=h.keeps hk (fun _ _ _ _ e=>e.elim)
theorem cyclePlays_walk (x y z u av:Nat) (l:List Mv) (v:Value) (w:World) (hx:x<256) (hy:y<256) (hz:z<256) (hu:u<256) (hav:av<256) (hm:MvRow w v l):
 Calls Tryz.prog 3 #[.int .u8 x,.int .u8 y,.int .u8 z,.int .u8 u,v,.int .u8 av] w fun e w'=>e = .returned (.bool true)∧Kz w w':=by
 obtain⟨am,cm,rfl,_,hmc2,hmr⟩:=hm
 obtain⟨N,hN⟩:∃ N,l.length=N:=⟨_,rfl⟩
 have HROW:=zC (show ∀ (i:Nat) (z:Mv),l[i]?=some z→∃ b2 o2,am=some ⟨b2,o2,none⟩∧b2<w.heap.size∧MvCell w b2 (o2+i * 5) z from fun i z hz=>by
  rcases hmr with rfl | ⟨b2,o2,e,hb,hc⟩
  ·cases hz
  ·exact⟨b2,o2,e,hb,hc i z hz⟩)
 have HNL:=zC hN
 rw [hN]
 clear hmr hmc2 hN
 by_cases h80:120<N
 ·have h80':(120:Int)<(N:Int):=by omega
  go_in
  go_wp2_with fail
  refine zQ (works26 _) fun w1 k1=>?_
  go_wp2_with fail
  go_ret
  exact⟨rfl,k1⟩
 have h80':¬ (120:Int)<(N:Int):=by omega
 have HC:=zC (fun W=>config26 x y z u W hx hy hz hu)
 obtain⟨n,hn⟩:∃ n,1+x % 24=n:=⟨_,rfl⟩
 obtain⟨ms,hms⟩:∃ ms,1+y % 4=ms:=⟨_,rfl⟩
 obtain⟨st,hst⟩:∃ st,1+z % 8=st:=⟨_,rfl⟩
 obtain⟨bu,hbu⟩:∃ bu,1+u % 4=bu:=⟨_,rfl⟩
 have hn1:1≤n∧n≤24:=by omega
 have hm1:1≤ms∧ms≤4:=by omega
 rw [hn,hms,hst,hbu] at HC
 have HB:=zC (fun W=>begin26N n ms st bu (fun _=>0) W (by omega) (by omega) (by omega) (by omega) (by omega) (by omega) (by omega) (by omega))
 have HBS:=zC (fun (w0 W:World) (a m:Nat) (LA:ArL) (LM:MkL) (A:Ar) (M:Mk) (hd:Duo w0 W a m LA LM A M)=>begins26 n ms st bu (fun _=>0) hd (by omega) (by omega) (by omega) (by omega) (by omega) (by omega) (by omega) (by omega))
 have hok:=Col.new_ok (n:=n) (k:=ms) (s:=st) (p:=bu) (by omega) (by omega) (by omega) (by omega)
 have hk1:(Col.new n ms st bu).s.M.K.many=ms:=rfl
 have hk3:(Col.new n ms st bu).C.begun=0:=rfl
 have hnv:(Col.new n ms st bu).Nn:=Nat.zero_le _
 obtain⟨K0,hK0⟩:∃ K0,Col.new n ms st bu=K0:=⟨_,rfl⟩
 rw [hK0] at HB HBS hok hk1 hk3 hnv
 have HOK:=zC hok;have HKM:=zC hk1;have HBG:=zC hk3;have HNV:=zC hnv
 have hav0:(av:Int)<256:=by omega
 have hwv:IntKind.i64.wrap (av:Int)=(av:Int):=IntWalk.i64_in _ (by omega)
 clear hok hk1 hk3 hnv hK0 hn hms hst hbu hx hy hz hu
 unfold cfgV at HC HB HBS
 go_in
 go_wp2_with fail
 refine zQ (HC.out _) fun w1 k1=>?_
 obtain⟨wB,hwB⟩:∃ wB,w1.alloc (.cells #[.int .i64 n,.int .i64 ms,.int .i64 st,.int .i64 bu,.int .i64 0,.int .i64 0,.int .i64 0,.int .i64 0,.int .i64 0,.int .u32 0] 26)=wB:=⟨_,rfl⟩
 have HKB:=zC (show Kz w wB by rw [← hwB];exact k1.alloc _)
 have HQB:=zC (show wB.heap[w1.heap.size]?=some (.cells #[.int .i64 n,.int .i64 ms,.int .i64 st,.int .i64 bu,.int .i64 0,.int .i64 0,.int .i64 0,.int .i64 0,.int .i64 0,.int .u32 0] 26) by rw [← hwB];exact zE)
 have HWB:=zC hwB
 clear k1 hwB
 go_upto_region 4 with (fail)
 rw [HWB.out]
 obtain⟨x0,x1,x2,x3,x4,x5,x6,x7,x8,x9,_,xl⟩:=zZ HQB.out
 go_wp2_with fail
 refine (HB.out _).mono ?_
 rintro e w2 ⟨p,rfl,w0,a,m,b,c,LA,LM,k0,hp,hnil⟩
 have HP:=zC hp;have HNIL:=zC hnil
 have HKW:=zC (HKB.out.trans k0)
 have HQ2:=zC (zB (zB HQB.out k0 (fun h=>h)) hp.kp (fun h=>h))
 have HD:=zC (HBS.out _ _ _ _ _ _ _ _ hp.q.tr.both)
 clear k0 hp hnil x0 x1 x2 x3 x4 x5 x6 x7 x8 x9 xl
 obtain⟨x0,x1,x2,x3,x4,x5,x6,x7,x8,x9,_,xl⟩:=zZ HQ2.out
 go_wp2_with fail
 refine HD.out.mono ?_
 rintro e w3 ⟨t,dx,dy,db,dz,rfl,k3,htn⟩
 have HT0:=zC (show CpAt w0 w3 p a t dx dy bu db dz ms LA (K0.tn l 0).1 (K0.tn l 0).2 (.pointer none) from⟨m,b,c,LM,⟨HP.out.same k3,⟨_,htn,fun v2 g e1 e2=>by
  obtain⟨_,⟨v3,h1,_⟩,_⟩:=id HP.out
  have e4:=zD (i:=2) h1 rfl
  rw [HNIL.out] at e4
  obtain rfl:=Option.some.inj e4
  rw [zD (i:=2) (zB h1 k3 (fun h=>h)) rfl] at e1
  obtain rfl:=Option.some.inj e1
  cases e2⟩,fun v2 q g e1 _ e2=>by
  obtain⟨_,⟨v3,h1,_⟩,_⟩:=id HP.out
  have e4:=zD (i:=2) h1 rfl
  rw [HNIL.out] at e4
  obtain rfl:=Option.some.inj e4
  rw [zD (i:=2) (zB h1 k3 (fun h=>h)) rfl] at e1
  obtain rfl:=Option.some.inj e1
  cases e2⟩,.inl rfl⟩)
 clear k3 htn HP HNIL HD HBS HB HC HQB HQ2 HWB x0 x1 x2 x3 x4 x5 x6 x7 x8 x9 xl
 go_wp2_with fail
 go_loopw [17,18] (fun ov ix wr=>∃ i:Nat,i≤N∧ix = .int .i64 i∧Hid (CpAt w0 wr p a t dx dy bu db dz ms LA (K0.tn l i).1 (K0.tn l i).2 ov)) (fun _ ix _=>N - (intOf ix).toNat)
 case atStart=>exact⟨0,Nat.zero_le _,rfl,HT0⟩
 case round=>
  obtain⟨i,hi,rfl,HCP⟩:=hrel
  have hi0:(0:Int)≤i:=by omega
  by_cases hlt:i<N
  ·have hlt':(i:Int)<(N:Int):=by omega
   obtain⟨r,hr⟩:∃ r,l[i]?=some r:=⟨_,List.getElem?_eq_getElem (by have:=HNL.out;omega)⟩
   obtain⟨b2,o2,rfl,hb2,hzc⟩:=HROW.out i r hr
   have HBY:=zC (hzc.same (HKW.out.block b2 hb2 (fun h=>h))).1
   have HZC:=zC (fun W (hk:Kz w0 W)=>hzc.same (w':=W) ((HKW.out.trans hk).block b2 hb2 (fun h=>h)))
   have HBL:=zC hb2
   obtain⟨t1,t2,t3,t4⟩:=Col.tn_ok HOK.out l i (by have:=HNL.out;omega)
   have t5:=Col.tn_nn HNV.out l i (by have:=HNL.out;omega)
   have HSU:=zC (Col.tn_succ K0 l hr)
   rw [HBG.out] at t3
   obtain⟨K,hK⟩:∃ K,(K0.tn l i).1=K:=⟨_,rfl⟩
   obtain⟨f,hf⟩:∃ f,(K0.tn l i).2=f:=⟨_,rfl⟩
   rw [hK,hf] at HSU HCP
   rw [hK] at t1 t2 t3 t5
   rw [hf] at t4
   have HKO:=zC t1;have HKB2:=zC t3;have HKL:=zC t4;have HKN:=zC t5;have HMS:=zC (show K.s.M.K.many=ms from t2.1.trans HKM.out)
   clear t1 t2 t3 t4 t5 hr hzc hb2 hK hf
   go_upto_if 47 with fail
   go_cut [17,18] from 38 to 105 (fun ov2 ix wx=>ix = .int .i64 i∧CpAt w0 wx p a t dx dy bu db dz ms LA K f ov2)
   case first=>
    by_cases hat:i=av
    ·have hab:((i:Int) == (av:Int))=true:=by simp;omega
     obtain⟨m,b,c,LM,HT,_⟩:=HCP.out
     have HT:=zC HT
     have HCY:=zC (cycopy_ok HT.out.pr.q)
     obtain⟨⟨c0,c1,c3⟩,d0,d1⟩:=HT.out.cs
     clear hat
     go_wp2_with fail
     refine HCY.out.mono ?_
     rintro e wc2 ⟨c',m',b',LM',rfl,kc,hm,hb,hs,lb,hc,lc⟩
     obtain⟨hT2,hO,hL⟩:=HT.out.copied kc hm hb hs lb hc lc
     obtain⟨⟨c0',c1',c3'⟩,d0',d1'⟩:=(HT.out.quiet kc).cs
     have cf:=(show wc2.frozen? ⟨p,1,none⟩=false from by
      obtain⟨_,⟨_,h1,_⟩,_⟩:=id (HT.out.quiet kc).pr
      exact zL h1 1)
     have hN0:CpAt w0 (wc2.setCell ⟨p,1,none⟩ (.pointer (some ⟨c',0,none⟩))) p a t dx dy bu db dz ms LA K f (.pointer (some ⟨c,0,none⟩)):=⟨m',b',c',LM',hT2,.inr ⟨_,m,c,LM,K,rfl,hO,by rw [← HMS.out];exact hL,by have:=HKO.out.s.m.ph;omega,by have:=HKB2.out;omega,by have:=Col.cy_le HKO.out;have:=HKB2.out;omega⟩⟩
     have HN0:=zC hN0
     clear kc hm hb hs lb hc lc hT2 hO hL hN0 c0 c1 c3 d0 d1
     go_wp2_with fail
     go_meet
     exact⟨rfl,HN0.out⟩
    ·have hab:((i:Int) == (av:Int))=false:=by simp;omega
     go_wp2_with fail
     go_meet
     exact⟨rfl,HCP.out⟩
   case rest=>
   obtain⟨rfl,m,b,c,LM,hT,hO⟩:=hcut
   have HT:=zC hT
   clear hT HCP
   rcases hO with rfl | ⟨N0,mo,co,LO,ko,rfl,hO,hL,hp1,hp2,hp3⟩
   ·have HO:Hid (True):=zC trivial
    obtain⟨_,g0,g1,g2,g3,g4⟩:=HZC.out _ HT.out.pr.kp
    have hbl:=Nat.lt_of_lt_of_le HBL.out (HKW.out.trans HT.out.pr.kp).size
    have HPT:=zC (pturn r HT.out.pr HKO.out HBY.out (by have:=HKB2.out;omega) (by have:=HKL.out;omega))
    go_wp2_with fail
    (first
     | (refine (oldphase HO.out).mono ?_;rintro e w' ⟨rfl,h'⟩;obtain rfl:=h'.symm;go_wp2_with fail;refine (oldbegun HO.out).mono ?_;rintro e w' ⟨rfl,h'⟩;obtain rfl:=h'.symm;go_wp2_with fail;refine (oldended HO.out).mono ?_;rintro e w' ⟨rfl,h'⟩;obtain rfl:=h'.symm;go_wp2_with fail)
     | skip)
    refine HPT.out.mono ?_
    rintro e w5 ⟨rfl,hp5,hk5⟩
    have HT5:=zC (HT.out.prog hp5 hk5)
    (first | have HO5:=zC (HO.out.prog HT.out (by rw [HMS.out];exact HL.out) hk5) | skip)
    clear hp5 hk5 g0 g1 g2 g3 g4 hbl HPT
    obtain⟨_,g0,g1,g2,g3,g4⟩:=HZC.out _ HT5.out.pr.kp
    have hbl:=Nat.lt_of_lt_of_le HBL.out (HKW.out.trans HT5.out.pr.kp).size
    obtain⟨F,htn,hF⟩:=HT5.out.ex
    have HTW:=zC (twturn r htn HKO.out HKN.out HBY.out (by have:=HKB2.out;omega) (by have:=HKL.out;omega))
    have HTN:=zC htn;have HF:=zC hF
    clear htn hF
    go_wp2_with fail
    refine HTW.out.mono ?_
    rintro e w6 ⟨rfl,F',hsub,htn6,hk6⟩
    have HT6:=zC (HT5.out.docu HTN.out HF.out hsub htn6 hk6)
    (first | have HO6:=zC (HO5.out.docu HTN.out hk6) | skip)
    obtain⟨o1,_,_,o4⟩:=turn26_ok r HKO.out f
    have HAL:=zC (alike26 HT6.out o1 (by have:=HKL.out;omega))
    clear hsub htn6 hk6 g0 g1 g2 g3 g4 hbl HTW HTN HF o1 o4
    go_wp2_with fail
    (first
     | (refine (oldphase HO6.out).mono ?_;rintro e w' ⟨rfl,h'⟩;obtain rfl:=h'.symm;go_wp2_with fail;refine (oldbegun HO6.out).mono ?_;rintro e w' ⟨rfl,h'⟩;obtain rfl:=h'.symm;go_wp2_with fail;refine (oldended HO6.out).mono ?_;rintro e w' ⟨rfl,h'⟩;obtain rfl:=h'.symm;go_wp2_with fail)
     | skip)
    refine zQ HAL.out fun w7 k7=>?_
    have HT7:=zC (HT6.out.quiet k7)
    (first | have HO7:=zC (HO6.out.quiet k7) | skip)
    clear k7 HAL
    go_wp2_with fail
    refine⟨⟨i+1,by omega,by go_num,zC ?_⟩,by simp [intOf];omega⟩
    rw [HSU.out]
    first
     | exact⟨m,b,c,LM,HT7.out,.inl rfl⟩
     | exact⟨m,b,c,LM,HT7.out,.inr ⟨N0,mo,co,LO,ko,rfl,HO7.out,HL.out,hp1,hp2,hp3⟩⟩
   ·have HO:=zC hO;have HL:=zC hL
    clear hO hL
    obtain⟨_,g0,g1,g2,g3,g4⟩:=HZC.out _ HT.out.pr.kp
    have hbl:=Nat.lt_of_lt_of_le HBL.out (HKW.out.trans HT.out.pr.kp).size
    have HPT:=zC (pturn r HT.out.pr HKO.out HBY.out (by have:=HKB2.out;omega) (by have:=HKL.out;omega))
    go_wp2_with fail
    (first
     | (refine (oldphase HO.out).mono ?_;rintro e w' ⟨rfl,h'⟩;obtain rfl:=h'.symm;go_wp2_with fail;refine (oldbegun HO.out).mono ?_;rintro e w' ⟨rfl,h'⟩;obtain rfl:=h'.symm;go_wp2_with fail;refine (oldended HO.out).mono ?_;rintro e w' ⟨rfl,h'⟩;obtain rfl:=h'.symm;go_wp2_with fail)
     | skip)
    refine HPT.out.mono ?_
    rintro e w5 ⟨rfl,hp5,hk5⟩
    have HT5:=zC (HT.out.prog hp5 hk5)
    (first | have HO5:=zC (HO.out.prog HT.out (by rw [HMS.out];exact HL.out) hk5) | skip)
    clear hp5 hk5 g0 g1 g2 g3 g4 hbl HPT
    obtain⟨_,g0,g1,g2,g3,g4⟩:=HZC.out _ HT5.out.pr.kp
    have hbl:=Nat.lt_of_lt_of_le HBL.out (HKW.out.trans HT5.out.pr.kp).size
    obtain⟨F,htn,hF⟩:=HT5.out.ex
    have HTW:=zC (twturn r htn HKO.out HKN.out HBY.out (by have:=HKB2.out;omega) (by have:=HKL.out;omega))
    have HTN:=zC htn;have HF:=zC hF
    clear htn hF
    go_wp2_with fail
    refine HTW.out.mono ?_
    rintro e w6 ⟨rfl,F',hsub,htn6,hk6⟩
    have HT6:=zC (HT5.out.docu HTN.out HF.out hsub htn6 hk6)
    (first | have HO6:=zC (HO5.out.docu HTN.out hk6) | skip)
    obtain⟨o1,_,_,o4⟩:=turn26_ok r HKO.out f
    have HAL:=zC (alike26 HT6.out o1 (by have:=HKL.out;omega))
    clear hsub htn6 hk6 g0 g1 g2 g3 g4 hbl HTW HTN HF o1 o4
    go_wp2_with fail
    (first
     | (refine (oldphase HO6.out).mono ?_;rintro e w' ⟨rfl,h'⟩;obtain rfl:=h'.symm;go_wp2_with fail;refine (oldbegun HO6.out).mono ?_;rintro e w' ⟨rfl,h'⟩;obtain rfl:=h'.symm;go_wp2_with fail;refine (oldended HO6.out).mono ?_;rintro e w' ⟨rfl,h'⟩;obtain rfl:=h'.symm;go_wp2_with fail)
     | skip)
    refine zQ HAL.out fun w7 k7=>?_
    have HT7:=zC (HT6.out.quiet k7)
    (first | have HO7:=zC (HO6.out.quiet k7) | skip)
    clear k7 HAL
    go_wp2_with fail
    refine⟨⟨i+1,by omega,by go_num,zC ?_⟩,by simp [intOf];omega⟩
    rw [HSU.out]
    first
     | exact⟨m,b,c,LM,HT7.out,.inl rfl⟩
     | exact⟨m,b,c,LM,HT7.out,.inr ⟨N0,mo,co,LO,ko,rfl,HO7.out,HL.out,hp1,hp2,hp3⟩⟩
  ·obtain rfl:i=N:=by omega
   have hlt':¬ (i:Int)<(i:Int):=by omega
   obtain⟨m,b,c,LM,hT,_⟩:=HCP.out
   have HT:=zC hT
   obtain⟨⟨c0,c1,c3⟩,d0,d1⟩:=hT.cs
   clear hT HCP HT0
   go_wp2_with fail
   refine zQ (works26 _) fun wz kz=>?_
   have KZ:=zC kz
   clear kz
   go_wp2_with fail
   go_ret
   exact⟨rfl,(HKW.out.trans HT.out.pr.kp).trans KZ.out⟩
open Go.ChangeShapes Go.WideShapes Go.ChangeAt Go.Deep in
theorem cyclePlays_law {H:Type} {enc:TypeId × Value→H} {base:Nat} {spare:Nat→Bool} {held:Bool} {r:Reach} {b0:Nat} (a0:Int) (h0:(Lit.int .u8 a0).wf=true) (a1:Int) (h1:(Lit.int .u8 a1).wf=true) (a2:Int) (h2:(Lit.int .u8 a2).wf=true) (a3:Int) (h3:(Lit.int .u8 a3).wf=true)
 (v:Value) (d:DataW H) (p:List MemPlace) {w:World} (hv:Value.okWide Tryz.prog w r b0 22 v) (h:DataW.Trod enc Tryz.prog w base spare held 22 v d p) (a5:Int) (h5:(Lit.int .u8 a5).wf=true) (w':World) (e':w'=w):
 Calls Tryz.prog 3 #[.int .u8 a0,.int .u8 a1,.int .u8 a2,.int .u8 a3,v,.int .u8 a5] w' fun e w2=>e = .returned (.bool true)∧Kz w' w2:=by
 subst e'
 obtain⟨x0,rfl,g0⟩:=u8_natC h0
 obtain⟨x1,rfl,g1⟩:=u8_natC h1
 obtain⟨x2,rfl,g2⟩:=u8_natC h2
 obtain⟨x3,rfl,g3⟩:=u8_natC h3
 obtain⟨x5,rfl,g5⟩:=u8_natC h5
 obtain⟨a,n,k,rfl,e1,e2,hx⟩:=open_flat_slice (ks:=ks5) Tryz.underlying22 (by kernel_rfl) (by kernel_rfl) (by decide) hv h
 obtain⟨l,hl⟩:=mvrow_of e1 e2 hx
 exact cyclePlays_walk x0 x1 x2 x3 x5 l _ w' g0 g1 g2 g3 g5 hl
end Go.Proofs.YtjfmagccmjdhoaaGreat
