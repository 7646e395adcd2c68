import Derived.Test.YtjfmagccmjdhoaaGreatMgD
import Derived.ChangeKeysEq
import Derived.StillTailTactics
set_option maxHeartbeats 1000000
set_option maxRecDepth 100000
namespace Go.Proofs.YtjfmagccmjdhoaaGreat
open Go.RowKit
structure Pt where
 n:Nat
 c:Nat→Int
structure PtC (c:Array Value) (P:Pt):Prop where
 size:c.size=257
 len:c[0]?=some (.int .i64 P.n)
 col:∀ i,i<256→c[1+i]?=some (.int .u8 (P.c i))
 n1:1≤P.n
 n2:P.n≤256
 lo:∀ i,0≤P.c i
 hi:∀ i,P.c i≤2
def PtAt (w:World) (b:Nat) (P:Pt):Prop:=∃ c,w.heap[b]?=some (.cells c 227)∧PtC c P
theorem PtAt.lt {w:World} {b:Nat} {P:Pt} (h:PtAt w b P):b<w.heap.size:=by obtain⟨c,h,_⟩:=h;exact zF h
theorem PtAt.keeps {w w':World} {b:Nat} {P:Pt} {S:Nat→Prop} (h:PtAt w b P) (hk:zA S w w') (hS:¬ S b):PtAt w' b P:=by
 obtain⟨c,h,hc⟩:=h;exact⟨c,zB h hk hS,hc⟩
def Pt.put (P:Pt) (i:Nat) (x:Int):Pt:={ P with c:=zU P.c i x }
theorem PtC.put {c:Array Value} {P:Pt} (h:PtC c P) (i:Nat) (hi:i<256) (x:Int) (h0:0≤x) (h2:x≤2):PtC (c.setIfInBounds (1+i) (.int .u8 x)) (P.put i x):=by
 have hs:=h.size
 refine⟨by simpa using hs,?_,?_,h.n1,h.n2,?_,?_⟩
 ·rw [Array.getElem?_setIfInBounds_ne (by omega)];exact h.len
 ·intro j hj
  by_cases e:j=i
  ·subst e;rw [Array.getElem?_setIfInBounds_self_of_lt (by omega)];simp [Pt.put,zU]
  ·rw [Array.getElem?_setIfInBounds_ne (by omega),h.col j hj];simp [Pt.put,zU,e]
 ·intro j;simp only [Pt.put,zU];split;exact h0;exact h.lo j
 ·intro j;simp only [Pt.put,zU];split;exact h2;exact h.hi j
theorem PtC.one {c:Array Value} {P:Pt} (h:PtC c P):c.all (·.oneCell')=true:=by
 rw [Array.all_eq_true]
 intro i hi
 rw [h.size] at hi
 have key:∃ k x,c[i]?=some (.int k x):=by
  by_cases h0:i=0
  ·subst h0;exact⟨_,_,h.len⟩
  ·obtain⟨j,rfl⟩:∃ j,i=1+j:=⟨i - 1,by omega⟩
   exact⟨_,_,h.col j (by omega)⟩
 obtain⟨k,x,hx⟩:=key
 obtain⟨_,hx'⟩:=Array.getElem?_eq_some_iff.1 hx
 rw [hx'];rfl
theorem pz_list:Tryz.zeroCells227.toList = .int .i64 0 :: List.replicate 256 (Value.int .u8 0):=by kernel_rfl
theorem pz_new (n:Nat) (h1:1≤n) (h2:n≤256):PtC (Tryz.zeroCells227.setIfInBounds 0 (.int .i64 n)) ⟨n,fun _=>0⟩:=by
 have hs:Tryz.zeroCells227.size=257:=Tryz.zeroCells227_size
 have hz:∀ i,Tryz.zeroCells227[i]?=(Value.int .i64 0 :: List.replicate 256 (Value.int .u8 0))[i]?:=fun i=>by rw [← pz_list,Array.getElem?_toList]
 refine⟨by simp [hs],?_,?_,h1,h2,fun i=>by simp,fun i=>by simp⟩
 ·rw [Array.getElem?_setIfInBounds_self_of_lt (by omega)]
 ·intro i hi
  rw [Array.getElem?_setIfInBounds_ne (by omega),hz,show 1+i=i+1 by omega,List.getElem?_cons_succ,List.getElem?_replicate,if_pos hi]
theorem cnew_ok (n:Int) (w:World) (hn:1≤n) (hn1:n≤256):
 Calls Tryz.prog 152 #[.int .i64 n] w fun e w'=>e = .returned (.tuple #[.pointer (some ⟨w.heap.size,0,none⟩),.int .i64 0])∧Kz w w'∧PtAt w' w.heap.size ⟨n.toNat,fun _=>0⟩:=by
 obtain⟨m,rfl⟩:∃ m:Nat,n=m:=⟨n.toNat,by omega⟩
 have hz:=zC (pz_new m (by omega) (by omega))
 go_in
 go_wp2
 go_ret2
 exact⟨rfl,(zA.refl _ _).alloc _,_,zE,by simpa using hz.out⟩
theorem cmade (b:Nat) (P:Pt) (w:World) (h:PtAt w b P):
 Calls Tryz.prog 161 #[.pointer (some ⟨b,0,none⟩)] w fun e w'=>e = .returned (.bool true)∧w'=w:=by
 obtain⟨c,hc,hC⟩:=h
 have c0:=zD hc hC.len
 have h1:=hC.n1
 have hI:0<P.n:=by omega
 clear hc hC
 go_in
 go_wp2
 go_ret
 exact⟨rfl,rfl⟩
theorem cwith_bad (b:Nat) (P:Pt) (s:Int) (f:Value) (w:World) (h:PtAt w b P) (hs:s<0∨(P.n:Int)≤s):
 Calls Tryz.prog 209 #[.pointer (some ⟨b,0,none⟩),.int .i64 s,f] w fun e w'=>e = .returned (.int .i64 3)∧Kz w w':=by
 have HM:=zC (cmade b P w h)
 obtain⟨c,hc,hC⟩:=h
 have c0:=zD hc hC.len
 clear hc hC
 by_cases h0:s<0
 ·clear hs
  go_in
  go_wp2_with fail
  refine zP HM.out ?_
  go_wp2_with fail
  go_ret
  exact⟨rfl,(by repeat (first | exact zA.refl _ _ | apply zA.drewN | apply zA.alloc))⟩
 ·have h1:(P.n:Int)≤s:=by omega
  clear hs
  go_in
  go_wp2_with fail
  refine zP HM.out ?_
  go_wp2_with fail
  go_ret
  exact⟨rfl,(by repeat (first | exact zA.refl _ _ | apply zA.drewN | apply zA.alloc))⟩
theorem cwith_ok (b:Nat) (P:Pt) (i:Nat) (f:FuncId) (caps:Array Value) (R:Int→World→Prop) (w:World) (h:PtAt w b P) (hi:i<P.n)
 (hr:∀ args w,(callFunc f args).run Tryz.prog w = .ok (.enter f args) w)
 (hf:∀ w',Kz w w'→Calls Tryz.prog f (#[.pointer (some ⟨b,1+i,none⟩)] ++ caps) w' fun e w'=>∃ k,e = .returned (.int .i64 k)∧R k w'):
 Calls Tryz.prog 209 #[.pointer (some ⟨b,0,none⟩),.int .i64 i,.func (.func f) #[] caps] w fun e w'=>∃ k,e = .returned (.int .i64 k)∧R k w':=by
 have HM:=zC (cmade b P w h)
 obtain⟨c,hc,hC⟩:=h
 have c0:=zD hc hC.len
 have hb:=zF hc
 have h2:=hC.n2
 clear hc hC
 have HF:=zC hf
 clear hf
 have g0:(0:Int)≤i:=by omega
 have g1:(i:Int)<(P.n:Int):=by omega
 have g2:(i:Int)<256:=by omega
 go_in
 go_wp2_with fail
 refine zP HM.out ?_
 go_wp2_with fail
 refine (HF.out _ (zA.refl _ _)).mono ?_
 rintro e w3 ⟨k,rfl,h3⟩
 go_wp2_with fail
 go_ret
 exact⟨_,rfl,h3⟩
theorem PtAt.cell {w:World} {b:Nat} {P:Pt} (h:PtAt w b P) {i:Nat} (hi:i<P.n):w.cell? ⟨b,1+i,none⟩=some (.int .u8 (P.c i)):=by
 obtain⟨c,h,hc⟩:=h;exact zD h (hc.col i (by have:=hc.n2;omega))
theorem PtAt.frozen {w:World} {b:Nat} {P:Pt} (h:PtAt w b P) (i:Nat):w.frozen? ⟨b,i,none⟩=false:=by
 obtain⟨c,h,hc⟩:=h;exact zL h i
theorem PtAt.bd {w:World} {b:Nat} {P:Pt} (h:PtAt w b P) (i:Nat):0≤P.c i∧P.c i≤2:=by
 obtain⟨c,h,hc⟩:=h;exact⟨hc.lo i,hc.hi i⟩
theorem PtAt.n12 {w:World} {b:Nat} {P:Pt} (h:PtAt w b P):1≤P.n∧P.n≤256:=by
 obtain⟨c,h,hc⟩:=h;exact⟨hc.n1,hc.n2⟩
theorem PtAt.set {w:World} {b:Nat} {P:Pt} (h:PtAt w b P) {i:Nat} (hi:i<P.n) (x:Int) (h0:0≤x) (h2:x≤2):PtAt (w.setCell ⟨b,1+i,none⟩ (.int .u8 x)) b (P.put i x):=by
 obtain⟨c,h,hc⟩:=h;exact⟨_,zH h _ _,hc.put i (by have:=hc.n2;omega) x h0 h2⟩
theorem cof1 (b o B:Nat) (x:Int) (w:World) (h0:0≤x) (h2:x≤2) (hc:w.cell? ⟨b,o,none⟩=some (.int .u8 x)) (hB:w.heap[B]?=some (.cells #[.int .i64 0] 3)):
 Calls Tryz.prog 210 #[.pointer (some ⟨b,o,none⟩),.pointer (some ⟨B,0,none⟩)] w fun e w'=>e = .returned (.int .i64 0)∧zA (fun y=>y=B) w w'∧w'.heap[B]?=some (.cells #[.int .i64 x] 3):=by
 obtain⟨c0,cf,cl⟩:=zX hB
 have f0:=cf 0
 have HB:=zC hB
 have hw:IntKind.i64.wrap x=x:=IntWalk.i64_in _ (by omega)
 clear hB cf
 go_in
 go_wp2
 go_ret
 exact⟨rfl,zJ _ _ _ _,(zH HB.out 0 _).trans rfl⟩
theorem cof_ok (b:Nat) (P:Pt) (i:Nat) (w:World) (h:PtAt w b P) (hi:i<P.n):
 Calls Tryz.prog 142 #[.pointer (some ⟨b,0,none⟩),.int .i64 i] w fun e w'=>e = .returned (.tuple #[.int .i64 (P.c i),.int .i64 0])∧Kz w w':=by
 have HW:=zC (fun (w0:World) B (hk0:Kz w w0) (hq:w0.heap[B]?=some (.cells #[.int .i64 0] 3))=>
  cwith_ok b P i 210 #[.pointer (some ⟨B,0,none⟩)] (fun k w'=>k=0∧zA (fun y=>y=B) w0 w'∧w'.heap[B]?=some (.cells #[.int .i64 (P.c i)] 3)) w0 (h.keeps hk0 (fun h=>h)) hi (enters_of Tryz.func210 (by kernel_rfl) rfl)
   (fun w' hk=>(cof1 b (1+i) B (P.c i) w' (h.bd i).1 (h.bd i).2 ((h.keeps (hk0.trans hk) (fun h=>h)).cell hi) (zB hq hk (fun h=>h))).mono (by
    rintro e w2 ⟨rfl,h2,h3⟩
    exact⟨0,rfl,rfl,hk.trans' h2 (fun _ _ h=>h.elim) (fun _ _ h=>h),h3⟩)))
 clear h hi
 go_in
 go_wp2_with fail
 refine (HW.out _ _ ((zA.refl _ _).alloc _) zE).mono ?_
 rintro e w1 ⟨k,rfl,rfl,hk,hq⟩
 obtain⟨c0,_,_⟩:=zX hq
 have HK:=zC (((zA.refl (fun y=>w.heap.size≤y) w).alloc _).trans' hk (U:=fun y=>w.heap.size≤y) (fun _ _ h=>h) (fun y _ h=>by omega))
 clear hk hq
 go_wp2_with fail
 go_ret2
 exact⟨rfl,HK.out.fresh⟩
theorem cof_bad (b:Nat) (P:Pt) (s:Int) (w:World) (h:PtAt w b P) (hs:s<0∨(P.n:Int)≤s):
 Calls Tryz.prog 142 #[.pointer (some ⟨b,0,none⟩),.int .i64 s] w fun e w'=>e = .returned (.tuple #[.int .i64 0,.int .i64 3])∧Kz w w':=by
 have HW:=zC (fun (w0:World) f (hk0:Kz w w0)=>cwith_bad b P s f w0 (h.keeps hk0 (fun h=>h)) hs)
 clear h hs
 go_in
 go_wp2_with fail
 refine zQ (HW.out _ _ ((zA.refl _ _).alloc _)) fun w1 hk=>?_
 obtain⟨c0,_,_⟩:=zX (zB (zE (w:=w)) hk (fun h=>h))
 have HK:=zC (((zA.refl (fun _=>False) w).alloc _).trans hk)
 clear hk
 go_wp2_with fail
 go_ret2
 exact⟨rfl,HK.out⟩
def Pt.shade (P:Pt) (i:Nat):Pt:=if P.c i=0 then P.put i 1 else P
theorem cshade1 (b i B:Nat) (P:Pt) (w:World) (h:PtAt w b P) (hi:i<P.n) (hB:w.heap[B]?=some (.cells #[.bool false] 4)):
 Calls Tryz.prog 226 #[.pointer (some ⟨b,1+i,none⟩),.pointer (some ⟨B,0,none⟩)] w fun e w'=>e = .returned (.int .i64 0)∧zA (fun y=>y=b∨y=B) w w'∧w'.heap[B]?=some (.cells #[.bool (P.c i == 0)] 4)∧PtAt w' b (P.shade i):=by
 obtain⟨c0,cf,cl⟩:=zX hB
 have f0:=cf 0
 have hc:=h.cell hi
 have fc:=h.frozen (1+i)
 have hl:=h.lt
 have hne:b≠B:=by obtain⟨c,h,_⟩:=h;exact zM h hB (by decide)
 have hne':=hne.symm
 have HP:=zC h;have HI:=zC hi;have HB:=zC hB
 clear h hi hB cf
 rcases hx:(P.c i == 0) with _ | _
 ·have HX:=zC (show P.shade i=P by rw [Pt.shade,if_neg (by simpa using hx)])
  go_in
  go_wp2
  go_ret
  rw [HX.out]
  have kk:=zJ w B 0 (.bool false)
  exact⟨rfl,kk.mono (fun _ _ h=>.inr h),(zH HB.out 0 _).trans rfl,HP.out.keeps kk hne⟩
 ·have HX:=zC (show P.shade i=P.put i 1 by rw [Pt.shade,if_pos (by simpa using hx)])
  go_in
  go_wp2
  go_ret
  rw [HX.out]
  have kk:=zJ w B 0 (.bool true)
  exact⟨rfl,(kk.mono (T:=fun y=>y=b∨y=B) (fun _ _ h=>.inr h)).setCell (p:=⟨b,_,none⟩) (.inl (.inl rfl)) _,(qG (zH HB.out 0 _) hne').trans rfl,(HP.out.keeps kk hne).set HI.out 1 (by decide) (by decide)⟩
theorem cshade_ok (b:Nat) (P:Pt) (i:Nat) (w:World) (h:PtAt w b P) (hi:i<P.n):
 Calls Tryz.prog 179 #[.pointer (some ⟨b,0,none⟩),.int .i64 i] w fun e w'=>e = .returned (.tuple #[.bool (P.c i == 0),.int .i64 0])∧zA (fun y=>y=b) w w'∧PtAt w' b (P.shade i):=by
 have hl:=h.lt
 have HW:=zC (fun (w0:World) B (hk0:Kz w w0) (hq:w0.heap[B]?=some (.cells #[.bool false] 4))=>
  cwith_ok b P i 226 #[.pointer (some ⟨B,0,none⟩)] (fun k w'=>k=0∧zA (fun y=>y=b∨y=B) w0 w'∧w'.heap[B]?=some (.cells #[.bool (P.c i == 0)] 4)∧PtAt w' b (P.shade i)) w0 (h.keeps hk0 (fun h=>h)) hi (enters_of Tryz.func226 (by kernel_rfl) rfl)
   (fun w' hk=>(cshade1 b i B P w' (h.keeps (hk0.trans hk) (fun h=>h)) hi (zB hq hk (fun h=>h))).mono (by
    rintro e w2 ⟨rfl,h2,h3,h4⟩
    exact⟨0,rfl,rfl,hk.trans' h2 (fun _ _ h=>h.elim) (fun _ _ h=>h),h3,h4⟩)))
 clear h hi
 go_in
 go_wp2_with fail
 refine (HW.out _ _ ((zA.refl _ _).alloc _) zE).mono ?_
 rintro e w1 ⟨k,rfl,rfl,hk,hq,hp⟩
 obtain⟨c0,_,_⟩:=zX hq
 have HK:=zC ((((zA.refl (fun y=>y=b∨w.heap.size≤y) w).alloc _).trans' hk (U:=fun y=>y=b∨w.heap.size≤y) (fun _ _ h=>h) (fun y _ h=>by rcases h with h | h;exact .inl h;exact .inr (by omega))).mono (T:=fun y=>y=b) (fun y hy h=>by rcases h with h | h;exact h;omega))
 have HP:=zC hp
 clear hk hq hp
 go_wp2_with fail
 go_ret2
 exact⟨rfl,HK.out,HP.out⟩
attribute [local go_sem] Oper.semAt_some
def Pt.gr (P:Pt):Nat→List Nat
 | 0=>[]
 | k+1=>P.gr k ++ (if P.c k=1 then [k] else [])
theorem Pt.gr_yes {P:Pt} {k:Nat} (h:P.c k=1):P.gr (k+1)=P.gr k ++ [k]:=by simp [Pt.gr,h]
theorem Pt.gr_no {P:Pt} {k:Nat} (h:P.c k≠1):P.gr (k+1)=P.gr k:=by simp [Pt.gr,h]
theorem Pt.gr_pre {P:Pt} (k n:Nat) (h:k≤n):∃ suf,P.gr n=P.gr k ++ suf:=by
 induction n with
 | zero=>obtain rfl:k=0:=by omega
         exact⟨[],by simp⟩
 | succ n ih=>
  by_cases e:k=n+1
  ·subst e;exact⟨[],by simp⟩
  ·obtain⟨suf,hs⟩:=ih (by omega)
   exact⟨suf ++ (if P.c n=1 then [n] else []),by simp [Pt.gr,hs]⟩
theorem Pt.gr_split {P:Pt} {k n:Nat} (h:k<n) (hs:P.c k=1):∃ suf,P.gr n=P.gr k ++ k :: suf:=by
 obtain⟨suf,h'⟩:=Pt.gr_pre (P:=P) (k+1) n h
 exact⟨suf,by rw [h',Pt.gr_yes hs];simp⟩
def encG (x:Nat):Array Value:=#[.int .i64 x]
theorem cgrey_gives (b B1 B2:Nat) (P:Pt):
 Gives Tryz.prog 295 #[.pointer (some ⟨B1,0,none⟩),.pointer (some ⟨B2,0,none⟩)] encG (P.gr P.n)
  (fun W=>W.cell? ⟨B1,0,none⟩=some (.pointer (some ⟨b,0,none⟩))∧W.cell? ⟨B2,0,none⟩=some (.int .i64 0)∧PtAt W b P) (fun _=>False):=by
 intro l J Jx W hJ hJx hRd hY h0
 have hr:=hRd _ _ h0
 obtain⟨c1,c2,ht⟩:=hr
 have HV:=zC (cmade b P W ht)
 clear ht
 have HJ:=zC hJ;have HR:=zC hRd;have HY:=zC hY;have H0:=zC h0
 clear hJ hRd hY h0
 refine (callsIn_wide (n:=0)).1 ?_
 refine callsIn_of_wp Tryz.func295 rfl trivial ?_ rfl
 simp only [Tryz.ntmps295,List.size_toArray,List.length_cons,List.length_nil,Nat.reduceAdd,Nat.reduceSub,Array.replicate_succ,Array.replicate_zero,List.push_toArray,List.append_toArray,List.nil_append,List.cons_append]
 gi_wp2_with fail
 refine⟨trivial,rfl,callsIn_wide.2 (HV.out.mono ?_)⟩
 rintro e w' ⟨rfl,h'⟩
 obtain rfl:=h'.symm
 gi_wp2_with fail
 gi_loopw [4] (fun i wr=>∃ k:Nat,k≤P.n∧i = .int .i64 k∧J (P.gr k) wr) (fun i _=>P.n - (intOf i).toNat)
 case atStart=>exact⟨0,Nat.zero_le _,rfl,H0.out⟩
 case round=>
  obtain⟨k,hk,rfl,hj⟩:=hrel
  clear c1 c2 HV H0
  obtain⟨c1,c2,ht⟩:=HR.out _ _ hj
  have h12:=ht.n12
  have hhd:wr.cell? ⟨b,0,none⟩=some (.int .i64 P.n):=by obtain⟨c,h,hc⟩:=ht;exact zD h hc.len
  by_cases hlt:k<P.n
  ·have hlt':(k:Int)<(P.n:Int):=by omega
   have hk0:(0:Int)≤k:=by omega
   have hk256:(k:Int)<256:=by omega
   have h1:=ht.cell hlt
   clear ht
   rcases he:(P.c k == 1) with _ | _
   ·have HE:=zC (show P.c k≠1 by simpa using he)
    have HJ1:=zC hj
    gi_wp2_with fail
    refine⟨fun _ h=>(by cases h),?_⟩
    gi_wp2_with fail
    exact⟨⟨k+1,by omega,by go_num,by rw [Pt.gr_no HE.out];exact HJ1.out⟩,by simp [intOf];omega⟩
   ·have hes:P.c k=1:=by simpa using he
    obtain⟨suf,hsuf⟩:=Pt.gr_split hlt hes
    obtain⟨fn,tmps,assign,body,hy,hR⟩:=HY.out _ _ suf _ hsuf hj
    have HE:=zC hes;clear hes hsuf suf
    dsimp only [encG] at hy
    gi_wp2_with fail
    refine⟨rfl,hR.mono ?_⟩
    rintro e W' (⟨rfl,hJ'⟩ | ⟨rfl,hJx'⟩)
    ·gi_wp2_with fail
     exact⟨⟨k+1,by omega,by go_num,by rw [Pt.gr_yes HE.out];exact hJ'⟩,by simp [intOf];omega⟩
    ·gi_wp2_with fail
     refine bodyPost_ret (results_none rfl _ _ _) rfl ?_
     exact⟨⟨_,rfl⟩,.inr hJx'⟩
  ·have HK:=zC (show k=P.n by omega)
   have hnl:¬ (k:Int)<(P.n:Int):=by omega
   clear ht
   gi_wp2_with fail
   go_end0
   exact⟨⟨_,rfl⟩,.inl (by rw [← HK.out];exact hj)⟩
theorem cgrey_call (b:Nat) (w:World):
 Calls Tryz.prog 289 #[.pointer (some ⟨b,0,none⟩),.int .i64 0] w fun e w'=>∃ B1 B2,
  e = .returned (.func (.func 295) #[] #[.pointer (some ⟨B1,0,none⟩),.pointer (some ⟨B2,0,none⟩)])∧w.heap.size≤B1∧w.heap.size≤B2∧
  Kz w w'∧w'.heap[B1]?=some (.cells #[.pointer (some ⟨b,0,none⟩)] 132)∧w'.heap[B2]?=some (.cells #[.int .i64 0] 3):=by
 go_in
 go_wp2
 go_ret
 exact⟨_,_,rfl,Nat.le_refl _,Nat.le_succ _,((zA.refl _ _).alloc _).alloc _,zG zE,zN (by simp)⟩
theorem cgrey_ok (b:Nat) (P:Pt) (w:World) (h:PtAt w b P):
 Calls Tryz.prog 281 #[.pointer (some ⟨b,0,none⟩),.int .i64 0] w fun e w'=>Kz w w'∧
  ((P.gr P.n=[]∧e = .returned (.tuple #[.int .i64 0,.bool false]))∨(∃ (i:Nat) (r:List Nat),P.gr P.n=i :: r∧e = .returned (.tuple #[.int .i64 i,.bool true]))):=by
 have HK:=zC (fun (w':World) (hk:Kz w w')=>h.keeps hk (fun h=>h))
 have hbl:=h.lt
 clear h
 refine (callsIn_wide (n:=0)).1 ?_
 refine callsIn_of_wp_marks Tryz.func281 rfl trivial ?_ rfl
 simp only [Tryz.ntmps281,List.size_toArray,List.length_cons,List.length_nil,Nat.reduceAdd,Nat.reduceSub,Array.replicate_succ,Array.replicate_zero,List.push_toArray,List.append_toArray,List.nil_append,List.cons_append]
 gi_wp2_with fail
 refine⟨trivial,rfl,callsIn_wide.2 ((cgrey_call b _).mono ?_)⟩
 rintro e w1 ⟨B1,B2,rfl,hB1,hB2,hk1,hb1,hb2⟩
 have HB1:=zC hb1;have HB2:=zC hb2
 have HK1:=zC (((zA.refl (fun _=>False) w).alloc _).alloc _ |>.trans hk1)
 simp only [World.size_alloc] at hB1 hB2
 have HR1:=zC (zB (zG (zE (w:=w))) hk1 (fun h=>h))
 have HR2:=zC (zB (zN (w:=w.alloc _) (n:=w.heap.size+1) (by simp)) hk1 (fun h=>h))
 clear hk1 hb1 hb2
 gi_wp2_with fail
 have hn:∀ y,y<w1.heap.size→¬ Two w1 y:=fun y hy h=>by rcases h with h | h <;> omega
 have hsz:=HK1.out.size
 refine wp_over (gf:=295) (lb:=#[.pointer (some ⟨B1,0,none⟩),.pointer (some ⟨B2,0,none⟩)]) rfl (enters_of Tryz.func295 (by kernel_rfl) rfl) (cgrey_gives b B1 B2 P) (fun _=>rfl)
  (fun pre W=>pre=[]∧zA (Two w1) w1 W)
  (fun c W=>c = .ret∧∃ (i:Nat) (r:List Nat),P.gr P.n=i :: r∧W.heap[w.heap.size]?=some (.cells #[.int .i64 i] 3)∧W.heap[w.heap.size+1]?=some (.cells #[.bool true] 4)∧zA (fun y=>w.heap.size≤y) w W)
  (fun pre W W' h hk=>⟨h.1,h.2.trans (hk.mono (fun _ _ h=>h.elim (fun h=>h.elim) (fun h=>h)))⟩)
  ?hIx ?hRd (fun _ _ h=>h) ⟨rfl,zA.refl _ _⟩ ?body ?done ?stop
 case hIx=>
  rintro c W W' ⟨rfl,i,r,hx,h1,h2,hk⟩ hk'
  have hn':∀ y,y<w1.heap.size→¬ (False∨Two w1 y):=fun y hy h=>by rcases h with h | h;exact h;exact hn y hy h
  exact⟨rfl,i,r,hx,zB h1 hk' (hn' _ (zF HR1.out)),zB h2 hk' (hn' _ (zF HR2.out)),hk.trans' hk' (fun _ _ h=>h) (fun y hy h=>absurd h (hn' y (by omega)))⟩
 case hRd=>
  rintro pre W ⟨_,hk⟩
  exact⟨zD (zB HB1.out hk (hn _ (zF HB1.out))) rfl,zD (zB HB2.out hk (hn _ (zF HB2.out))) rfl,(HK.out _ HK1.out).keeps hk (hn _ (by omega))⟩
 case body=>
  rintro l pre i suf W hx ⟨rfl,hk⟩ hsW
  clear hsW
  simp only [encG,List.zip_toArray,List.zip_cons_cons,List.zip_nil_left]
  gi_wp2_with fail
  refine⟨zA.refl _ _,fun W2 hk2=>?_⟩
  have hk3:=hk.trans hk2
  have q1:=zB HR1.out hk3 (hn _ (zF HR1.out))
  have q2:=zB HR2.out hk3 (hn _ (zF HR2.out))
  have c10:=zD (i:=0) q1 rfl
  have c20:=zD (i:=0) q2 rfl
  have f10:=zL q1 0
  have f20:=zL q2 0
  have Q1:=zC q1;have Q2:=zC q2;have HX:=zC hx;have HK3:=zC hk3
  clear q1 q2 hx hk3 hk hk2
  gi_wp2_with fail
  have hb1:=zF HR1.out
  have hb2:=zF HR2.out
  refine⟨?k,rfl,i,suf,by simpa using HX.out,?b1,?b2,?kk⟩
  case k=>exact ((zA.refl _ _).setCell (p:=⟨w.heap.size,0,none⟩) (.inl (hn _ (by omega))) _).setCell (p:=⟨w.heap.size+1,0,none⟩) (.inl (hn _ (by dsimp only;omega))) _
  case b1=>exact (qG (zH Q1.out 0 _) (by simp)).trans rfl
  case b2=>exact (zH (qG Q2.out (by simp)) 0 _).trans rfl
  case kk=>
   have k4:zA (fun y=>w.heap.size≤y) W2 _:=((zA.refl _ _).setCell (p:=⟨w.heap.size,0,none⟩) (.inl (Nat.le_refl _)) (.int .i64 i)).setCell (p:=⟨w.heap.size+1,0,none⟩) (.inl (Nat.le_succ _)) (.bool true)
   exact (HK1.out.up.trans' HK3.out (U:=fun y=>w.heap.size≤y) (fun _ _ h=>h) (fun y hy h=>absurd h (hn y (by omega)))).trans k4
 case done=>
  rintro W ⟨hxs,hk⟩ hD
  have q1:=zB HR1.out hk (hn _ (zF HR1.out))
  have q2:=zB HR2.out hk (hn _ (zF HR2.out))
  have c10:=zD (i:=0) q1 rfl
  have c20:=zD (i:=0) q2 rfl
  have f10:=zL q1 0
  have f20:=zL q2 0
  have HX:=zC hxs;have HKK:=zC hk;have HD:=zC hD
  have Q1:=zC q1;have Q2:=zC q2
  clear hxs q1 q2 hk hD
  gi_wp2_with fail
  have hb1:=zF HR1.out
  have hb2:=zF HR2.out
  refine leave_mark (by rw [set_other (by dsimp only;omega),set_other (by dsimp only;omega)];exact HD.out) fun W' hk'=>?_
  have d1:=zB (qG (a:=⟨w.heap.size+1,0,none⟩) (v:=.bool false) (zH Q1.out 0 (.int .i64 0)) (by simp)) hk' (by omega)
  have d2:=zB (zH (qG (a:=⟨w.heap.size,0,none⟩) (v:=.int .i64 0) Q2.out (by simp)) 0 (.bool false)) hk' (by omega)
  have e10:=zD (i:=0) d1 rfl
  have e20:=zD (i:=0) d2 rfl
  have k3:zA (fun y=>w.heap.size≤y) W W':=(((zA.refl _ _).setCell (p:=⟨w.heap.size,0,none⟩) (.inl (Nat.le_refl _)) _).setCell (p:=⟨w.heap.size+1,0,none⟩) (.inl (Nat.le_succ _)) _).trans' hk' (fun _ _ h=>h) (fun y _ h=>by omega)
  refine⟨.tuple #[.int .i64 0,.bool false],by simp [results,Tryz.results281,go_sem,e10,e20],?_,.inl ⟨HX.out,rfl⟩⟩
  exact ((HK1.out.up.trans' HKK.out (U:=fun y=>w.heap.size≤y) (fun _ _ h=>h) (fun y hy h=>absurd h (hn y (by omega)))).trans k3).fresh
 case stop=>
  rintro c W ⟨rfl,i,r,hx,h1,h2,hk⟩ hD
  have c10:=zD (i:=0) h1 rfl
  have c20:=zD (i:=0) h2 rfl
  have HX:=zC hx;have HKK:=zC hk;have HD:=zC hD
  have Q1:=zC h1;have Q2:=zC h2
  clear hx hk hD h1 h2
  gi_wp2_with fail
  refine leave_mark HD.out fun W' hk'=>?_
  have hb1:=zF HR1.out
  have hb2:=zF HR2.out
  have e10:=zD (i:=0) (zB Q1.out hk' (by omega)) rfl
  have e20:=zD (i:=0) (zB Q2.out hk' (by omega)) rfl
  refine⟨.tuple #[.int .i64 i,.bool true],by simp [results,Tryz.results281,go_sem,e10,e20],?_,.inr ⟨i,r,HX.out,rfl⟩⟩
  exact (HKK.out.trans' hk' (U:=fun y=>w.heap.size≤y) (fun _ _ h=>h) (fun y hy h=>by omega)).fresh
end Go.Proofs.YtjfmagccmjdhoaaGreat
