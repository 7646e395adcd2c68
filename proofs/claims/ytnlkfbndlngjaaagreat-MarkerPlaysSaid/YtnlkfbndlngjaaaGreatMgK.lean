import Derived.Test.YtnlkfbndlngjaaaGreatMgJ
set_option maxHeartbeats 1000000
set_option maxRecDepth 100000
namespace Go.Proofs.YtnlkfbndlngjaaaGreat
open Go.RowKit
structure Bf where
 f:Nat→Int
 size:Nat
 from':Nat
 n:Nat
 whole:Bool
structure BfC (c:Array Value) (B:Bf):Prop where
 sz:c.size=68
 row:∀ i,i<64→c[i]?=some (.int .i64 (B.f i))
 size:c[64]?=some (.int .i64 B.size)
 from':c[65]?=some (.int .i64 B.from')
 n:c[66]?=some (.int .i64 B.n)
 whole:c[67]?=some (.bool B.whole)
 s1:1≤B.size
 s2:B.size≤64
 nn:B.n≤B.size
 ff:B.from'<B.size
def BfAt (w:World) (b:Nat) (B:Bf):Prop:=∃ c,w.heap[b]?=some (.cells c 183)∧BfC c B
theorem BfAt.lt {w:World} {b:Nat} {B:Bf} (h:BfAt w b B):b<w.heap.size:=by obtain⟨c,h,_⟩:=h;exact lt_block h
theorem BfAt.keeps {w w':World} {b:Nat} {K:Bf} {S:Nat→Prop} (h:BfAt w b K) (hk:Keeps S w w') (hS:¬ S b):BfAt w' b K:=by
 obtain⟨c,h,hc⟩:=h;exact⟨c,block_keep h hk hS,hc⟩
theorem bz_list:Tryz.zeroCells183.toList=List.replicate 64 (Value.int .i64 0) ++ [.int .i64 0,.int .i64 0,.int .i64 0,.bool false]:=by kernel_rfl
theorem bz_new (n:Nat) (h1:1≤n) (h2:n≤64):BfC ((Tryz.zeroCells183.setIfInBounds 64 (.int .i64 n)).setIfInBounds 67 (.bool true)) ⟨fun _=>0,n,0,0,true⟩:=by
 have hs:Tryz.zeroCells183.size=68:=Tryz.zeroCells183_size
 have hz:∀ i,Tryz.zeroCells183[i]?=(List.replicate 64 (Value.int .i64 0) ++ [.int .i64 0,.int .i64 0,.int .i64 0,.bool false])[i]?:=fun i=>by rw [← bz_list,Array.getElem?_toList]
 refine⟨by simp [hs],?_,?_,?_,?_,?_,h1,h2,Nat.zero_le _,h1⟩
 ·intro i hi
  rw [Array.getElem?_setIfInBounds_ne (by omega),Array.getElem?_setIfInBounds_ne (by omega),hz,List.getElem?_append_left (by simpa using hi),List.getElem?_replicate,if_pos hi]
 ·rw [Array.getElem?_setIfInBounds_ne (by omega),Array.getElem?_setIfInBounds_self_of_lt (by omega)]
 ·rw [Array.getElem?_setIfInBounds_ne (by omega),Array.getElem?_setIfInBounds_ne (by omega),hz];rfl
 ·rw [Array.getElem?_setIfInBounds_ne (by omega),Array.getElem?_setIfInBounds_ne (by omega),hz];rfl
 ·rw [Array.getElem?_setIfInBounds_self_of_lt (by simp [hs])]
theorem bnew_ok (n:Int) (w:World) (hn:1≤n) (hn1:n≤64):
 Calls Tryz.prog 61 #[.int .i64 n] w fun e w'=>e = .returned (.tuple #[.pointer (some ⟨w.heap.size,0,none⟩),.int .i64 0])∧Keeps (fun _=>False) w w'∧BfAt w' w.heap.size ⟨fun _=>0,n.toNat,0,0,true⟩:=by
 obtain⟨m,rfl⟩:∃ m:Nat,n=m:=⟨n.toNat,by omega⟩
 have hz:=hid (bz_new m (by omega) (by omega))
 go_enter Tryz.func61,Tryz.ntmps61
 go_wp2
 go_ret2
 exact⟨rfl,(Keeps.refl _ _).alloc _,_,alloc_new,by simpa using hz.out⟩
theorem bnew_bad (n:Int) (w:World) (hn:n<1∨64<n):
 Calls Tryz.prog 61 #[.int .i64 n] w fun e w'=>e = .returned (.tuple #[.pointer none,.int .i64 2])∧w'=w:=by
 rcases hn with hn | hn
 ·go_enter Tryz.func61,Tryz.ntmps61
  go_wp2
  go_ret2
  exact⟨rfl,rfl⟩
 ·have:¬ n<1:=by omega
  go_enter Tryz.func61,Tryz.ntmps61
  go_wp2
  go_ret2
  exact⟨rfl,rfl⟩
end Go.Proofs.YtnlkfbndlngjaaaGreat
namespace Go.Proofs.YtnlkfbndlngjaaaGreat
open Go.RowKit
attribute [local go_sem] Oper.semAt_some
def Bf.note (B:Bf) (x:Int):Bf:={ B with f:=updf B.f ((B.from'+B.n) % B.size) x,n:=B.n+1 }
def Bf.over (B:Bf):Bf:={ B with whole:=false }
def Bf.settle (B:Bf):Bf:={ B with whole:=true }
theorem BfC.note {c:Array Value} {B:Bf} (h:BfC c B) (hn:B.n<B.size) (x:Int):
 BfC ((c.setIfInBounds ((B.from'+B.n) % B.size) (.int .i64 x)).setIfInBounds 66 (.int .i64 ((B.n:Int)+1))) (B.note x):=by
 have hs:=h.sz
 have h2:=h.s2
 have h1:=h.s1
 have hm:(B.from'+B.n) % B.size<B.size:=Nat.mod_lt _ (by omega)
 refine⟨by simp [hs],?_,?_,?_,?_,?_,h.s1,h.s2,by simp only [Bf.note];omega,h.ff⟩
 ·intro i hi
  rw [Array.getElem?_setIfInBounds_ne (by omega)]
  by_cases e:i=(B.from'+B.n) % B.size
  ·rw [e,Array.getElem?_setIfInBounds_self_of_lt (by omega)];simp [Bf.note,updf]
  ·rw [Array.getElem?_setIfInBounds_ne (by omega),h.row i hi];simp [Bf.note,updf,e]
 ·rw [Array.getElem?_setIfInBounds_ne (by omega),Array.getElem?_setIfInBounds_ne (by omega)];exact h.size
 ·rw [Array.getElem?_setIfInBounds_ne (by omega),Array.getElem?_setIfInBounds_ne (by omega)];exact h.from'
 ·rw [Array.getElem?_setIfInBounds_self_of_lt (by simp;omega)];simp [Bf.note]
 ·rw [Array.getElem?_setIfInBounds_ne (by omega),Array.getElem?_setIfInBounds_ne (by omega)];exact h.whole
theorem BfC.set67 {c:Array Value} {B:Bf} (h:BfC c B) (x:Bool):BfC (c.setIfInBounds 67 (.bool x)) { B with whole:=x }:=by
 have hs:=h.sz
 refine⟨by simp [hs],?_,?_,?_,?_,?_,h.s1,h.s2,h.nn,h.ff⟩
 ·intro i hi;rw [Array.getElem?_setIfInBounds_ne (by omega)];exact h.row i hi
 ·rw [Array.getElem?_setIfInBounds_ne (by omega)];exact h.size
 ·rw [Array.getElem?_setIfInBounds_ne (by omega)];exact h.from'
 ·rw [Array.getElem?_setIfInBounds_ne (by omega)];exact h.n
 ·rw [Array.getElem?_setIfInBounds_self_of_lt (by omega)]
theorem bmade (b:Nat) (B:Bf) (w:World) (h:BfAt w b B):
 Calls Tryz.prog 101 #[.pointer (some ⟨b,0,none⟩)] w fun e w'=>e = .returned (.bool true)∧w'=w:=by
 obtain⟨c,hc,hC⟩:=h
 have c2:=cell_at hc hC.size
 have hI:0<B.size:=hC.s1
 clear hc hC
 go_enter Tryz.func101,Tryz.ntmps101
 go_wp2
 go_ret
 exact⟨rfl,rfl⟩
theorem bnote_full (b:Nat) (B:Bf) (x:Int) (w:World) (h:BfAt w b B) (h0:0≤x) (h1:x<256) (hn:B.n=B.size):
 Calls Tryz.prog 151 #[.pointer (some ⟨b,0,none⟩),.int .i64 x] w fun e w'=>e = .returned (.tuple #[.bool false,.int .i64 0])∧Keeps (fun y=>y=b) w w'∧BfAt w' b B.over:=by
 have HV:=hid (bmade b B w h)
 obtain⟨c,hc,hC⟩:=h
 have c0:=cell_at hc hC.size
 have c2:=cell_at hc hC.n
 have c3:=cell_at hc hC.whole
 have f3:=frozen_block hc 67
 have hl:=lt_block hc
 have hq:((B.n:Int) == B.size)=true:=by simp [hn]
 have hd0:decide (x<0)=false:=by simp;omega
 have hd1:decide (256≤x)=false:=by simp;omega
 have HB:=hid hc;have HC:=hid hC
 clear hc hC hn
 go_enter Tryz.func151,Tryz.ntmps151
 go_wp2_with fail
 refine HV.out.mono ?_
 rintro e w' ⟨rfl,h'⟩
 obtain rfl:=h'.symm
 go_wp2_with fail
 go_quiet (fail)
 go_wp2_with fail
 go_ret2
 exact⟨rfl,((Keeps.refl (fun y=>y=b) _).drewN _).setCell (p:=⟨b,67,none⟩) (.inl rfl) _,_,set_block HB.out 67 _,HC.out.set67 false⟩
theorem bnote_ok (b:Nat) (B:Bf) (x:Int) (w:World) (h:BfAt w b B) (h0:0≤x) (h1:x<256) (hn:B.n<B.size):
 Calls Tryz.prog 151 #[.pointer (some ⟨b,0,none⟩),.int .i64 x] w fun e w'=>e = .returned (.tuple #[.bool true,.int .i64 0])∧Keeps (fun y=>y=b) w w'∧BfAt w' b (B.note x):=by
 have HV:=hid (bmade b B w h)
 obtain⟨c,hc,hC⟩:=h
 have h64:=hC.s2
 have hs1:=hC.s1
 have hff:=hC.ff
 have hm:(B.from'+B.n) % B.size<B.size:=Nat.mod_lt _ (by omega)
 have c0:=cell_at hc hC.size
 have c1:=cell_at hc hC.from'
 have c2:=cell_at hc hC.n
 obtain⟨k,hk⟩:∃ k,(B.from'+B.n) % B.size=k:=⟨_,rfl⟩
 have c4:=cell_at hc (hC.row k (by omega))
 have f2:=frozen_block hc 66
 have f4:=frozen_block hc k
 have hl:=lt_block hc
 have hq:((B.n:Int) == B.size)=false:=by simp;omega
 have hd0:decide (x<0)=false:=by simp;omega
 have hd1:decide (256≤x)=false:=by simp;omega
 have hI0:(0:Int)≤k:=by omega
 have hI1:(k:Int)<64:=by omega
 have hz:¬ B.size=0:=by omega
 have hw:IntKind.i64.wrap ((B.n:Int)+1)=(B.n:Int)+1:=IntWalk.i64_in _ (by omega)
 have hw2:IntKind.i64.wrap ((B.from':Int)+(B.n:Int))=(B.from':Int)+(B.n:Int):=IntWalk.i64_in _ (by omega)
 have hmod:((B.from':Int)+(B.n:Int)) % (B.size:Int)=(k:Int):=by rw [← hk];simp
 have htm:((B.from':Int)+(B.n:Int)).tmod (B.size:Int)=(k:Int):=by rw [Int.tmod_eq_emod_of_nonneg (by omega),hmod]
 have HB:=hid hc;have HC:=hid (hC.note hn x);have HK:=hid hk
 clear hc hC hn hm
 go_enter Tryz.func151,Tryz.ntmps151
 go_wp2_with fail
 refine HV.out.mono ?_
 rintro e w' ⟨rfl,h'⟩
 obtain rfl:=h'.symm
 go_wp2_with fail
 go_quiet (fail)
 go_wp2_with fail
 go_region
 go_wp2_with fail
 go_ret2
 have hC:=HC.out
 rw [HK.out] at hC
 exact⟨rfl,(((Keeps.refl (fun y=>y=b) _).drewN _).setCell (p:=⟨b,k,none⟩) (.inl rfl) _).setCell (p:=⟨b,66,none⟩) (.inl rfl) _,_,set_block (set_block HB.out k _) 66 _,hC⟩
theorem bsettle_ok (b:Nat) (B:Bf) (w:World) (h:BfAt w b B):
 Calls Tryz.prog 121 #[.pointer (some ⟨b,0,none⟩)] w fun e w'=>e = .returned (.tuple #[])∧Keeps (fun y=>y=b) w w'∧BfAt w' b B.settle:=by
 have HV:=hid (bmade b B w h)
 obtain⟨c,hc,hC⟩:=h
 have c3:=cell_at hc hC.whole
 have f3:=frozen_block hc 67
 have hl:=lt_block hc
 have HB:=hid hc;have HC:=hid hC
 clear hc hC
 go_enter Tryz.func121,Tryz.ntmps121
 go_wp2_with fail
 refine HV.out.mono ?_
 rintro e w' ⟨rfl,h'⟩
 obtain rfl:=h'.symm
 go_wp2_with fail
 go_end0
 exact⟨rfl,keeps_set1 _ _ _ _,_,set_block HB.out 67 _,HC.out.set67 true⟩
def encI (x:Int):Array Value:=#[.int .i64 x]
theorem bfirst_none (b B1 B2:Nat) (B:Bf) (hn:B.n=0):
 Gives Tryz.prog 247 #[.pointer (some ⟨B1,0,none⟩),.pointer (some ⟨B2,0,none⟩)] encI []
  (fun W=>W.cell? ⟨B1,0,none⟩=some (.int .i64 64)∧W.cell? ⟨B2,0,none⟩=some (.pointer (some ⟨b,0,none⟩))∧BfAt W b B) (fun _=>False):=by
 intro l J Jx W hJ hJx hRd hY h0
 obtain⟨c1,c2,c,hc,hC⟩:=hRd _ _ h0
 have c3:=cell_at hc hC.n
 rw [hn] at c3
 have HJ:=hid hJ;have H0:=hid h0
 clear hJ hRd hY h0 hc hC hJx
 refine (callsIn_wide (n:=0)).1 ?_
 refine callsIn_of_wp Tryz.func247 rfl trivial ?_ rfl
 simp only [Tryz.ntmps247,List.size_toArray,List.length_cons,List.length_nil,Nat.reduceAdd,Nat.reduceSub,Array.replicate_succ,Array.replicate_zero,List.push_toArray,List.append_toArray,List.nil_append,List.cons_append]
 gi_wp2_with fail
 refine wpIn_wide.2 ?_
 go_quiet (fail)
 go_wp2_with fail
 gi_wp2_with fail
 gi_loopw [11] (fun i wr=>i = .int .i64 0∧J [] wr) (fun _ _=>0)
 case atStart=>exact⟨rfl,HJ.out _ _ _ H0.out ((Keeps.refl _ _).drewN _)⟩
 case round=>
  obtain⟨rfl,hj⟩:=hrel
  gi_wp2_with fail
  go_end0
  exact⟨⟨_,rfl⟩,.inl hj⟩
theorem bfirst_call (b:Nat) (w:World):
 Calls Tryz.prog 193 #[.pointer (some ⟨b,0,none⟩),.int .i64 64] w fun e w'=>∃ B1 B2,
  e = .returned (.func (.func 247) #[] #[.pointer (some ⟨B1,0,none⟩),.pointer (some ⟨B2,0,none⟩)])∧
  Keeps (fun _=>False) w w'∧w'.heap[B1]?=some (.cells #[.int .i64 64] 3)∧w'.heap[B2]?=some (.cells #[.pointer (some ⟨b,0,none⟩)] 104):=by
 go_enter Tryz.func193,Tryz.ntmps193
 go_wp2
 go_ret
 exact⟨_,_,rfl,((Keeps.refl _ _).alloc _).alloc _,alloc_new' (by simp),alloc_old alloc_new⟩
theorem bdrain_none (b:Nat) (B:Bf) (w:World) (h:BfAt w b B) (hn:B.n=0):
 Calls Tryz.prog 120 #[.pointer (some ⟨b,0,none⟩),.int .i64 64] w fun e w'=>e = .returned (.tuple #[.slice none 0 0,.int .i64 0])∧Keeps (fun y=>y=b) w w'∧BfAt w' b B:=by
 have HV:=hid (fun (w':World) (hk:Keeps (fun _=>False) w w')=>bmade b B w' (h.keeps hk (fun h=>h)))
 have HK:=hid (fun (w':World) (hk:Keeps (fun _=>False) w w')=>h.keeps hk (fun h=>h))
 have hbl:=h.lt
 clear h
 refine (callsIn_wide (n:=0)).1 ?_
 refine callsIn_of_wp_marks Tryz.func120 rfl trivial ?_ rfl
 simp only [Tryz.ntmps120,List.size_toArray,List.length_cons,List.length_nil,Nat.reduceAdd,Nat.reduceSub,Array.replicate_succ,Array.replicate_zero,List.push_toArray,List.append_toArray,List.nil_append,List.cons_append]
 gi_wp2_with fail
 refine⟨trivial,rfl,callsIn_wide.2 ((HV.out _ (Keeps.refl _ _)).mono ?_)⟩
 rintro e w' ⟨rfl,h'⟩
 obtain rfl:=h'.symm
 gi_wp2_with fail
 refine⟨trivial,rfl,callsIn_wide.2 ((bfirst_call b _).mono ?_)⟩
 rintro e w1 ⟨B1,B2,rfl,hk1,hb1,hb2⟩
 have HB1:=hid hb1;have HB2:=hid hb2
 have HK1:=hid (((Keeps.refl (fun _=>False) w).alloc _).trans hk1)
 have HR1:=hid (block_keep (alloc_new (w:=w)) hk1 (fun h=>h))
 clear hk1 hb1 hb2
 gi_wp2_with fail
 have hnn:∀ y,y<w1.heap.size→¬ Two w1 y:=fun y hy h=>by rcases h with h | h <;> omega
 have hsz:=HK1.out.size
 refine wp_over (gf:=247) (lb:=#[.pointer (some ⟨B1,0,none⟩),.pointer (some ⟨B2,0,none⟩)]) rfl (enters_of Tryz.func247 (by kernel_rfl) rfl) (bfirst_none b B1 B2 B hn) (fun _=>rfl)
  (fun _ W=>Keeps (Two w1) w1 W) (fun _ _=>False)
  (fun pre W W' h hk=>h.trans (hk.mono (fun _ _ h=>h.elim (fun h=>h.elim) (fun h=>h))))
  (fun _ _ _ h _=>h) ?hRd (fun _ _ h=>h) (Keeps.refl _ _) ?body ?done ?stop
 case hRd=>
  rintro pre W hk
  exact⟨cell_at (block_keep HB1.out hk (hnn _ (lt_block HB1.out))) rfl,cell_at (block_keep HB2.out hk (hnn _ (lt_block HB2.out))) rfl,(HK.out _ HK1.out).keeps hk (hnn _ (by omega))⟩
 case body=>
  rintro l pre x suf W hx
  simp at hx
 case stop=>exact fun _ _ h=>h.elim
 case done=>
  rintro W hk hD
  have q1:=block_keep HR1.out hk (hnn _ (lt_block HR1.out))
  obtain⟨c,hc,hC⟩:=(HK.out _ HK1.out).keeps hk (hnn _ (by omega))
  have c10:=cell_at (i:=0) q1 rfl
  have d1:=cell_at hc hC.from'
  have d2:=cell_at hc hC.size
  have d3:=cell_at hc hC.n
  rw [hn] at d3
  have f1:=frozen_block hc 65
  have f2:=frozen_block hc 66
  have hbl2:=lt_block hc
  have h1:=hC.s1
  have h64:=hC.s2
  have hff:=hC.ff
  have hz:¬ B.size=0:=by omega
  have hw2:IntKind.i64.wrap (B.from':Int)=(B.from':Int):=IntWalk.i64_in _ (by omega)
  have hmod:(B.from':Int) % (B.size:Int)=(B.from':Int):=Int.emod_eq_of_lt (by omega) (by omega)
  have htm:(B.from':Int).tmod (B.size:Int)=(B.from':Int):=by rw [Int.tmod_eq_emod_of_nonneg (by omega),hmod]
  have HKK:=hid hk;have HD:=hid hD;have HB:=hid hc;have HC:=hid hC
  have Q1:=hid q1
  clear q1 hk hD hc hC
  gi_wp2_with fail
  refine wpIn_wide.2 ?_
  go_still_tail 13,(by kernel_rfl)
  change wpList _ _ _ _ _ (World.drew _)
  go_wp2_with fail
  refine wpIn_wide.2 ?_
  obtain⟨W2,hW2⟩:∃ W2,(W.setCell ⟨b,65,none⟩ (.int .i64 B.from')).drew=W2:=⟨_,rfl⟩
  have k2:Keeps (fun y=>y=b) W W2:=by rw [← hW2];exact (keeps_set1 _ _ _ _).drew
  have q2:(W.setCell ⟨b,65,none⟩ (.int .i64 B.from')).drew.heap[b]?=_:=set_block HB.out 65 (.int .i64 B.from')
  rw [hW2] at q2 ⊢
  have hne:b≠w.heap.size:=by omega
  have p2:=block_keep Q1.out k2 hne.symm
  have e10:=cell_at (i:=0) p2 rfl
  have hs68:=HC.out.sz
  have e3:=cell_at q2 ((Array.getElem?_setIfInBounds_ne (by omega)).trans HC.out.n)
  rw [hn] at e3
  have g2:=frozen_block q2 66
  have hbl3:=lt_block q2
  have HW2:=hid hW2;have K2:=hid k2;have HQ2:=hid q2;have HP2:=hid p2
  clear hW2 k2 q2 p2 c10 d1 d2 d3 f1 f2 hbl2
  go_upto_region 10 with (fail)
  go_still_tail 7,(by kernel_rfl)
  change wpList _ _ _ _ _ (World.drew _)
  go_wp2_with fail
  gi_wp2_with fail
  have hc4:(((c.setIfInBounds 65 (.int .i64 B.from')).setIfInBounds 66 (.int .i64 0)):Array Value)=c:=by
   have h1:c.setIfInBounds 65 (.int .i64 B.from')=c:=by
    apply Array.ext_getElem?
    intro i
    by_cases e:65=i
    ·subst e;rw [Array.getElem?_setIfInBounds_self_of_lt (by omega),HC.out.from']
    ·rw [Array.getElem?_setIfInBounds_ne e]
   rw [h1]
   apply Array.ext_getElem?
   intro i
   by_cases e:66=i
   ·subst e;rw [Array.getElem?_setIfInBounds_self_of_lt (by omega),HC.out.n,hn];rfl
   ·rw [Array.getElem?_setIfInBounds_ne e]
  have k4:Keeps (fun y=>y=b) W2 (W2.setCell ⟨b,66,none⟩ (.int .i64 0)).drew:=(keeps_set1 _ _ _ _).drew
  have q4:(W2.setCell ⟨b,66,none⟩ (.int .i64 0)).drew.heap[b]?=_:=set_block HQ2.out 66 (.int .i64 0)
  rw [hc4] at q4
  refine leave_mark (block_keep (block_keep HD.out K2.out (by omega)) k4 (by omega)) fun W' hk'=>?_
  refine⟨.tuple #[.slice none 0 0,.int .i64 0],by simp [results,Tryz.results120,go_sem],rfl,?_,_,block_keep q4 hk' (by omega),HC.out⟩
  have kA:Keeps (fun y=>y=b∨w.heap.size≤y) w W:=HK1.out.up.trans' HKK.out (U:=fun y=>y=b∨w.heap.size≤y) (fun _ _ h=>h) (fun y hy h=>absurd h (hnn y (by omega)))
  exact ((kA.trans' (K2.out.trans k4) (U:=fun y=>y=b∨w.heap.size≤y) (fun _ _ h=>h) (fun _ _ h=>.inl h)).trans' hk' (U:=fun y=>y=b∨w.heap.size≤y) (fun _ _ h=>h) (fun y hy h=>.inr (by omega))).mono (fun y hy h=>by rcases h with h | h;exact h;omega)
end Go.Proofs.YtnlkfbndlngjaaaGreat
namespace Go.Proofs.YtnlkfbndlngjaaaGreat
open Go.RowKit
structure Mk where
 K:Ck
 P:Pt
 S:Sq
 B:Nat→Bf
structure MkL where
 c:Nat
 p:Nat
 s:Nat
 rb:Nat
 cap:Nat
 bb:Nat→Nat
def MkL.arr (L:MkL) (n many:Nat):Array Value:=#[.int .i64 n,.int .i64 many,.pointer (some ⟨L.c,0,none⟩),.pointer (some ⟨L.p,0,none⟩),.pointer (some ⟨L.s,0,none⟩),.slice (some ⟨L.rb,0,none⟩) many L.cap]
structure MkIn (w:World) (m:Nat) (L:MkL) (M:Mk):Prop where
 own:w.heap[m]?=some (.cells (L.arr M.P.n M.K.many) 100)
 row:∃ cur,w.heap[L.rb]?=some (.cells cur 104)∧∀ j,j<M.K.many→cur[j]?=some (.pointer (some ⟨L.bb j,0,none⟩))
 clk:CkAt w L.c M.K
 pt:PtAt w L.p M.P
 st:SqAt w L.s M.S
 bf:∀ j,j<M.K.many→BfAt w (L.bb j) (M.B j)
 inj:∀ j k,j<M.K.many→k<M.K.many→L.bb j=L.bb k→j=k
structure MkL.Btw (L:MkL) (m many lo hi:Nat):Prop where
 m:lo≤m∧m<hi
 c:lo≤L.c∧L.c<hi
 p:lo≤L.p∧L.p<hi
 s:lo≤L.s∧L.s<hi
 rb:lo≤L.rb∧L.rb<hi
 bb:∀ j,j<many→lo≤L.bb j∧L.bb j<hi
theorem MkIn.keeps {w w':World} {m:Nat} {L:MkL} {M:Mk} {S:Nat→Prop} (h:MkIn w m L M) (hk:Keeps S w w') (h1:¬ S m) (h2:¬ S L.c) (h3:¬ S L.p) (h4:¬ S L.s) (h5:¬ S L.rb) (h6:∀ j,j<M.K.many→¬ S (L.bb j)):MkIn w' m L M:=by
 obtain⟨ho,⟨cur,hr,hc⟩,hcl,hp,hs,hb,hi⟩:=h
 exact⟨block_keep ho hk h1,⟨cur,block_keep hr hk h5,hc⟩,hcl.keeps hk h2,hp.keeps hk h3,hs.keeps hk h4,fun j hj=>(hb j hj).keeps hk (h6 j hj),hi⟩
theorem MkIn.keeps0 {w w':World} {m:Nat} {L:MkL} {M:Mk} (h:MkIn w m L M) (hk:Keeps (fun _=>False) w w'):MkIn w' m L M:=
 h.keeps hk (fun h=>h) (fun h=>h) (fun h=>h) (fun h=>h) (fun h=>h) (fun _ _ h=>h)
theorem MkIn.setC {w w':World} {m:Nat} {L:MkL} {M:Mk} (h:MkIn w m L M) {K:Ck} (hm:K.many=M.K.many) (hk:Keeps (fun y=>y=L.c) w w') (hK:CkAt w' L.c K):MkIn w' m L { M with K:=K }:=by
 obtain⟨ho,⟨cur,hr,hc⟩,hcl,⟨cp,hp,hpp⟩,⟨cs,hs,hss⟩,hb,hi⟩:=h
 have no:∀ {x c' t'},w.heap[x]?=some (.cells c' t')→t'≠173→¬ x=L.c:=fun h1 h2=>type_ne h1 hcl.own h2
 refine⟨by rw [hm];exact block_keep ho hk (no ho (by decide)),⟨cur,block_keep hr hk (no hr (by decide)),fun j hj=>hc j (by rw [← hm];exact hj)⟩,hK,⟨cp,block_keep hp hk (no hp (by decide)),hpp⟩,⟨cs,block_keep hs hk (no hs (by decide)),hss⟩,fun j hj=>?_,fun j k h1 h2=>hi j k (by rw [← hm];exact h1) (by rw [← hm];exact h2)⟩
 obtain⟨cb,h1,h2⟩:=hb j (by rw [← hm];exact hj)
 exact⟨cb,block_keep h1 hk (no h1 (by decide)),h2⟩
theorem MkIn.setPS {w w':World} {m:Nat} {L:MkL} {M:Mk} (h:MkIn w m L M) {P:Pt} {S:Sq} (hn:P.n=M.P.n) (hk:Keeps (fun y=>y=L.p∨y=L.s) w w') (hP:PtAt w' L.p P) (hS:SqAt w' L.s S):MkIn w' m L { M with P:=P,S:=S }:=by
 obtain⟨ho,⟨cur,hr,hc⟩,hcl,⟨cp,hp,hpp⟩,⟨cs,hs,hss⟩,hb,hi⟩:=h
 have no:∀ {x c' t'},w.heap[x]?=some (.cells c' t')→t'≠176→t'≠181→¬ (x=L.p∨x=L.s):=fun h1 h2 h3 h=>by
  rcases h with h | h
  ·exact type_ne h1 hp h2 h
  ·exact type_ne h1 hs h3 h
 refine⟨by rw [hn];exact block_keep ho hk (no ho (by decide) (by decide)),⟨cur,block_keep hr hk (no hr (by decide) (by decide)),hc⟩,hcl.keeps hk (no hcl.own (by decide) (by decide)),hP,hS,fun j hj=>?_,hi⟩
 obtain⟨cb,h1,h2⟩:=hb j hj
 exact⟨cb,block_keep h1 hk (no h1 (by decide) (by decide)),h2⟩
theorem MkIn.setB {w w':World} {m:Nat} {L:MkL} {M:Mk} (h:MkIn w m L M) {i:Nat} (him:i<M.K.many) {B:Bf} (hk:Keeps (fun y=>y=L.bb i) w w') (hB:BfAt w' (L.bb i) B):MkIn w' m L { M with B:=updf M.B i B }:=by
 obtain⟨ho,⟨cur,hr,hc⟩,hcl,⟨cp,hp,hpp⟩,⟨cs,hs,hss⟩,hb,hi⟩:=h
 obtain⟨cb,hbb,_⟩:=hb i him
 have no:∀ {x c' t'},w.heap[x]?=some (.cells c' t')→t'≠183→¬ x=L.bb i:=fun h1 h2=>type_ne h1 hbb h2
 refine⟨block_keep ho hk (no ho (by decide)),⟨cur,block_keep hr hk (no hr (by decide)),hc⟩,hcl.keeps hk (no hcl.own (by decide)),⟨cp,block_keep hp hk (no hp (by decide)),hpp⟩,⟨cs,block_keep hs hk (no hs (by decide)),hss⟩,fun j hj=>?_,hi⟩
 simp only [updf]
 by_cases e:j=i
 ·subst e;rw [if_pos rfl];exact hB
 ·rw [if_neg e];exact (hb j hj).keeps hk (fun h=>e (hi j i hj him h))
theorem cells6 {w:World} {b:Nat} {v0 v1 v2 v3 v4 v5:Value} {t:TypeId} (h:w.heap[b]?=some (.cells #[v0,v1,v2,v3,v4,v5] t)):
 w.cell? ⟨b,0,none⟩=some v0∧w.cell? ⟨b,1,none⟩=some v1∧w.cell? ⟨b,2,none⟩=some v2∧w.cell? ⟨b,3,none⟩=some v3∧w.cell? ⟨b,4,none⟩=some v4∧w.cell? ⟨b,5,none⟩=some v5∧b<w.heap.size:=
 ⟨cell_at h rfl,cell_at h rfl,cell_at h rfl,cell_at h rfl,cell_at h rfl,cell_at h rfl,lt_block h⟩
theorem mvalid (m:Nat) (L:MkL) (M:Mk) (w:World) (h:MkIn w m L M):
 Calls Tryz.prog 43 #[.pointer (some ⟨m,0,none⟩)] w fun e w'=>e = .returned (.bool true)∧w'=w:=by
 obtain⟨c0,c1,c2,c3,c4,c5,cl⟩:=cells6 h.own
 have hI:0<M.P.n:=h.pt.n12.1
 clear h
 go_enter Tryz.func43,Tryz.ntmps43
 go_wp2
 go_ret
 exact⟨rfl,rfl⟩
theorem mphase (m:Nat) (L:MkL) (M:Mk) (w:World) (h:MkIn w m L M):
 Calls Tryz.prog 27 #[.pointer (some ⟨m,0,none⟩)] w fun e w'=>e = .returned (.int .i64 M.K.ph)∧w'=w:=by
 obtain⟨c0,c1,c2,c3,c4,c5,cl⟩:=cells6 h.own
 have HV:=hid (mvalid m L M w h)
 have HP:=hid (phPhase L.c M.K w h.clk)
 clear h
 go_enter Tryz.func27,Tryz.ntmps27
 go_wp2_with (first | (go_at_call 43;refine HV.out.mono ?_;rintro e w' ⟨rfl,h'⟩;obtain rfl:=h'.symm) | (go_at_call 87;refine HP.out.mono ?_;rintro e w' ⟨rfl,h'⟩;obtain rfl:=h'.symm))
 go_ret
 exact⟨rfl,rfl⟩
theorem mended (m:Nat) (L:MkL) (M:Mk) (w:World) (h:MkIn w m L M):
 Calls Tryz.prog 55 #[.pointer (some ⟨m,0,none⟩)] w fun e w'=>e = .returned (.bool (decide (4≤M.K.ph)))∧w'=w:=by
 have HP:=hid (mphase m L M w h)
 clear h
 go_enter Tryz.func55,Tryz.ntmps55
 go_wp2_with (go_at_call 27;refine HP.out.mono ?_;rintro e w' ⟨rfl,h'⟩;obtain rfl:=h'.symm)
 go_ret
 refine⟨ret_bool ?_,rfl⟩
 rw [decide_eq_decide]
 omega
theorem mcycles (m:Nat) (L:MkL) (M:Mk) (w:World) (h:MkIn w m L M):
 Calls Tryz.prog 57 #[.pointer (some ⟨m,0,none⟩)] w fun e w'=>e = .returned (.int .i64 M.K.cy)∧w'=w:=by
 obtain⟨c0,c1,c2,c3,c4,c5,cl⟩:=cells6 h.own
 have HV:=hid (mvalid m L M w h)
 have HP:=hid (phCycles L.c M.K w h.clk)
 clear h
 go_enter Tryz.func57,Tryz.ntmps57
 go_wp2_with (first | (go_at_call 43;refine HV.out.mono ?_;rintro e w' ⟨rfl,h'⟩;obtain rfl:=h'.symm) | (go_at_call 122;refine HP.out.mono ?_;rintro e w' ⟨rfl,h'⟩;obtain rfl:=h'.symm))
 go_ret
 exact⟨rfl,rfl⟩
theorem mbegin_ok (m:Nat) (L:MkL) (M:Mk) (w:World) (h:MkIn w m L M) (hp:M.K.ph=0):
 Calls Tryz.prog 53 #[.pointer (some ⟨m,0,none⟩)] w fun e w'=>e = .returned (.int .i64 0)∧Keeps (fun y=>y=L.c) w w'∧MkIn w' m L { M with K:=M.K.to 1 }:=by
 obtain⟨c0,c1,c2,c3,c4,c5,cl⟩:=cells6 h.own
 have HV:=hid (mvalid m L M w h)
 have HP:=hid (phBegin_ok L.c M.K w h.clk hp)
 have HM:=hid (fun (w':World) (hk:Keeps (fun y=>y=L.c) w w') hK=>h.setC (K:=M.K.to 1) rfl hk hK)
 clear h hp
 go_enter Tryz.func53,Tryz.ntmps53
 go_wp2_with (first | (go_at_call 43;refine HV.out.mono ?_;rintro e w' ⟨rfl,h'⟩;obtain rfl:=h'.symm) | (go_at_call 113;refine HP.out.mono ?_;rintro e w' ⟨rfl,hk,hK⟩))
 go_ret
 exact⟨rfl,hk,HM.out _ hk hK⟩
theorem mbegin_bad (m:Nat) (L:MkL) (M:Mk) (w:World) (h:MkIn w m L M) (hp:M.K.ph≠0):
 Calls Tryz.prog 53 #[.pointer (some ⟨m,0,none⟩)] w fun e w'=>e = .returned (.int .i64 8)∧w'=w:=by
 obtain⟨c0,c1,c2,c3,c4,c5,cl⟩:=cells6 h.own
 have HV:=hid (mvalid m L M w h)
 have HP:=hid (phBegin_bad L.c M.K w h.clk hp)
 clear h hp
 go_enter Tryz.func53,Tryz.ntmps53
 go_wp2_with (first | (go_at_call 43;refine HV.out.mono ?_;rintro e w' ⟨rfl,h'⟩;obtain rfl:=h'.symm) | (go_at_call 113;refine HP.out.mono ?_;rintro e w' ⟨rfl,h'⟩;obtain rfl:=h'.symm))
 go_ret
 exact⟨rfl,rfl⟩
theorem mfreed_bad (m:Nat) (L:MkL) (M:Mk) (s:Int) (w:World) (h:MkIn w m L M) (hs:s<0∨(M.P.n:Int)≤s):
 Calls Tryz.prog 36 #[.pointer (some ⟨m,0,none⟩),.int .i64 s] w fun e w'=>e = .returned (.int .i64 3)∧Keeps (fun _=>False) w w':=by
 obtain⟨c0,c1,c2,c3,c4,c5,cl⟩:=cells6 h.own
 have HV:=hid (mvalid m L M w h)
 have HP:=hid (cbleach_bad L.p M.P s w h.pt hs)
 clear h hs
 go_enter Tryz.func36,Tryz.ntmps36
 go_wp2_with (first | (go_at_call 43;refine HV.out.mono ?_;rintro e w' ⟨rfl,h'⟩;obtain rfl:=h'.symm) | (go_at_call 95;refine HP.out.mono ?_;rintro e w' ⟨rfl,hk⟩))
 go_ret
 exact⟨rfl,hk⟩
theorem mmarked_ok (m:Nat) (L:MkL) (M:Mk) (i:Nat) (w:World) (h:MkIn w m L M) (hi:i<M.P.n):
 Calls Tryz.prog 34 #[.pointer (some ⟨m,0,none⟩),.int .i64 i] w fun e w'=>e = .returned (.tuple #[.bool (!(M.P.c i == 0)),.int .i64 0])∧Keeps (fun _=>False) w w':=by
 obtain⟨c0,c1,c2,c3,c4,c5,cl⟩:=cells6 h.own
 have HV:=hid (mvalid m L M w h)
 have HP:=hid (cof_ok L.p M.P i w h.pt hi)
 clear h hi
 go_enter Tryz.func34,Tryz.ntmps34
 go_wp2_with (first | (go_at_call 43;refine HV.out.mono ?_;rintro e w' ⟨rfl,h'⟩;obtain rfl:=h'.symm) | (go_at_call 93;refine HP.out.mono ?_;rintro e w' ⟨rfl,hk⟩))
 go_ret2
 exact⟨rfl,hk⟩
end Go.Proofs.YtnlkfbndlngjaaaGreat
namespace Go.Proofs.YtnlkfbndlngjaaaGreat
open Go.RowKit
def KS (N M:Nat) (y:Nat):Prop:=y<N∨M≤y
def GivesM {α:Type} (P:Program) (gf:FuncId) (lb:Array Value) (encs:α→Array Value) (xs:List α) (Rd:World→Prop):Prop:=
 ∀ (l:Nat) (J:Nat→List α→World→Prop) (Jx:World→Prop) (W0:World),
  (∀ M pre W W',J M pre W→Keeps (fun _=>False) W W'→J M pre W')→(∀ W W',Jx W→Keeps (fun _=>False) W W'→Jx W')→(∀ M pre W,J M pre W→Rd W)→
  (∀ M pre x suf W,xs=pre ++ x :: suf→J M pre W→YieldAt Wd 0 P l (encs x) W fun e W'=>((e = .returned (.bool true)∧J M (pre ++ [x]) W')∨(e = .returned (.bool false)∧Jx W'))∧Keeps (KS W0.heap.size M) W W')→
  (∀ W,Keeps (fun _=>False) W0 W→J W.heap.size [] W)→Rd W0→Calls P gf (#[.func (.yield l) #[] #[]] ++ lb) W0 fun e W'=>(∃ v,e = .returned v)∧((∃ M,J M xs W')∨Jx W')
def overPostM {α:Type} (w:World) (I:Nat→List α→World→Prop) (Ix:Code→World→Prop) (M:Nat) (pre:List α) (W:World):Exit→Act→World→Prop
 | .normal,_,W'=>(Keeps (fun k=>¬ Two w k) W W'∧Keeps (KS (w.heap.size+2) M) W W')∧I M pre W'
 | .ret,_,W'=>(Keeps (fun k=>¬ Two w k) W W'∧Keeps (KS (w.heap.size+2) M) W W')∧Ix .ret W'
 | .exit id,_,W'=>(Keeps (fun k=>¬ Two w k) W W'∧Keeps (KS (w.heap.size+2) M) W W')∧Ix (.exit id) W'
 | .goto t,_,W'=>(Keeps (fun k=>¬ Two w k) W W'∧Keeps (KS (w.heap.size+2) M) W W')∧Ix (.goto t) W'
 | .panic _,_,_=>False
 | .outgrown,_,_=>False
theorem wp_overM {α:Type} {P:Program} {g:Operand} {ps:Array Tmp} {assign body:Code} {Q:Exit→Act→World→Prop} {a:Act} {w:World} {gf:Nat} {lb:Array Value}
 (hg:a.eval g = .func (.func gf) #[] lb) (eg:∀ args w,(callFunc gf args).run P w = .ok (.enter gf args) w)
 {encs:α→Array Value} {xs:List α} {Rd:World→Prop} (hseq:GivesM P gf lb encs xs Rd) (hps:∀ x,(encs x).size=ps.size)
 (I:Nat→List α→World→Prop) (Ix:Code→World→Prop)
 (hI:∀ M pre W W',I M pre W→Keeps (Two w) W W'→I M pre W') (hIx:∀ c W W',Ix c W→Keeps (Two w) W W'→Ix c W')
 (hRd:∀ M pre W,I M pre W→Rd W) (hRd0:∀ W,Keeps (fun _=>False) w W→Rd W) (h0:∀ W,Keeps (fun _=>False) w W→w.heap.size+2≤W.heap.size→I W.heap.size [] W)
 (hbody:∀ (l:Nat) (M:Nat) (pre:List α) (x:α) (suf:List α) (W:World),xs=pre ++ x :: suf→I M pre W→w.heap.size+1<W.heap.size→
  assign.wpIn (Wd.inRound l) 0 P (Exit.then (fun a₁ W₁=>(Keeps (fun k=>¬ Two w k) W W₁∧Keeps (KS (w.heap.size+2) M) W W₁)∧∀ W₂,Keeps (Two w) W₁ W₂→body.wpIn (Wd.inRound l) 0 P (overPostM w I Ix M (pre ++ [x]) W₂) a₁ W₂) (fun _ _ _=>False))
   { tmps:=(ps.zip (encs x)).foldl (fun t (p,v)=>t.setIfInBounds p v) a.tmps,defers:=[] } W)
 (hdone:∀ M W,I M xs W→W.heap[w.heap.size]?=some (.deferred (some []))→Q .normal { a with defers:={ target:=.collected w.heap.size,args:=#[] } :: a.defers } W)
 (hstop:∀ c W,Ix c W→W.heap[w.heap.size]?=some (.deferred (some []))→c.wpIn Wd 0 P Q { a with defers:={ target:=.collected w.heap.size,args:=#[] } :: a.defers } W):
 (Code.rangeFunc g ps assign body).wpIn Wd 0 P Q a w:=by
 refine wpIn_rangeFunc ?_
 intro fn hfn
 obtain⟨rec,hrec⟩:∃ rec:LoopState→Option Code→Loop,rec=fun st pe=>{ state:=st,pending:=pe,fn,tmps:=a.tmps,params:=ps,assign,body,defers:=w.heap.size }:=⟨_,rfl⟩
 obtain⟨W1,hW1⟩:∃ W1,(w.alloc (.deferred (some []))).alloc (.loop (rec .ready none))=W1:=⟨_,rfl⟩
 have hL1:W1.heap[w.heap.size+1]?=some (.loop (rec .ready none)):=by rw [← hW1];exact alloc_new' (by simp)
 have hK1:W1.heap[w.heap.size]?=some (.deferred (some [])):=by rw [← hW1];exact alloc_old alloc_new
 have hw1:Keeps (fun _=>False) w W1:=by rw [← hW1];exact ((Keeps.refl _ _).alloc _).alloc _
 have hs1:W1.heap.size=w.heap.size+2:=by rw [← hW1];simp
 refine⟨w.heap.size+1,[{ target:=.collected w.heap.size,args:=#[] }],W1,{ target:=.fn (.func gf) lb,args:=#[.func (.yield (w.heap.size+1)) #[] #[]] },W1,gf,
  #[.func (.yield (w.heap.size+1)) #[] #[]] ++ lb,W1,?_,?_,?_,?_,fun h=>by simp [Fence.wide] at h,?_⟩
 ·rw [← hW1,hrec];exact run_enterLoop_outer _ _ _ _ _
 ·simp only [resolve,hg]
  simp [go_sem]
 ·intro f' _;trivial
 ·simp [invoke,go_sem,eg]
 ·refine callsIn_wide.2 ?_
  refine (hseq (w.heap.size+1)
   (fun M pre W=>I M pre W∧W.heap[w.heap.size+1]?=some (.loop (rec .ready none))∧W.heap[w.heap.size]?=some (.deferred (some [])))
   (fun W=>∃ c,Ix c W∧W.heap[w.heap.size+1]?=some (.loop (rec .done (some c)))∧W.heap[w.heap.size]?=some (.deferred (some [])))
   W1
   (fun M pre W W' h hk=>⟨hI _ _ _ _ h.1 hk.up,block_keep h.2.1 hk (fun h=>h),block_keep h.2.2 hk (fun h=>h)⟩)
   (fun W W' ⟨c,h,h1,h2⟩ hk=>⟨c,hIx _ _ _ h hk.up,block_keep h1 hk (fun h=>h),block_keep h2 hk (fun h=>h)⟩)
   (fun M pre W h=>hRd _ _ _ h.1) ?_ (fun W hk=>⟨h0 _ (hw1.trans hk) (by have:=hk.size;omega),block_keep hL1 hk (fun h=>h),block_keep hK1 hk (fun h=>h)⟩) (hRd0 _ hw1)).mono ?_
  ·rintro M pre x suf W hx ⟨hi,hl,hk⟩
   have hlt:w.heap.size+1<W.heap.size:=lt_block hl
   have hy:=run_yield (P:=P) (args:=encs x) hl (by rw [hrec];exact hps x)
   rw [hrec] at hy
   refine⟨fn,_,assign,body,hy,roundIn_of_wpIn trivial (wpIn_mono (hbody _ M pre x suf W hx hi hlt) ?_)⟩
   rintro e a₁ W₁ hp
   cases e with
   | normal=>
    obtain⟨⟨hk1,hk1'⟩,hb1⟩:=hp
    have hl1:W₁.heap[w.heap.size+1]?=some (.loop (rec .ready none)):=block_keep hl hk1 (by simp [Two])
    have hd1:W₁.heap[w.heap.size]?=some (.deferred (some [])):=block_keep hk hk1 (by simp [Two])
    refine⟨_,run_beginRound hl1 (by rw [hrec]),?_⟩
    have hlt1:w.heap.size+1<W₁.heap.size:=lt_block hl1
    have hl2:(W₁.putObj (w.heap.size+1) (.loop { rec .ready none with state:=.busy })).heap[w.heap.size+1]?=some (.loop { rec .ready none with state:=.busy }):=World.putObj_heap_same hlt1
    have hd2:(W₁.putObj (w.heap.size+1) (.loop { rec .ready none with state:=.busy })).heap[w.heap.size]?=some (.deferred (some [])):=(World.putObj_heap_other (by omega)).trans hd1
    refine wpIn_mono (hb1 _ ((Keeps.refl _ _).putObj (.inl (.inr rfl)) _)) ?_
    have fin:∀ (jump:Option Code) (W3:World),(Keeps (fun k=>¬ Two w k) (W₁.putObj (w.heap.size+1) (.loop { rec .ready none with state:=.busy })) W3∧Keeps (KS (w.heap.size+2) M) (W₁.putObj (w.heap.size+1) (.loop { rec .ready none with state:=.busy })) W3)→
     (Instr.endRound (w.heap.size+1) jump).run P W3 = .ok (.bool jump.isNone) (W3.putObj (w.heap.size+1) (.loop (rec (if jump.isNone then .ready else .done) jump)))∧
     (W3.putObj (w.heap.size+1) (.loop (rec (if jump.isNone then .ready else .done) jump))).heap[w.heap.size+1]?=some (.loop (rec (if jump.isNone then .ready else .done) jump))∧
     (W3.putObj (w.heap.size+1) (.loop (rec (if jump.isNone then .ready else .done) jump))).heap[w.heap.size]?=some (.deferred (some []))∧
     Keeps (KS W1.heap.size M) W (W3.putObj (w.heap.size+1) (.loop (rec (if jump.isNone then .ready else .done) jump))):=fun jump W3 hk3=>by
     have hl3:=block_keep hl2 hk3.1 (by simp [Two])
     have hd3:=block_keep hd2 hk3.1 (by simp [Two])
     have:=run_endRound (P:=P) jump hl3
     rw [hrec] at this ⊢
     refine⟨this,World.putObj_heap_same (lt_block hl3),(World.putObj_heap_other (by omega)).trans hd3,?_⟩
     rw [hs1]
     exact ((hk1'.putObj (r:=w.heap.size+1) (.inl (.inl (by omega))) _).trans hk3.2).putObj (r:=w.heap.size+1) (.inl (.inl (by omega))) _
    have kT:∀ (W3:World) (o:Obj),Keeps (Two w) W3 (W3.putObj (w.heap.size+1) o):=fun W3 o=>(Keeps.refl _ _).putObj (.inl (.inr rfl)) _
    rintro e a3 W3 hp
    cases e with
    | normal=>
     obtain⟨hk3,hi3⟩:=hp
     obtain⟨hr,hl4,hk4,hk5⟩:=fin none W3 hk3
     exact⟨_,_,hr,.inl ⟨rfl,hI _ _ _ _ hi3 (kT _ _),hl4,hk4⟩,hk5⟩
    | ret=>
     obtain⟨hk3,hi3⟩:=hp
     obtain⟨hr,hl4,hk4,hk5⟩:=fin (some .ret) W3 hk3
     exact⟨_,_,hr,.inr ⟨rfl,.ret,hIx _ _ _ hi3 (kT _ _),hl4,hk4⟩,hk5⟩
    | exit id=>
     obtain⟨hk3,hi3⟩:=hp
     obtain⟨hr,hl4,hk4,hk5⟩:=fin (some (.exit id)) W3 hk3
     exact⟨_,_,hr,.inr ⟨rfl,.exit id,hIx _ _ _ hi3 (kT _ _),hl4,hk4⟩,hk5⟩
    | goto t=>
     obtain⟨hk3,hi3⟩:=hp
     obtain⟨hr,hl4,hk4,hk5⟩:=fin (some (.goto t)) W3 hk3
     exact⟨_,_,hr,.inr ⟨rfl,.goto t,hIx _ _ _ hi3 (kT _ _),hl4,hk4⟩,hk5⟩
    | panic ch=>exact hp.elim
    | outgrown=>exact hp.elim
   | ret=>exact hp.elim
   | exit id=>exact hp.elim
   | goto t=>exact hp.elim
   | panic ch=>exact hp.elim
   | outgrown=>exact hp.elim
  ·rintro e W2 ⟨⟨v,rfl⟩,(⟨M,hi,hl,hk⟩ | ⟨c,hi,hl,hk⟩)⟩
   ·exact⟨none,_,by have:=run_endLoop (P:=P) hl (by rw [hrec];simp);rw [hrec] at this;exact this,hdone _ _ (hI _ _ _ _ hi ((Keeps.refl _ _).putObj (.inl (.inr rfl)) _)) ((World.putObj_heap_other (by omega)).trans hk)⟩
   ·exact⟨some c,_,by have:=run_endLoop (P:=P) hl (by rw [hrec];simp);rw [hrec] at this;exact this,hstop c _ (hIx _ _ _ hi ((Keeps.refl _ _).putObj (.inl (.inr rfl)) _)) ((World.putObj_heap_other (by omega)).trans hk)⟩
end Go.Proofs.YtnlkfbndlngjaaaGreat
