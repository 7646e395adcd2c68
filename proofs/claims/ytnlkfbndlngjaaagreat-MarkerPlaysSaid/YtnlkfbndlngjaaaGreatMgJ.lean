import Derived.Test.YtnlkfbndlngjaaaGreatMgI
set_option maxRecDepth 100000
namespace Go.Proofs.YtnlkfbndlngjaaaGreat
open Go.RowKit
structure Sq where
 over:Bool
 most:Int
 size:Nat
 n:Nat
 f:Nat→Int
structure SqC (c:Array Value) (S:Sq):Prop where
 sz:c.size=68
 over:c[0]?=some (.bool S.over)
 most:c[1]?=some (.int .i64 S.most)
 size:c[2]?=some (.int .i64 S.size)
 n:c[3]?=some (.int .i64 S.n)
 row:∀ i,i<64→c[4+i]?=some (.int .i64 (S.f i))
 s1:1≤S.size
 s2:S.size≤64
 nn:S.n≤S.size
 m0:0≤S.most
 m1:S.most≤64
def SqAt (w:World) (b:Nat) (S:Sq):Prop:=∃ c,w.heap[b]?=some (.cells c 181)∧SqC c S
theorem SqAt.lt {w:World} {b:Nat} {S:Sq} (h:SqAt w b S):b<w.heap.size:=by obtain⟨c,h,_⟩:=h;exact lt_block h
theorem SqAt.keeps {w w':World} {b:Nat} {K:Sq} {S:Nat→Prop} (h:SqAt w b K) (hk:Keeps S w w') (hS:¬ S b):SqAt w' b K:=by
 obtain⟨c,h,hc⟩:=h;exact⟨c,block_keep h hk hS,hc⟩
theorem SqC.one {c:Array Value} {S:Sq} (h:SqC c S):c.all (·.oneCell')=true:=by
 rw [Array.all_eq_true]
 intro i hi
 rw [h.sz] at hi
 have key:∃ v,c[i]?=some v∧v.oneCell'=true:=by
  match i,hi with
  | 0,_=>exact⟨_,h.over,rfl⟩
  | 1,_=>exact⟨_,h.most,rfl⟩
  | 2,_=>exact⟨_,h.size,rfl⟩
  | 3,_=>exact⟨_,h.n,rfl⟩
  | j+4,hi=>exact⟨_,by rw [show j+4=4+j by omega];exact h.row j (by omega),rfl⟩
 obtain⟨v,hv,h1⟩:=key
 obtain⟨_,hx'⟩:=Array.getElem?_eq_some_iff.1 hv
 rw [hx'];exact h1
theorem qz_list:Tryz.zeroCells181.toList = .bool false :: .int .i64 0 :: .int .i64 0 :: .int .i64 0 :: List.replicate 64 (Value.int .i64 0):=by kernel_rfl
theorem qz_new (n:Nat) (h1:1≤n) (h2:n≤64):SqC (Tryz.zeroCells181.setIfInBounds 2 (.int .i64 n)) ⟨false,0,n,0,fun _=>0⟩:=by
 have hs:Tryz.zeroCells181.size=68:=Tryz.zeroCells181_size
 have hz:∀ i,Tryz.zeroCells181[i]?=(Value.bool false :: Value.int .i64 0 :: Value.int .i64 0 :: Value.int .i64 0 :: List.replicate 64 (Value.int .i64 0))[i]?:=fun i=>by rw [← qz_list,Array.getElem?_toList]
 refine⟨by simp [hs],?_,?_,?_,?_,?_,h1,h2,Nat.zero_le _,by simp,by simp⟩
 ·rw [Array.getElem?_setIfInBounds_ne (by omega),hz];rfl
 ·rw [Array.getElem?_setIfInBounds_ne (by omega),hz];rfl
 ·rw [Array.getElem?_setIfInBounds_self_of_lt (by omega)]
 ·rw [Array.getElem?_setIfInBounds_ne (by omega),hz];rfl
 ·intro i hi
  rw [Array.getElem?_setIfInBounds_ne (by omega),hz,show 4+i=i+1+1+1+1 by omega,List.getElem?_cons_succ,List.getElem?_cons_succ,List.getElem?_cons_succ,List.getElem?_cons_succ,List.getElem?_replicate,if_pos hi]
theorem qnew_ok (n:Int) (w:World) (hn:1≤n) (hn1:n≤64):
 Calls Tryz.prog 60 #[.int .i64 n] w fun e w'=>e = .returned (.tuple #[.pointer (some ⟨w.heap.size,0,none⟩),.int .i64 0])∧Keeps (fun _=>False) w w'∧SqAt w' w.heap.size ⟨false,0,n.toNat,0,fun _=>0⟩:=by
 obtain⟨m,rfl⟩:∃ m:Nat,n=m:=⟨n.toNat,by omega⟩
 have hz:=hid (qz_new m (by omega) (by omega))
 go_enter Tryz.func60,Tryz.ntmps60
 go_wp2
 go_ret2
 exact⟨rfl,(Keeps.refl _ _).alloc _,_,alloc_new,by simpa using hz.out⟩
theorem qnew_bad (n:Int) (w:World) (hn:n<1∨64<n):
 Calls Tryz.prog 60 #[.int .i64 n] w fun e w'=>e = .returned (.tuple #[.pointer none,.int .i64 2])∧w'=w:=by
 rcases hn with hn | hn
 ·go_enter Tryz.func60,Tryz.ntmps60
  go_wp2
  go_ret2
  exact⟨rfl,rfl⟩
 ·have:¬ n<1:=by omega
  go_enter Tryz.func60,Tryz.ntmps60
  go_wp2
  go_ret2
  exact⟨rfl,rfl⟩
end Go.Proofs.YtnlkfbndlngjaaaGreat
namespace Go.Proofs.YtnlkfbndlngjaaaGreat
open Go.RowKit
def Sq.push (S:Sq) (x:Int):Sq:=⟨S.over,max S.most (S.n+1),S.size,S.n+1,updf S.f S.n x⟩
def Sq.full (S:Sq):Sq:={ S with over:=true }
def Sq.pop (S:Sq):Sq:={ S with n:=S.n - 1 }
def Sq.clear (S:Sq):Sq:={ S with n:=0,over:=false,most:=0 }
theorem SqC.push {c:Array Value} {S:Sq} (h:SqC c S) (hn:S.n<S.size) (x:Int):
 SqC (((c.setIfInBounds (4+S.n) (.int .i64 x)).setIfInBounds 3 (.int .i64 ((S.n:Int)+1))).setIfInBounds 1 (.int .i64 (max S.most ((S.n:Int)+1)))) (S.push x):=by
 have hs:=h.sz
 have h2:=h.s2
 refine⟨by simp [hs],?_,?_,?_,?_,?_,h.s1,h.s2,by simp only [Sq.push];omega,?_,?_⟩
 ·rw [Array.getElem?_setIfInBounds_ne (by omega),Array.getElem?_setIfInBounds_ne (by omega),Array.getElem?_setIfInBounds_ne (by omega)];exact h.over
 ·rw [Array.getElem?_setIfInBounds_self_of_lt (by simp;omega)];rfl
 ·rw [Array.getElem?_setIfInBounds_ne (by omega),Array.getElem?_setIfInBounds_ne (by omega),Array.getElem?_setIfInBounds_ne (by omega)];exact h.size
 ·rw [Array.getElem?_setIfInBounds_ne (by omega),Array.getElem?_setIfInBounds_self_of_lt (by simp;omega)];simp [Sq.push]
 ·intro i hi
  rw [Array.getElem?_setIfInBounds_ne (by omega),Array.getElem?_setIfInBounds_ne (by omega)]
  by_cases e:i=S.n
  ·subst e;rw [Array.getElem?_setIfInBounds_self_of_lt (by omega)];simp [Sq.push,updf]
  ·rw [Array.getElem?_setIfInBounds_ne (by omega),h.row i hi];simp [Sq.push,updf,e]
 ·have:=h.m0;simp only [Sq.push];omega
 ·have:=h.m1;simp only [Sq.push];omega
theorem qvalid (b:Nat) (S:Sq) (w:World) (h:SqAt w b S):
 Calls Tryz.prog 100 #[.pointer (some ⟨b,0,none⟩)] w fun e w'=>e = .returned (.bool true)∧w'=w:=by
 obtain⟨c,hc,hC⟩:=h
 have c2:=cell_at hc hC.size
 have hI:0<S.size:=hC.s1
 clear hc hC
 go_enter Tryz.func100,Tryz.ntmps100
 go_wp2
 go_ret
 exact⟨rfl,rfl⟩
theorem qpush_full (b:Nat) (S:Sq) (x:Int) (w:World) (h:SqAt w b S) (h0:0≤x) (h1:x<256) (hn:S.n=S.size):
 Calls Tryz.prog 231 #[.pointer (some ⟨b,0,none⟩),.int .i64 x] w fun e w'=>e = .returned (.tuple #[.bool false,.int .i64 0])∧Keeps (fun y=>y=b) w w'∧SqAt w' b S.full:=by
 have HV:=hid (qvalid b S w h)
 obtain⟨c,hc,hC⟩:=h
 have c0:=cell_at hc hC.over
 have c2:=cell_at hc hC.size
 have c3:=cell_at hc hC.n
 have f0:=frozen_block hc 0
 have hl:=lt_block hc
 have hq:((S.n:Int) == S.size)=true:=by simp [hn]
 have hd0:decide (x<0)=false:=by simp;omega
 have hd1:decide (256≤x)=false:=by simp;omega
 have HB:=hid hc;have HC:=hid hC
 clear hc hC hn
 go_enter Tryz.func231,Tryz.ntmps231
 go_wp2_with fail
 refine HV.out.mono ?_
 rintro e w' ⟨rfl,h'⟩
 obtain rfl:=h'.symm
 go_wp2_with fail
 go_quiet (fail)
 go_wp2_with fail
 go_ret2
 refine⟨rfl,?_,_,set_block HB.out 0 _,?_⟩
 ·exact ((Keeps.refl (fun y=>y=b) _).drewN _).setCell (p:=⟨b,0,none⟩) (.inl rfl) _
 ·have hC:=HC.out
  have hs:=hC.sz
  refine⟨by simp [hs],?_,?_,?_,?_,?_,hC.s1,hC.s2,hC.nn,hC.m0,hC.m1⟩
  ·rw [Array.getElem?_setIfInBounds_self_of_lt (by omega)];rfl
  ·rw [Array.getElem?_setIfInBounds_ne (by omega)];exact hC.most
  ·rw [Array.getElem?_setIfInBounds_ne (by omega)];exact hC.size
  ·rw [Array.getElem?_setIfInBounds_ne (by omega)];exact hC.n
  ·intro i hi;rw [Array.getElem?_setIfInBounds_ne (by omega)];exact hC.row i hi
theorem qpush_ok (b:Nat) (S:Sq) (x:Int) (w:World) (h:SqAt w b S) (h0:0≤x) (h1:x<256) (hn:S.n<S.size):
 Calls Tryz.prog 231 #[.pointer (some ⟨b,0,none⟩),.int .i64 x] w fun e w'=>e = .returned (.tuple #[.bool true,.int .i64 0])∧Keeps (fun y=>y=b) w w'∧SqAt w' b (S.push x):=by
 have HV:=hid (qvalid b S w h)
 obtain⟨c,hc,hC⟩:=h
 have c1:=cell_at hc hC.most
 have c2:=cell_at hc hC.size
 have c3:=cell_at hc hC.n
 have h64:=hC.s2
 have c4:=cell_at hc (hC.row S.n (by omega))
 have f1:=frozen_block hc 1
 have f3:=frozen_block hc 3
 have f4:=frozen_block hc (4+S.n)
 have hl:=lt_block hc
 have hq:((S.n:Int) == S.size)=false:=by simp;omega
 have hd0:decide (x<0)=false:=by simp;omega
 have hd1:decide (256≤x)=false:=by simp;omega
 have hI0:(0:Int)≤S.n:=by omega
 have hI1:(S.n:Int)<64:=by omega
 have hw:IntKind.i64.wrap ((S.n:Int)+1)=(S.n:Int)+1:=IntWalk.i64_in _ (by omega)
 have HB:=hid hc;have HC:=hid (hC.push hn x)
 clear hc hC hn
 go_enter Tryz.func231,Tryz.ntmps231
 go_wp2_with fail
 refine HV.out.mono ?_
 rintro e w' ⟨rfl,h'⟩
 obtain rfl:=h'.symm
 go_wp2_with fail
 go_quiet (fail)
 go_wp2_with fail
 go_region
 go_wp2_with fail
 go_region
 go_wp2_with fail
 all_goals
  go_ret2
  have hC:=HC.out
  refine⟨rfl,(((((Keeps.refl (fun y=>y=b) _).drewN _).setCell (p:=⟨b,_,none⟩) (.inl rfl) _).setCell (p:=⟨b,_,none⟩) (.inl rfl) _).setCell (p:=⟨b,_,none⟩) (.inl rfl) _).drew,_,set_block (set_block (set_block HB.out (4+S.n) _) 3 _) 1 _,?_⟩
  first
   | (rw [show max S.most ((S.n:Int)+1)=(S.n:Int)+1 by omega] at hC;exact hC)
   | (rw [show max S.most ((S.n:Int)+1)=S.most by omega] at hC;exact hC)
theorem qpop_none (b:Nat) (S:Sq) (w:World) (h:SqAt w b S) (hn:S.n=0):
 Calls Tryz.prog 237 #[.pointer (some ⟨b,0,none⟩)] w fun e w'=>e = .returned (.tuple #[.int .i64 0,.bool false])∧Keeps (fun _=>False) w w':=by
 have HV:=hid (qvalid b S w h)
 obtain⟨c,hc,hC⟩:=h
 have c3:=cell_at hc hC.n
 rw [hn] at c3
 clear hc hC hn
 go_enter Tryz.func237,Tryz.ntmps237
 go_wp2_with fail
 refine HV.out.mono ?_
 rintro e w' ⟨rfl,h'⟩
 obtain rfl:=h'.symm
 go_wp2_with fail
 go_ret2
 exact⟨rfl,Keeps.refl _ _⟩
theorem qpop_ok (b:Nat) (S:Sq) (w:World) (h:SqAt w b S) (hn:0<S.n):
 Calls Tryz.prog 237 #[.pointer (some ⟨b,0,none⟩)] w fun e w'=>e = .returned (.tuple #[.int .i64 (S.f (S.n - 1)),.bool true])∧Keeps (fun y=>y=b) w w'∧SqAt w' b S.pop:=by
 have HV:=hid (qvalid b S w h)
 obtain⟨c,hc,hC⟩:=h
 have c3:=cell_at hc hC.n
 have h64:=hC.s2
 have hnn:=hC.nn
 have c4:=cell_at hc (hC.row (S.n - 1) (by omega))
 have f3:=frozen_block hc 3
 have hl:=lt_block hc
 have hq:((S.n:Int) == 0)=false:=by simp;omega
 obtain⟨k,hk⟩:∃ k:Nat,S.n=k+1:=⟨S.n - 1,by omega⟩
 rw [hk] at c3 c4 hq
 have hI0:(0:Int)≤k:=by omega
 have hI1:(k:Int)<64:=by omega
 have HB:=hid hc;have HC:=hid hC;have HK:=hid hk
 clear hc hC hn hk
 rw [show k+1 - 1=k by omega] at c4
 go_enter Tryz.func237,Tryz.ntmps237
 go_wp2_with fail
 refine HV.out.mono ?_
 rintro e w' ⟨rfl,h'⟩
 obtain rfl:=h'.symm
 go_wp2_with fail
 go_quiet (fail)
 go_wp2_with fail
 go_ret2
 rw [show S.n - 1=k by rw [HK.out];rfl]
 refine⟨rfl,((Keeps.refl (fun y=>y=b) _).setCell (p:=⟨b,3,none⟩) (.inl rfl) _).drewN _,_,set_block HB.out 3 _,?_⟩
 have hC:=HC.out
 have hs:=hC.sz
 have hk:=HK.out
 refine⟨by simp [hs],?_,?_,?_,?_,?_,hC.s1,hC.s2,by simp only [Sq.pop];omega,hC.m0,hC.m1⟩
 ·rw [Array.getElem?_setIfInBounds_ne (by omega)];exact hC.over
 ·rw [Array.getElem?_setIfInBounds_ne (by omega)];exact hC.most
 ·rw [Array.getElem?_setIfInBounds_ne (by omega)];exact hC.size
 ·rw [Array.getElem?_setIfInBounds_self_of_lt (by omega)];simp only [Sq.pop];congr 2;omega
 ·intro i hi;rw [Array.getElem?_setIfInBounds_ne (by omega)];exact hC.row i hi
theorem qclear_ok (b:Nat) (S:Sq) (w:World) (h:SqAt w b S):
 Calls Tryz.prog 119 #[.pointer (some ⟨b,0,none⟩)] w fun e w'=>e = .returned (.tuple #[])∧Keeps (fun y=>y=b) w w'∧SqAt w' b S.clear:=by
 have HV:=hid (qvalid b S w h)
 obtain⟨c,hc,hC⟩:=h
 have c0:=cell_at hc hC.over
 have c1:=cell_at hc hC.most
 have c3:=cell_at hc hC.n
 have f0:=frozen_block hc 0;have f1:=frozen_block hc 1;have f3:=frozen_block hc 3
 have hl:=lt_block hc
 have HB:=hid hc;have HC:=hid hC
 clear hc hC
 go_enter Tryz.func119,Tryz.ntmps119
 go_wp2_with fail
 refine HV.out.mono ?_
 rintro e w' ⟨rfl,h'⟩
 obtain rfl:=h'.symm
 go_wp2_with fail
 go_end0
 refine⟨rfl,(((Keeps.refl (fun y=>y=b) _).setCell (p:=⟨b,3,none⟩) (.inl rfl) _).setCell (p:=⟨b,0,none⟩) (.inl rfl) _).setCell (p:=⟨b,1,none⟩) (.inl rfl) _,_,set_block (set_block (set_block HB.out 3 _) 0 _) 1 _,?_⟩
 have hC:=HC.out
 have hs:=hC.sz
 refine⟨by simp [hs],?_,?_,?_,?_,?_,hC.s1,hC.s2,Nat.zero_le _,by simp [Sq.clear],by simp [Sq.clear]⟩
 ·rw [Array.getElem?_setIfInBounds_ne (by omega),Array.getElem?_setIfInBounds_self_of_lt (by simp;omega)];rfl
 ·rw [Array.getElem?_setIfInBounds_self_of_lt (by simp;omega)];rfl
 ·rw [Array.getElem?_setIfInBounds_ne (by omega),Array.getElem?_setIfInBounds_ne (by omega),Array.getElem?_setIfInBounds_ne (by omega)];exact hC.size
 ·rw [Array.getElem?_setIfInBounds_ne (by omega),Array.getElem?_setIfInBounds_ne (by omega),Array.getElem?_setIfInBounds_self_of_lt (by omega)];rfl
 ·intro i hi;rw [Array.getElem?_setIfInBounds_ne (by omega),Array.getElem?_setIfInBounds_ne (by omega),Array.getElem?_setIfInBounds_ne (by omega)];exact hC.row i hi
theorem qcopy_ok (b:Nat) (S:Sq) (w:World) (h:SqAt w b S):
 Calls Tryz.prog 46 #[.pointer (some ⟨b,0,none⟩)] w fun e w'=>e = .returned (.pointer (some ⟨w.heap.size,0,none⟩))∧Keeps (fun _=>False) w w'∧SqAt w' w.heap.size S:=by
 have HV:=hid (qvalid b S w h)
 obtain⟨c,hb,hc⟩:=h
 have hs:=hc.sz
 have HB:=hid hb;clear hb
 have HI:=hid (show (Tryz.prog.info? 181).map (·.size)=some c.size by rw [hs];kernel_rfl)
 have hst:∀ w':World,Sem.run Tryz.prog (storeCells ⟨w'.heap.size,0,none⟩ c.toList) (w'.alloc (.cells Tryz.zeroCells181 181)) = .ok () (w'.alloc (.cells c 181)):=
  fun w'=>run_storeCells_new w' _ _ c HI.out (by rw [Tryz.zeroCells181_size,hs]) hc.one
 have HC:=hid hc;clear hc
 have HS:=hid hs;clear hs
 go_enter Tryz.func46,Tryz.ntmps46
 go_wp2_with fail
 refine HV.out.mono ?_
 rintro e w' ⟨rfl,h'⟩
 obtain rfl:=h'.symm
 go_wp2_with (with_reducible refine wpList_load_row rfl _ _ rfl b rfl _ c _ _ HB.out Tryz.underlying181 rfl HI.out ?_)
 go_ret
 exact⟨rfl,(Keeps.refl _ _).alloc _,c,alloc_new,HC.out⟩
theorem ccopy_ok (b:Nat) (P:Pt) (w:World) (h:PtAt w b P):
 Calls Tryz.prog 45 #[.pointer (some ⟨b,0,none⟩)] w fun e w'=>e = .returned (.pointer (some ⟨w.heap.size,0,none⟩))∧Keeps (fun _=>False) w w'∧PtAt w' w.heap.size P:=by
 have HV:=hid (cmade b P w h)
 obtain⟨c,hb,hc⟩:=h
 have hs:=hc.size
 have HB:=hid hb;clear hb
 have HI:=hid (show (Tryz.prog.info? 176).map (·.size)=some c.size by rw [hs];kernel_rfl)
 have hst:∀ w':World,Sem.run Tryz.prog (storeCells ⟨w'.heap.size,0,none⟩ c.toList) (w'.alloc (.cells Tryz.zeroCells176 176)) = .ok () (w'.alloc (.cells c 176)):=
  fun w'=>run_storeCells_new w' _ _ c HI.out (by rw [Tryz.zeroCells176_size,hs]) hc.one
 have HC:=hid hc;clear hc
 have HS:=hid hs;clear hs
 go_enter Tryz.func45,Tryz.ntmps45
 go_wp2_with fail
 refine HV.out.mono ?_
 rintro e w' ⟨rfl,h'⟩
 obtain rfl:=h'.symm
 go_wp2_with (with_reducible refine wpList_load_row rfl _ _ rfl b rfl _ c _ _ HB.out Tryz.underlying176 rfl HI.out ?_)
 go_ret
 exact⟨rfl,(Keeps.refl _ _).alloc _,c,alloc_new,HC.out⟩
theorem scvalid (p s:Nat) (P:Pt) (S:Sq) (w:World) (hp:PtAt w p P) (hs:SqAt w s S):
 Calls Tryz.prog 229 #[.pointer (some ⟨p,0,none⟩),.pointer (some ⟨s,0,none⟩)] w fun e w'=>e = .returned (.bool true)∧Keeps (fun _=>False) w w':=by
 have H1:=hid (ccopy_ok p P w hp)
 have H2:=hid (fun (w':World) (hk:Keeps (fun _=>False) w w')=>qcopy_ok s S w' (hs.keeps hk (fun h=>h)))
 clear hp hs
 go_enter Tryz.func229,Tryz.ntmps229
 go_wp2_with fail
 refine H1.out.mono ?_
 rintro e w1 ⟨rfl,hk1,_⟩
 go_wp2_with fail
 refine (H2.out _ hk1).mono ?_
 rintro e w2 ⟨rfl,hk2,_⟩
 go_wp2_with fail
 go_ret
 exact⟨rfl,hk1.trans hk2⟩
end Go.Proofs.YtnlkfbndlngjaaaGreat
namespace Go.Proofs.YtnlkfbndlngjaaaGreat
open Go.RowKit
def shd (P:Pt) (S:Sq) (i:Nat):Pt × Sq:=if P.c i=0 then (P.put i 1,if S.n=S.size then S.full else S.push i) else (P,S)
theorem scshade_ok (p s:Nat) (P:Pt) (S:Sq) (i:Nat) (w:World) (hp:PtAt w p P) (hs:SqAt w s S) (hi:i<P.n):
 Calls Tryz.prog 152 #[.pointer (some ⟨p,0,none⟩),.pointer (some ⟨s,0,none⟩),.int .i64 i] w fun e w'=>e = .returned (.tuple #[.bool (P.c i == 0),.int .i64 0])∧Keeps (fun y=>y=p∨y=s) w w'∧PtAt w' p (shd P S i).1∧SqAt w' s (shd P S i).2:=by
 have hne:p≠s:=by
  obtain⟨c,h1,_⟩:=hp
  obtain⟨c2,h2,_⟩:=hs
  exact type_ne h1 h2 (by decide)
 have hi256:=hp.n12
 have H0:=hid (scvalid p s P S w hp hs)
 have H1:=hid (fun (w':World) (hk:Keeps (fun _=>False) w w')=>cshade_ok p P i w' (hp.keeps hk (fun h=>h)) hi)
 have HS:=hid (fun (w':World) (hk:Keeps (fun y=>y=p) w w')=>hs.keeps hk (fun h=>hne h.symm))
 have HNE:=hid hne
 clear hp hs hne
 rcases hx:(P.c i == 0) with _ | _
 ·have HX:=hid (show shd P S i=(P,S) by rw [shd,if_neg (by simpa using hx)])
  have HX2:=hid (show P.shade i=P by rw [Pt.shade,if_neg (by simpa using hx)])
  rw [hx,HX2.out] at H1
  go_enter Tryz.func152,Tryz.ntmps152
  go_wp2_with fail
  refine H0.out.mono ?_
  rintro e w1 ⟨rfl,hk1⟩
  go_wp2_with fail
  refine (H1.out _ hk1).mono ?_
  rintro e w2 ⟨rfl,hk2,hp2⟩
  go_wp2_with fail
  go_ret2
  rw [HX.out]
  have kk:=hk1.up.trans hk2
  exact⟨rfl,kk.mono (fun _ _ h=>.inl h),hp2,HS.out _ kk⟩
 ·have HX2:=hid (show P.shade i=P.put i 1 by rw [Pt.shade,if_pos (by simpa using hx)])
  rw [hx,HX2.out] at H1
  by_cases hf:S.n=S.size
  ·have HX:=hid (show shd P S i=(P.put i 1,S.full) by rw [shd,if_pos (by simpa using hx),if_pos hf])
   go_enter Tryz.func152,Tryz.ntmps152
   go_wp2_with fail
   refine H0.out.mono ?_
   rintro e w1 ⟨rfl,hk1⟩
   go_wp2_with fail
   refine (H1.out _ hk1).mono ?_
   rintro e w2 ⟨rfl,hk2,hp2⟩
   have HQ:=hid (qpush_full s S i w2 (HS.out _ (hk1.up.trans hk2)) (by omega) (by omega) hf)
   go_wp2_with fail
   refine HQ.out.mono ?_
   rintro e w3 ⟨rfl,hk3,hs3⟩
   go_wp2_with fail
   go_ret2
   rw [HX.out]
   exact⟨rfl,(hk1.up.trans hk2).trans' hk3 (U:=fun y=>y=p∨y=s) (fun _ _ h=>.inl h) (fun _ _ h=>.inr h),hp2.keeps hk3 HNE.out,hs3⟩
  ·have HX:=hid (show shd P S i=(P.put i 1,S.push i) by rw [shd,if_pos (by simpa using hx),if_neg hf])
   go_enter Tryz.func152,Tryz.ntmps152
   go_wp2_with fail
   refine H0.out.mono ?_
   rintro e w1 ⟨rfl,hk1⟩
   go_wp2_with fail
   refine (H1.out _ hk1).mono ?_
   rintro e w2 ⟨rfl,hk2,hp2⟩
   have hs2:=HS.out _ (hk1.up.trans hk2)
   have hnn:S.n<S.size:=by obtain⟨c,h,hc⟩:=hs2;have:=hc.nn;omega
   have HQ:=hid (qpush_ok s S i w2 hs2 (by omega) (by omega) hnn)
   clear hs2
   go_wp2_with fail
   refine HQ.out.mono ?_
   rintro e w3 ⟨rfl,hk3,hs3⟩
   go_wp2_with fail
   go_ret2
   rw [HX.out]
   exact⟨rfl,(hk1.up.trans hk2).trans' hk3 (U:=fun y=>y=p∨y=s) (fun _ _ h=>.inl h) (fun _ _ h=>.inr h),hp2.keeps hk3 HNE.out,hs3⟩
theorem cblack1 (b i B:Nat) (P:Pt) (w:World) (h:PtAt w b P) (hi:i<P.n) (hx:P.c i=1) (hB:w.heap[B]?=some (.cells #[.int .u8 1] 5)):
 Calls Tryz.prog 261 #[.pointer (some ⟨b,1+i,none⟩),.pointer (some ⟨B,0,none⟩)] w fun e w'=>e = .returned (.int .i64 0)∧Keeps (fun y=>y=b) w w'∧PtAt w' b (P.put i 2):=by
 obtain⟨c0,cf,cl⟩:=cells1 hB
 have hc:=h.cell hi
 rw [hx] at hc
 have fc:=h.frozen (1+i)
 have hl:=h.lt
 have HP:=hid h;have HI:=hid hi
 clear h hi hB cf hx
 go_enter Tryz.func261,Tryz.ntmps261
 go_wp2_with fail
 go_quiet (fail)
 go_wp2_with fail
 go_ret
 have k1:Keeps (fun _=>False) w (w.drewN nq):=(Keeps.refl _ _).drewN _
 exact⟨rfl,k1.up.trans (keeps_set1 _ _ _ _),(HP.out.keeps k1 (fun h=>h)).set HI.out 2 (by decide) (by decide)⟩
theorem cblacken_ok (b:Nat) (P:Pt) (i:Nat) (w:World) (h:PtAt w b P) (hi:i<P.n) (hx:P.c i=1):
 Calls Tryz.prog 265 #[.pointer (some ⟨b,0,none⟩),.int .i64 i] w fun e w'=>e = .returned (.int .i64 0)∧Keeps (fun y=>y=b) w w'∧PtAt w' b (P.put i 2):=by
 have HW:=hid (fun (w0:World) B (hk0:Keeps (fun _=>False) w w0) (hq:w0.heap[B]?=some (.cells #[.int .u8 1] 5))=>
  cwith_ok b P i 261 #[.pointer (some ⟨B,0,none⟩)] (fun k w'=>k=0∧Keeps (fun y=>y=b) w0 w'∧PtAt w' b (P.put i 2)) w0 (h.keeps hk0 (fun h=>h)) hi (enters_of Tryz.func261 (by kernel_rfl) rfl)
   (fun w' hk=>(cblack1 b i B P w' (h.keeps (hk0.trans hk) (fun h=>h)) hi hx (block_keep hq hk (fun h=>h))).mono (by
    rintro e w2 ⟨rfl,h2,h3⟩
    exact⟨0,rfl,rfl,hk.up.trans h2,h3⟩)))
 clear h hi hx
 go_enter Tryz.func265,Tryz.ntmps265
 go_wp2_with (first | (go_at_call 169;refine (HW.out _ _ ((Keeps.refl _ _).alloc _) alloc_new).mono ?_;rintro e w1 ⟨k,rfl,rfl,hk,hp⟩) | go_in)
 go_ret
 exact⟨rfl,((Keeps.refl _ _).alloc _).trans hk,hp⟩
theorem cbleach_bad (b:Nat) (P:Pt) (s:Int) (w:World) (h:PtAt w b P) (hs:s<0∨(P.n:Int)≤s):
 Calls Tryz.prog 95 #[.pointer (some ⟨b,0,none⟩),.int .i64 s] w fun e w'=>e = .returned (.int .i64 3)∧Keeps (fun _=>False) w w':=by
 have HW:=hid (fun f=>cwith_bad b P s f w h hs)
 clear h hs
 go_enter Tryz.func95,Tryz.ntmps95
 go_wp2_with fail
 refine (HW.out _).mono ?_
 rintro e w1 ⟨rfl,hk⟩
 go_wp2_with fail
 go_ret
 exact⟨rfl,hk⟩
end Go.Proofs.YtnlkfbndlngjaaaGreat
namespace Go.Proofs.YtnlkfbndlngjaaaGreat
open Go.RowKit
structure Ck where
 ph:Nat
 many:Nat
 cy:Nat
 seen:Nat→Bool
def Ck.arr (K:Ck):Array Value:=#[.int .i64 K.ph,.int .i64 K.many,.int .i64 K.cy,.bool (K.seen 0),.bool (K.seen 1),.bool (K.seen 2),.bool (K.seen 3),
 .bool (decide (0<K.many)),.bool (decide (1<K.many)),.bool (decide (2<K.many)),.bool (decide (3<K.many))]
def Ck.all (K:Ck):Bool:=(K.seen 0 == decide (0<K.many)) && (K.seen 1 == decide (1<K.many)) && (K.seen 2 == decide (2<K.many)) && (K.seen 3 == decide (3<K.many))
structure CkAt (w:World) (b:Nat) (K:Ck):Prop where
 own:w.heap[b]?=some (.cells K.arr 173)
 m1:1≤K.many
 m4:K.many≤4
 p5:K.ph≤5
theorem CkAt.lt {w:World} {b:Nat} {K:Ck} (h:CkAt w b K):b<w.heap.size:=lt_block h.own
theorem CkAt.keeps {w w':World} {b:Nat} {K:Ck} {S:Nat→Prop} (h:CkAt w b K) (hk:Keeps S w w') (hS:¬ S b):CkAt w' b K:=⟨block_keep h.own hk hS,h.m1,h.m4,h.p5⟩
theorem cells11 {w:World} {b:Nat} {v0 v1 v2 v3 v4 v5 v6 v7 v8 v9 v10:Value} {t:TypeId} (h:w.heap[b]?=some (.cells #[v0,v1,v2,v3,v4,v5,v6,v7,v8,v9,v10] t)):
 w.cell? ⟨b,0,none⟩=some v0∧w.cell? ⟨b,1,none⟩=some v1∧w.cell? ⟨b,2,none⟩=some v2∧w.cell? ⟨b,3,none⟩=some v3∧w.cell? ⟨b,4,none⟩=some v4∧
 w.cell? ⟨b,5,none⟩=some v5∧w.cell? ⟨b,6,none⟩=some v6∧w.cell? ⟨b,7,none⟩=some v7∧w.cell? ⟨b,8,none⟩=some v8∧w.cell? ⟨b,9,none⟩=some v9∧w.cell? ⟨b,10,none⟩=some v10∧
 (∀ i,w.frozen? ⟨b,i,none⟩=false)∧b<w.heap.size:=
 ⟨cell_at h rfl,cell_at h rfl,cell_at h rfl,cell_at h rfl,cell_at h rfl,cell_at h rfl,cell_at h rfl,cell_at h rfl,cell_at h rfl,cell_at h rfl,cell_at h rfl,frozen_block h,lt_block h⟩
theorem eq_set (a0 a1 a2 a3 b0 b1 b2 b3:Bool) (w:World):
 Sem.run Tryz.prog (binOp .eql 171 (.agg #[.bool a0,.bool a1,.bool a2,.bool a3]) (.agg #[.bool b0,.bool b1,.bool b2,.bool b3])) w = .ok (.bool (a0 == b0 && a1 == b1 && a2 == b2 && a3 == b3)) w:=by
 have hu:Tryz.prog.underlying 171=some (.array 4 4):=by kernel_rfl
 have hc:Tryz.prog.cellsOf 4=1:=by kernel_rfl
 obtain⟨i,hi⟩:∃ i,Tryz.prog.info? 4=some i:=by
  rcases h:Tryz.prog.info? 4 with _ | i
  ·exact absurd (show (Tryz.prog.info? 4).isSome=true by kernel_rfl) (by simp [h])
  ·exact⟨i,rfl⟩
 rw [run_eql_struct,show (10000:Nat)=9999+1 from rfl,run_equalIn_array w 9999 _ _ hu hi,hc]
 simp only [show List.range 4=[0,1,2,3] from rfl,Op.eqItems]
 go_simp
 cases a0 <;> cases a1 <;> cases a2 <;> cases a3 <;> cases b0 <;> cases b1 <;> cases b2 <;> cases b3 <;> simp [go_sem]
theorem ph_bad (n:Int) (w:World) (hn:n<1∨4<n):
 Calls Tryz.prog 59 #[.int .i64 n] w fun e w'=>e = .returned (.tuple #[.pointer none,.int .i64 2])∧w'=w:=by
 rcases hn with hn | hn
 ·go_enter Tryz.func59,Tryz.ntmps59
  go_wp2
  go_ret2
  exact⟨rfl,rfl⟩
 ·have:¬ n<1:=by omega
  go_enter Tryz.func59,Tryz.ntmps59
  go_wp2
  go_ret2
  exact⟨rfl,rfl⟩
def Ck.part (m k:Nat):Array Value:=#[.int .i64 0,.int .i64 m,.int .i64 0,.bool false,.bool false,.bool false,.bool false,.bool (decide (0<k)),.bool (decide (1<k)),.bool (decide (2<k)),.bool (decide (3<k))]
theorem ph_new (m:Nat) (w:World) (h1:1≤m) (h4:m≤4):
 Calls Tryz.prog 59 #[.int .i64 m] w fun e w'=>e = .returned (.tuple #[.pointer (some ⟨w.heap.size,0,none⟩),.int .i64 0])∧Keeps (fun _=>False) w w'∧CkAt w' w.heap.size ⟨0,m,0,fun _=>false⟩:=by
 have hI1:¬ (m:Int)<1:=by omega
 have hI4:¬ 4<(m:Int):=by omega
 go_enter Tryz.func59,Tryz.ntmps59
 go_wp2_with fail
 go_loopw [16] (fun i wr=>∃ k:Nat,k≤m∧i = .int .i64 k∧wr.heap[w.heap.size]?=some (.cells (Ck.part m k) 173)∧Keeps (fun y=>w.heap.size≤y) w wr) (fun i _=>m - (intOf i).toNat)
 case atStart=>exact⟨0,Nat.zero_le _,rfl,alloc_new,(Keeps.refl _ _).alloc _⟩
 case round=>
  obtain⟨k,hk,rfl,hq,hkk⟩:=hrel
  have HK:=hid hkk
  by_cases hlt:k<m
  ·have HQ:=hid hq
   obtain⟨_,_,_,_,_,_,_,d7,d8,d9,d10,df,dl⟩:=cells11 hq
   have f7:=df 7;have f8:=df 8;have f9:=df 9;have f10:=df 10
   have hlt':(k:Int)<m:=by omega
   clear hq hkk df
   obtain rfl | rfl | rfl | rfl:k=0∨k=1∨k=2∨k=3:=by omega
   ·go_wp2_with fail
    exact⟨⟨1,by omega,rfl,set_block HQ.out 7 _,HK.out.setCell (p:=⟨_,_,none⟩) (.inl (Nat.le_refl _)) _⟩,by simp [intOf];omega⟩
   ·go_wp2_with fail
    exact⟨⟨2,by omega,rfl,set_block HQ.out 8 _,HK.out.setCell (p:=⟨_,_,none⟩) (.inl (Nat.le_refl _)) _⟩,by simp [intOf];omega⟩
   ·go_wp2_with fail
    exact⟨⟨3,by omega,rfl,set_block HQ.out 9 _,HK.out.setCell (p:=⟨_,_,none⟩) (.inl (Nat.le_refl _)) _⟩,by simp [intOf];omega⟩
   ·go_wp2_with fail
    exact⟨⟨4,by omega,rfl,set_block HQ.out 10 _,HK.out.setCell (p:=⟨_,_,none⟩) (.inl (Nat.le_refl _)) _⟩,by simp [intOf];omega⟩
  ·have hkm:k=m:=by omega
   subst hkm
   have HQ:=hid hq
   clear hq hkk
   go_wp2_with fail
   go_ret2
   exact⟨rfl,HK.out.fresh,HQ.out,h1,h4,by simp⟩
end Go.Proofs.YtnlkfbndlngjaaaGreat
namespace Go.Proofs.YtnlkfbndlngjaaaGreat
open Go.RowKit
theorem phPhase (b:Nat) (K:Ck) (w:World) (h:CkAt w b K):
 Calls Tryz.prog 87 #[.pointer (some ⟨b,0,none⟩)] w fun e w'=>e = .returned (.int .i64 K.ph)∧w'=w:=by
 obtain⟨d0,d1,d2,d3,d4,d5,d6,d7,d8,d9,d10,df,dl⟩:=cells11 h.own
 have hI:0<K.many:=h.m1
 clear h df
 go_enter Tryz.func87,Tryz.ntmps87
 go_wp2
 go_ret
 exact⟨rfl,rfl⟩
theorem phCycles (b:Nat) (K:Ck) (w:World) (h:CkAt w b K):
 Calls Tryz.prog 122 #[.pointer (some ⟨b,0,none⟩)] w fun e w'=>e = .returned (.int .i64 K.cy)∧w'=w:=by
 obtain⟨d0,d1,d2,d3,d4,d5,d6,d7,d8,d9,d10,df,dl⟩:=cells11 h.own
 have hI:0<K.many:=h.m1
 clear h df
 go_enter Tryz.func122,Tryz.ntmps122
 go_wp2
 go_ret
 exact⟨rfl,rfl⟩
theorem phBegin_bad (b:Nat) (K:Ck) (w:World) (h:CkAt w b K) (hp:K.ph≠0):
 Calls Tryz.prog 113 #[.pointer (some ⟨b,0,none⟩)] w fun e w'=>e = .returned (.int .i64 8)∧w'=w:=by
 obtain⟨d0,d1,d2,d3,d4,d5,d6,d7,d8,d9,d10,df,dl⟩:=cells11 h.own
 have hI:0<K.many:=h.m1
 have hz:(K.ph == 0)=false:=by simpa using hp
 clear h df
 go_enter Tryz.func113,Tryz.ntmps113
 go_wp2
 go_ret
 exact⟨rfl,rfl⟩
def Ck.to (K:Ck) (p:Nat):Ck:={ K with ph:=p,seen:=fun _=>false }
theorem ck_to (b p:Nat) (K:Ck) (w:World) (h:CkAt w b K) (hp:p≤5):Calls Tryz.prog 186 #[.pointer (some ⟨b,0,none⟩),.int .i64 p] w
 fun e w'=>e = .returned (.tuple #[])∧Keeps (fun y=>y=b) w w'∧CkAt w' b (K.to p):=by
 obtain⟨d0,d1,d2,d3,d4,d5,d6,d7,d8,d9,d10,df,dl⟩:=cells11 h.own
 have f0:=df 0;have f3:=df 3;have f4:=df 4;have f5:=df 5;have f6:=df 6
 have HO:=hid h
 clear h df
 go_enter Tryz.func186,Tryz.ntmps186
 go_wp2_with fail
 go_end0
 refine⟨rfl,?_,⟨?_,HO.out.m1,HO.out.m4,hp⟩⟩
 ·repeat (first | (with_reducible exact (Keeps.refl _ _)) | with_reducible refine Keeps.setCell ?_ ?_ _ | with_reducible refine Keeps.alloc ?_ _ | with_reducible refine Keeps.drewN ?_ _ | with_reducible refine Keeps.drew ?_)
  all_goals first | (left;simp;done) | (left;simp;omega) | (right;simp;done) | (right;simp;omega)
 ·exact (set_block (set_block (set_block (set_block (set_block HO.out.own 0 _) 3 _) 4 _) 5 _) 6 _).trans rfl
theorem phBegin_ok (b:Nat) (K:Ck) (w:World) (h:CkAt w b K) (hp:K.ph=0):
 Calls Tryz.prog 113 #[.pointer (some ⟨b,0,none⟩)] w fun e w'=>e = .returned (.int .i64 0)∧Keeps (fun y=>y=b) w w'∧CkAt w' b (K.to 1):=by
 obtain⟨d0,d1,d2,d3,d4,d5,d6,d7,d8,d9,d10,df,dl⟩:=cells11 h.own
 have hI:0<K.many:=h.m1
 have HT:=hid (ck_to b 1 K w h (by omega))
 rw [hp] at d0
 clear h df
 go_enter Tryz.func113,Tryz.ntmps113
 go_wp2_with (first | (go_at_call 186;refine HT.out.mono ?_;rintro e w1 ⟨rfl,hk,hc⟩) | go_in)
 go_ret
 exact⟨rfl,hk,hc⟩
theorem phAck_range (b:Nat) (K:Ck) (i:Int) (w:World) (h:CkAt w b K) (hi:i<0∨(K.many:Int)≤i):
 Calls Tryz.prog 114 #[.pointer (some ⟨b,0,none⟩),.int .i64 i] w fun e w'=>e = .returned (.tuple #[.bool false,.int .i64 3])∧w'=w:=by
 obtain⟨d0,d1,d2,d3,d4,d5,d6,d7,d8,d9,d10,df,dl⟩:=cells11 h.own
 have hI:0<K.many:=h.m1
 clear h df
 by_cases h0:i<0
 ·clear hi
  go_enter Tryz.func114,Tryz.ntmps114
  go_wp2
  go_ret2
  exact⟨rfl,rfl⟩
 ·have h1:(K.many:Int)≤i:=by omega
  clear hi
  go_enter Tryz.func114,Tryz.ntmps114
  go_wp2
  go_ret2
  exact⟨rfl,rfl⟩
theorem phAck_state (b:Nat) (K:Ck) (i:Nat) (w:World) (h:CkAt w b K) (hi:i<K.many) (h1:K.ph≠1) (h2:K.ph≠2):
 Calls Tryz.prog 114 #[.pointer (some ⟨b,0,none⟩),.int .i64 i] w fun e w'=>e = .returned (.tuple #[.bool false,.int .i64 8])∧w'=w:=by
 obtain⟨d0,d1,d2,d3,d4,d5,d6,d7,d8,d9,d10,df,dl⟩:=cells11 h.own
 have hI:0<K.many:=h.m1
 have e1:((K.ph:Int) == 1)=false:=by simp;omega
 have e2:((K.ph:Int) == 2)=false:=by simp;omega
 have hn:decide (K.many≤i)=false:=by simp;omega
 have hn0:decide ((i:Int)<0)=false:=by simp
 clear h df
 go_enter Tryz.func114,Tryz.ntmps114
 go_wp2
 go_ret2
 exact⟨rfl,rfl⟩
def Ck.ack (K:Ck) (m:Nat):Ck:={ K with seen:=updf K.seen m true }
theorem phAck_ok (b:Nat) (K:Ck) (i:Nat) (w:World) (h:CkAt w b K) (hi:i<K.many) (hp:K.ph=1∨K.ph=2):
 Calls Tryz.prog 114 #[.pointer (some ⟨b,0,none⟩),.int .i64 i] w fun e w'=>e = .returned (.tuple #[.bool (!K.seen i),.int .i64 0])∧Keeps (fun y=>y=b) w w'∧CkAt w' b (K.ack i):=by
 obtain⟨d0,d1,d2,d3,d4,d5,d6,d7,d8,d9,d10,df,dl⟩:=cells11 h.own
 have hI:0<K.many:=h.m1
 have hm4:=h.m4
 have hn:decide (K.many≤i)=false:=by simp;omega
 have f3:=df 3;have f4:=df 4;have f5:=df 5;have f6:=df 6
 have HO:=hid h
 clear h df
 rcases hp with hp | hp
 all_goals
  rw [hp] at d0
  clear hp
  obtain rfl | rfl | rfl | rfl:i=0∨i=1∨i=2∨i=3:=by omega
  ·go_enter Tryz.func114,Tryz.ntmps114
   go_wp2
   go_ret2
   exact⟨rfl,keeps_set1 _ _ _ _,(set_block HO.out.own 3 _).trans rfl,HO.out.m1,HO.out.m4,HO.out.p5⟩
  ·go_enter Tryz.func114,Tryz.ntmps114
   go_wp2
   go_ret2
   exact⟨rfl,keeps_set1 _ _ _ _,(set_block HO.out.own 4 _).trans rfl,HO.out.m1,HO.out.m4,HO.out.p5⟩
  ·go_enter Tryz.func114,Tryz.ntmps114
   go_wp2
   go_ret2
   exact⟨rfl,keeps_set1 _ _ _ _,(set_block HO.out.own 5 _).trans rfl,HO.out.m1,HO.out.m4,HO.out.p5⟩
  ·go_enter Tryz.func114,Tryz.ntmps114
   go_wp2
   go_ret2
   exact⟨rfl,keeps_set1 _ _ _ _,(set_block HO.out.own 6 _).trans rfl,HO.out.m1,HO.out.m4,HO.out.p5⟩
end Go.Proofs.YtnlkfbndlngjaaaGreat
namespace Go.Proofs.YtnlkfbndlngjaaaGreat
open Go.RowKit
def Ck.ready (K:Ck):Bool:=(K.ph == 1 || K.ph == 2) && K.all
theorem ph_valid (b:Nat) (K:Ck) (w:World) (h:CkAt w b K):
 Calls Tryz.prog 98 #[.pointer (some ⟨b,0,none⟩)] w fun e w'=>e = .returned (.bool true)∧w'=w:=by
 obtain⟨d0,d1,d2,d3,d4,d5,d6,d7,d8,d9,d10,df,dl⟩:=cells11 h.own
 have hI:0<K.many:=h.m1
 clear h df
 go_enter Tryz.func98,Tryz.ntmps98
 go_wp2
 go_ret
 exact⟨by simp,rfl⟩
theorem ph_shakes (b:Nat) (K:Ck) (w:World) (h:CkAt w b K):
 Calls Tryz.prog 188 #[.pointer (some ⟨b,0,none⟩)] w fun e w'=>e = .returned (.bool (K.ph == 1 || K.ph == 2))∧w'=w:=by
 obtain⟨d0,d1,d2,d3,d4,d5,d6,d7,d8,d9,d10,df,dl⟩:=cells11 h.own
 clear h df
 go_enter Tryz.func188,Tryz.ntmps188
 go_wp2
 all_goals
  go_ret
  refine⟨ret_bool ?_,rfl⟩
  rw [Bool.eq_iff_iff]
  simp
  omega
theorem phReady (b:Nat) (K:Ck) (w:World) (h:CkAt w b K):
 Calls Tryz.prog 192 #[.pointer (some ⟨b,0,none⟩)] w fun e w'=>e = .returned (.bool K.ready)∧Keeps (fun _=>False) w w':=by
 obtain⟨d0,d1,d2,d3,d4,d5,d6,d7,d8,d9,d10,df,dl⟩:=cells11 h.own
 have HO:=hid h
 have HA:=hid (show K.all=((K.seen 0 == decide (0<K.many)) && (K.seen 1 == decide (1<K.many)) && (K.seen 2 == decide (2<K.many)) && (K.seen 3 == decide (3<K.many))) from rfl)
 generalize decide (0<K.many)=e0 at d7 HA
 generalize decide (1<K.many)=e1 at d8 HA
 generalize decide (2<K.many)=e2 at d9 HA
 generalize decide (3<K.many)=e3 at d10 HA
 generalize K.seen 0=s0 at d3 HA
 generalize K.seen 1=s1 at d4 HA
 generalize K.seen 2=s2 at d5 HA
 generalize K.seen 3=s3 at d6 HA
 have hq:=fun w=>eq_set s0 s1 s2 s3 e0 e1 e2 e3 w
 clear h df
 rw [← HA.out] at hq
 have hz:∀ n,CkAt (w.drewN n) b K:=fun n=>HO.out.keeps ((Keeps.refl (fun _=>False) w).drewN n) (fun h=>h)
 rcases hs:(K.ph == 1 || K.ph == 2) with _ | _
 ·have HS:=hid (fun n=>ph_shakes b K _ (hz n))
  rw [hs] at HS
  have HR:=hid (show K.ready=false by simp [Ck.ready,hs])
  clear hs
  go_enter Tryz.func192,Tryz.ntmps192
  go_wp2_with fail
  go_quiet (first | (go_at_call 98;refine (ph_valid b K _ (hz _)).mono ?_;rintro e w' ⟨rfl,rfl⟩;exact⟨rfl,_,rfl⟩) | (go_at_call 188;refine (HS.out _).mono ?_;rintro e w' ⟨rfl,rfl⟩;exact⟨rfl,_,rfl⟩))
  go_wp2_with fail
  go_ret
  exact⟨ret_bool HR.out.symm,(by repeat (first | exact Keeps.refl _ _ | apply Keeps.alloc | apply Keeps.drewN | apply Keeps.drew))⟩
 ·have HS:=hid (fun n=>ph_shakes b K _ (hz n))
  rw [hs] at HS
  have HR:=hid (show K.ready=K.all by simp only [Ck.ready,hs,Bool.true_and])
  clear hs
  go_enter Tryz.func192,Tryz.ntmps192
  go_wp2_with fail
  go_quiet (first | (go_at_call 98;refine (ph_valid b K _ (hz _)).mono ?_;rintro e w' ⟨rfl,rfl⟩;exact⟨rfl,_,rfl⟩) | (go_at_call 188;refine (HS.out _).mono ?_;rintro e w' ⟨rfl,rfl⟩;exact⟨rfl,_,rfl⟩))
  go_wp2_with fail
  go_ret
  exact⟨ret_bool HR.out.symm,(by repeat (first | exact Keeps.refl _ _ | apply Keeps.alloc | apply Keeps.drewN | apply Keeps.drew))⟩
def Ck.go (K:Ck):Ck:=⟨(K.ph+1) % 6,K.many,if K.ph=5 then K.cy+1 else K.cy,fun _=>false⟩
theorem phGo_ok (b:Nat) (K:Ck) (w:World) (h:CkAt w b K) (hp:K.ph≠0) (hr:K.ph=1∨K.ph=2→K.all=true) (hcy:K.cy<4611686018427387904):
 Calls Tryz.prog 117 #[.pointer (some ⟨b,0,none⟩)] w fun e w'=>e = .returned (.int .i64 0)∧Keeps (fun y=>y=b) w w'∧CkAt w' b K.go:=by
 obtain⟨d0,d1,d2,d3,d4,d5,d6,d7,d8,d9,d10,df,dl⟩:=cells11 h.own
 have hI:0<K.many:=h.m1
 have f2:=df 2
 have HR:=hid (phReady b K w h)
 have HO:=hid h
 have hrr:K.ph=1∨K.ph=2→K.ready=true:=fun h'=>by simp [Ck.ready,hr h'];omega
 have hrf:¬ (K.ph=1∨K.ph=2)→K.ready=false:=fun h'=>by simp [Ck.ready];intro h;omega
 have p5:=h.p5
 clear h df hr
 obtain hq | hq | hq | hq | hq:K.ph=1∨K.ph=2∨K.ph=3∨K.ph=4∨K.ph=5:=by omega
 ·rw [hrr (.inl hq)] at HR
  rw [hq] at d0
  have HT:=hid (fun (w':World) (hk:Keeps (fun _=>False) w w')=>ck_to b 2 K w' (HO.out.keeps hk (fun h=>h)) (by omega))
  have HG:=hid (show K.go=K.to 2 by simp [Ck.go,Ck.to,hq])
  have HQ:=hid hq
  clear hrr hrf hq hp p5
  go_enter Tryz.func117,Tryz.ntmps117
  go_wp2_with (first | (go_at_call 192;refine HR.out.mono ?_;rintro e w1 ⟨rfl,hk1⟩;obtain⟨c0,c1,c2,c3,c4,c5,c6,c7,c8,c9,c10,cf,cl⟩:=cells11 (HO.out.keeps hk1 (fun h=>h)).own;rw [HQ.out] at c0;clear cf) | (go_at_call 186;refine (HT.out _ (by first | exact hk1 | exact Keeps.refl _ _)).mono ?_;rintro e w2 ⟨rfl,hk2,hc2⟩) | go_in)
  go_ret
  rw [HG.out]
  exact⟨rfl,hk1.up.trans hk2,hc2⟩
 ·rw [hrr (.inr hq)] at HR
  rw [hq] at d0
  have HT:=hid (fun (w':World) (hk:Keeps (fun _=>False) w w')=>ck_to b 3 K w' (HO.out.keeps hk (fun h=>h)) (by omega))
  have HG:=hid (show K.go=K.to 3 by simp [Ck.go,Ck.to,hq])
  have HQ:=hid hq
  clear hrr hrf hq hp p5
  go_enter Tryz.func117,Tryz.ntmps117
  go_wp2_with (first | (go_at_call 192;refine HR.out.mono ?_;rintro e w1 ⟨rfl,hk1⟩;obtain⟨c0,c1,c2,c3,c4,c5,c6,c7,c8,c9,c10,cf,cl⟩:=cells11 (HO.out.keeps hk1 (fun h=>h)).own;rw [HQ.out] at c0;clear cf) | (go_at_call 186;refine (HT.out _ (by first | exact hk1 | exact Keeps.refl _ _)).mono ?_;rintro e w2 ⟨rfl,hk2,hc2⟩) | go_in)
  go_ret
  rw [HG.out]
  exact⟨rfl,hk1.up.trans hk2,hc2⟩
 ·rw [hrf (by omega)] at HR
  rw [hq] at d0
  have HT:=hid (fun (w':World) (hk:Keeps (fun _=>False) w w')=>ck_to b 4 K w' (HO.out.keeps hk (fun h=>h)) (by omega))
  have HG:=hid (show K.go=K.to 4 by simp [Ck.go,Ck.to,hq])
  have HQ:=hid hq
  clear hrr hrf hq hp p5
  go_enter Tryz.func117,Tryz.ntmps117
  go_wp2_with (first | (go_at_call 192;refine HR.out.mono ?_;rintro e w1 ⟨rfl,hk1⟩;obtain⟨c0,c1,c2,c3,c4,c5,c6,c7,c8,c9,c10,cf,cl⟩:=cells11 (HO.out.keeps hk1 (fun h=>h)).own;rw [HQ.out] at c0;clear cf) | (go_at_call 186;refine (HT.out _ (by first | exact hk1 | exact Keeps.refl _ _)).mono ?_;rintro e w2 ⟨rfl,hk2,hc2⟩) | go_in)
  go_ret
  rw [HG.out]
  exact⟨rfl,hk2,hc2⟩
 ·rw [hrf (by omega)] at HR
  rw [hq] at d0
  have HT:=hid (fun (w':World) (hk:Keeps (fun _=>False) w w')=>ck_to b 5 K w' (HO.out.keeps hk (fun h=>h)) (by omega))
  have HG:=hid (show K.go=K.to 5 by simp [Ck.go,Ck.to,hq])
  have HQ:=hid hq
  clear hrr hrf hq hp p5
  go_enter Tryz.func117,Tryz.ntmps117
  go_wp2_with (first | (go_at_call 192;refine HR.out.mono ?_;rintro e w1 ⟨rfl,hk1⟩;obtain⟨c0,c1,c2,c3,c4,c5,c6,c7,c8,c9,c10,cf,cl⟩:=cells11 (HO.out.keeps hk1 (fun h=>h)).own;rw [HQ.out] at c0;clear cf) | (go_at_call 186;refine (HT.out _ (by first | exact hk1 | exact Keeps.refl _ _)).mono ?_;rintro e w2 ⟨rfl,hk2,hc2⟩) | go_in)
  go_ret
  rw [HG.out]
  exact⟨rfl,hk2,hc2⟩
 ·rw [hrf (by omega)] at HR
  rw [hq] at d0
  have hw:IntKind.i64.wrap ((K.cy:Int)+1)=(K.cy:Int)+1:=IntWalk.i64_in _ (by omega)
  have HT:=hid (fun (w':World) (hk:Keeps (fun _=>False) (w.setCell ⟨b,2,none⟩ (.int .i64 ((K.cy:Int)+1))) w')=>ck_to b 0 { K with cy:=K.cy+1 } w'
   (CkAt.keeps ⟨(set_block HO.out.own 2 _).trans rfl,HO.out.m1,HO.out.m4,HO.out.p5⟩ hk (fun h=>h)) (by omega))
  have HG:=hid (show K.go=Ck.to { K with cy:=K.cy+1 } 0 by simp [Ck.go,Ck.to,hq])
  have HQ:=hid hq
  clear hrr hrf hq hp p5
  go_enter Tryz.func117,Tryz.ntmps117
  go_wp2_with (first | (go_at_call 192;refine HR.out.mono ?_;rintro e w1 ⟨rfl,hk1⟩;obtain⟨c0,c1,c2,c3,c4,c5,c6,c7,c8,c9,c10,cf,cl⟩:=cells11 (HO.out.keeps hk1 (fun h=>h)).own;rw [HQ.out] at c0;clear cf) | (go_at_call 186;refine (HT.out _ (Keeps.refl _ _)).mono ?_;rintro e w2 ⟨rfl,hk2,hc2⟩) | go_in)
  go_ret
  rw [HG.out]
  exact⟨rfl,(keeps_set1 _ _ _ _).trans hk2,hc2⟩
def Ck.bar (K:Ck) (m:Nat):Bool:=if K.ph=1 then K.seen m else decide (K.ph=2∨K.ph=3)
theorem phBarrier (b:Nat) (K:Ck) (i:Nat) (w:World) (h:CkAt w b K) (hi:i<K.many):
 Calls Tryz.prog 150 #[.pointer (some ⟨b,0,none⟩),.int .i64 i] w fun e w'=>e = .returned (.bool (K.bar i))∧w'=w:=by
 obtain⟨d0,d1,d2,d3,d4,d5,d6,d7,d8,d9,d10,df,dl⟩:=cells11 h.own
 have hI:0<K.many:=h.m1
 have hm4:=h.m4
 have hn:decide (K.many≤i)=false:=by simp;omega
 clear h df
 by_cases h1:K.ph=1
 ·have HB:=hid (show K.bar i=K.seen i by rw [Ck.bar,if_pos h1])
  rw [h1] at d0
  clear h1
  obtain rfl | rfl | rfl | rfl:i=0∨i=1∨i=2∨i=3:=by omega
  all_goals
   go_enter Tryz.func150,Tryz.ntmps150
   go_wp2
   go_ret
   exact⟨ret_bool HB.out.symm,rfl⟩
 ·have HB:=hid (show K.bar i=decide (K.ph=2∨K.ph=3) by rw [Ck.bar,if_neg h1])
  have e1:((K.ph:Int) == 1)=false:=by simp;omega
  have hn0:decide ((i:Int)<0)=false:=by simp
  by_cases h2:K.ph=2
  ·rw [h2] at d0
   have HC:=hid (show K.bar i=true by rw [HB.out];simp [h2])
   clear h1 h2 e1
   go_enter Tryz.func150,Tryz.ntmps150
   go_wp2
   go_ret
   exact⟨ret_bool HC.out.symm,rfl⟩
  ·by_cases h3:K.ph=3
   ·rw [h3] at d0
    have HC:=hid (show K.bar i=true by rw [HB.out];simp [h3])
    clear h1 h2 h3 e1
    go_enter Tryz.func150,Tryz.ntmps150
    go_wp2
    go_ret
    exact⟨ret_bool HC.out.symm,rfl⟩
   ·have e2:((K.ph:Int) == 2)=false:=by simp;omega
    have e3:((K.ph:Int) == 3)=false:=by simp;omega
    have HC:=hid (show K.bar i=false by rw [HB.out];simp [h2,h3])
    clear h1 h2 h3
    go_enter Tryz.func150,Tryz.ntmps150
    go_wp2
    go_ret
    exact⟨ret_bool HC.out.symm,rfl⟩
end Go.Proofs.YtnlkfbndlngjaaaGreat
