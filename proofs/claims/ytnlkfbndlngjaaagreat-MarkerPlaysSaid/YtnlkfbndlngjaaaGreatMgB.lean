import Derived.Test.YtnlkfbndlngjaaaGreatMgA
import Derived.Deep.WholeRow
import Derived.TacticsInMore
import Derived.LoopNIn
import Derived.LoopIn
import Derived.OwnWalkIn
import Derived.Shelf.Abstract
set_option maxHeartbeats 4000000
set_option maxRecDepth 100000
namespace Go.Proofs.YtnlkfbndlngjaaaGreat
open Go.RowKit
structure Tb where
 n:Nat
 st:Nat→Int
 gn:Nat→Int
def upd (f:Nat→Int) (i:Nat) (x:Int):Nat→Int:=fun j=>if j=i then x else f j
def Tb.put (T:Tb) (i:Nat) (s g:Int):Tb:={ T with st:=upd T.st i s,gn:=upd T.gn i g }
structure TbC (c:Array Value) (T:Tb):Prop where
 size:c.size=513
 head:c[0]?=some (.int .i64 T.n)
 st:∀ i,i<256→c[1+i * 2]?=some (.int .i64 (T.st i))
 gn:∀ i,i<256→c[1+i * 2+1]?=some (.int .u32 (T.gn i))
 n1:1≤T.n
 n2:T.n≤256
 g0:∀ i,i<256→0≤T.gn i
 g1:∀ i,i<256→T.gn i≤4294967295
theorem TbC.one {c:Array Value} {T:Tb} (h:TbC c T):c.all (·.oneCell')=true:=by
 rw [Array.all_eq_true]
 intro i hi
 rw [h.size] at hi
 have key:∃ k x,c[i]?=some (.int k x):=by
  by_cases h0:i=0
  ·subst h0;exact⟨_,_,h.head⟩
  ·by_cases hp:i % 2=1
   ·obtain⟨j,rfl⟩:∃ j,i=1+j * 2:=⟨i / 2,by omega⟩
    exact⟨_,_,h.st j (by omega)⟩
   ·obtain⟨j,rfl⟩:∃ j,i=1+j * 2+1:=⟨i / 2 - 1,by omega⟩
    exact⟨_,_,h.gn j (by omega)⟩
 obtain⟨k,x,hx⟩:=key
 obtain⟨_,hx'⟩:=Array.getElem?_eq_some_iff.1 hx
 rw [hx'];rfl
theorem TbC.put {c:Array Value} {T:Tb} (h:TbC c T) {i:Nat} (hi:i<256) {s g:Int} (g0:0≤g) (g1:g≤4294967295):
 TbC ((c.setIfInBounds (1+i * 2) (.int .i64 s)).setIfInBounds (1+i * 2+1) (.int .u32 g)) (T.put i s g):=by
 have hs:=h.size
 refine⟨by simpa using h.size,?_,?_,?_,h.n1,h.n2,?_,?_⟩
 ·rw [Array.getElem?_setIfInBounds_ne (by omega),Array.getElem?_setIfInBounds_ne (by omega)];exact h.head
 ·intro j hj
  rw [Array.getElem?_setIfInBounds_ne (by omega)]
  by_cases e:j=i
  ·subst e
   rw [Array.getElem?_setIfInBounds_self_of_lt (by omega)]
   simp [Tb.put,upd]
  ·rw [Array.getElem?_setIfInBounds_ne (by omega),h.st j hj]
   simp [Tb.put,upd,e]
 ·intro j hj
  by_cases e:j=i
  ·subst e
   rw [Array.getElem?_setIfInBounds_self_of_lt (by simp;omega)]
   simp [Tb.put,upd]
  ·rw [Array.getElem?_setIfInBounds_ne (by omega),Array.getElem?_setIfInBounds_ne (by omega),h.gn j hj]
   simp [Tb.put,upd,e]
 ·intro j hj
  simp only [Tb.put,upd]
  split
  ·exact g0
  ·exact h.g0 j hj
 ·intro j hj
  simp only [Tb.put,upd]
  split
  ·exact g1
  ·exact h.g1 j hj
theorem TbC.putSt {c:Array Value} {T:Tb} (h:TbC c T) {i:Nat} (hi:i<256) {s:Int}:
 TbC (c.setIfInBounds (1+i * 2) (.int .i64 s)) (T.put i s (T.gn i)):=by
 have h2:=h.put (s:=s) hi (h.g0 i hi) (h.g1 i hi)
 have e:(c.setIfInBounds (1+i * 2) (.int .i64 s)).setIfInBounds (1+i * 2+1) (.int .u32 (T.gn i))=c.setIfInBounds (1+i * 2) (.int .i64 s):=by
  apply Array.ext_getElem?
  intro k
  by_cases hk:1+i * 2+1=k
  ·subst hk
   rw [Array.getElem?_setIfInBounds_self_of_lt (by simp;have:=h.size;omega),Array.getElem?_setIfInBounds_ne (by omega),h.gn i hi]
  ·rw [Array.getElem?_setIfInBounds_ne hk]
 rwa [e] at h2
def TbAt (w:World) (b:Nat) (T:Tb):Prop:=∃ c,w.heap[b]?=some (.cells c 244)∧TbC c T
theorem TbAt.lt {w:World} {b:Nat} {T:Tb} (h:TbAt w b T):b<w.heap.size:=by obtain⟨c,h,_⟩:=h;exact lt_block h
theorem TbAt.keeps {w w':World} {b:Nat} {T:Tb} {S:Nat→Prop} (h:TbAt w b T) (hk:Keeps S w w') (hS:¬ S b):TbAt w' b T:=by
 obtain⟨c,h,hc⟩:=h;exact⟨c,block_keep h hk hS,hc⟩
theorem TbAt.head {w:World} {b:Nat} {T:Tb} (h:TbAt w b T):w.cell? ⟨b,0,none⟩=some (.int .i64 T.n):=by
 obtain⟨c,h,hc⟩:=h;exact cell_at h hc.head
theorem TbAt.st {w:World} {b:Nat} {T:Tb} (h:TbAt w b T) {i:Nat} (hi:i<256):w.cell? ⟨b,1+i * 2,none⟩=some (.int .i64 (T.st i)):=by
 obtain⟨c,h,hc⟩:=h;exact cell_at h (hc.st i hi)
theorem TbAt.gn {w:World} {b:Nat} {T:Tb} (h:TbAt w b T) {i:Nat} (hi:i<256):w.cell? ⟨b,1+i * 2+1,none⟩=some (.int .u32 (T.gn i)):=by
 obtain⟨c,h,hc⟩:=h;exact cell_at h (hc.gn i hi)
theorem TbAt.n12 {w:World} {b:Nat} {T:Tb} (h:TbAt w b T):1≤T.n∧T.n≤256:=by obtain⟨c,h,hc⟩:=h;exact⟨hc.n1,hc.n2⟩
theorem gcheck_ok (g:Int) (w:World) (h:1≤g) (h1:g≤4294967295):
 Calls Tryz.prog 194 #[.int .u32 g] w fun e w'=>e = .returned (.int .i64 0)∧w'=w:=by
 go_enter Tryz.func194,Tryz.ntmps194
 go_wp2
 go_ret
 exact⟨rfl,rfl⟩
theorem gcheck_bad (w:World):Calls Tryz.prog 194 #[.int .u32 0] w fun e w'=>e = .returned (.int .i64 2)∧w'=w:=by
 go_enter Tryz.func194,Tryz.ntmps194
 go_wp2
 go_ret
 exact⟨rfl,rfl⟩
theorem svalid_any (b:Nat) (n:Int) (w:World) (hc:w.cell? ⟨b,0,none⟩=some (.int .i64 n)) (hn:0<n):
 Calls Tryz.prog 175 #[.pointer (some ⟨b,0,none⟩)] w fun e w'=>e = .returned (.bool true)∧w'=w:=by
 go_enter Tryz.func175,Tryz.ntmps175
 go_wp2
 go_ret
 exact⟨rfl,rfl⟩
theorem TbAt.valid {w:World} {b:Nat} {T:Tb} (h:TbAt w b T):
 Calls Tryz.prog 175 #[.pointer (some ⟨b,0,none⟩)] w fun e w'=>e = .returned (.bool true)∧w'=w:=
 svalid_any b T.n w h.head (by have:=h.n12;omega)
theorem scopy_ok (b:Nat) (T:Tb) (w:World) (h:TbAt w b T):
 Calls Tryz.prog 96 #[.pointer (some ⟨b,0,none⟩)] w fun e w'=>e = .returned (.pointer (some ⟨w.heap.size,0,none⟩))∧Keeps (fun _=>False) w w'∧TbAt w' w.heap.size T:=by
 obtain⟨c,hb,hc⟩:=id h
 have hs:=hc.size
 have HB:=hid hb;clear hb
 have HI:=hid (show (Tryz.prog.info? 244).map (·.size)=some c.size by rw [hs];kernel_rfl)
 have hst:∀ w':World,Sem.run Tryz.prog (storeCells ⟨w'.heap.size,0,none⟩ c.toList) (w'.alloc (.cells Tryz.zeroCells244 244)) = .ok () (w'.alloc (.cells c 244)):=
  fun w'=>run_storeCells_new w' _ _ c HI.out (by rw [Tryz.zeroCells244_size,hs]) hc.one
 have HC:=hid hc;clear hc
 have HS:=hid hs;clear hs
 have HV:=hid h.valid;clear h
 go_enter Tryz.func96,Tryz.ntmps96
 go_wp2_with fail
 refine HV.out.mono ?_
 rintro e w' ⟨rfl,h'⟩
 obtain rfl:=h'.symm
 go_wp2_with (with_reducible refine wpList_load_row rfl _ _ rfl b rfl _ c _ _ HB.out Tryz.underlying244 rfl HI.out ?_)
 go_ret
 exact⟨rfl,(Keeps.refl _ _).alloc _,c,alloc_new,HC.out⟩
def ckV (T:Tb) (s g:Int):Int:=if s<0∨(T.n:Int)≤s then 3 else if T.st s.toNat=1∧T.gn s.toNat=g then 0 else 7
theorem scheck_ok (b:Nat) (T:Tb) (s g:Int) (w:World) (h:TbAt w b T):
 Calls Tryz.prog 240 #[.pointer (some ⟨b,0,none⟩),.agg #[.int .i64 s,.int .u32 g]] w fun e w'=>e = .returned (.int .i64 (ckV T s g))∧Keeps (fun _=>False) w w':=by
 have hn:=h.n12
 have h0:=h.head
 have hl:=h.lt
 have HV:=hid (fun o=>(h.keeps (S:=fun _=>False) ((Keeps.refl _ _).alloc o) (fun h=>h)).valid)
 by_cases h1:s<0
 ·clear h
  have h1':decide (s<0)=true:=by simpa using h1
  go_enter Tryz.func240,Tryz.ntmps240
  go_wp2_with fail
  refine (HV.out _).mono ?_
  rintro e w' ⟨rfl,h'⟩
  obtain rfl:=h'.symm
  go_wp2_with fail
  go_quiet (fail)
  go_wp2
  go_ret
  exact⟨ret_int (by rw [ckV,if_pos (by omega)]),(by repeat (first | exact Keeps.refl _ _ | apply Keeps.drewN | apply Keeps.alloc))⟩
 by_cases h2:(T.n:Int)≤s
 ·clear h
  go_enter Tryz.func240,Tryz.ntmps240
  go_wp2_with fail
  refine (HV.out _).mono ?_
  rintro e w' ⟨rfl,h'⟩
  obtain rfl:=h'.symm
  have hd:decide (s<0)=false:=by simpa using h1
  go_wp2_with fail
  go_quiet (fail)
  go_wp2
  go_ret
  exact⟨ret_int (by rw [ckV,if_pos (by omega)]),(by repeat (first | exact Keeps.refl _ _ | apply Keeps.drewN | apply Keeps.alloc))⟩
 ·obtain⟨i,rfl⟩:∃ i:Nat,s=i:=⟨s.toNat,by omega⟩
  have hi:i<256:=by omega
  have hs:=h.st hi
  have hg:=h.gn hi
  have hi1:(i:Int)<256:=by omega
  have hi0:(0:Int)≤(i:Int):=by omega
  have hd:decide ((i:Int)<0)=false:=by simp
  have hd2:decide ((T.n:Int)≤(i:Int))=false:=by simp;omega
  have HG:=hid (show ckV T i g=if T.st i=1∧T.gn i=g then 0 else 7 by rw [ckV,if_neg (by omega)];rfl)
  clear h
  rcases e1:(T.st i == 1) with _ | _
  ·go_enter Tryz.func240,Tryz.ntmps240
   go_wp2_with fail
   refine (HV.out _).mono ?_
   rintro e w' ⟨rfl,h'⟩
   obtain rfl:=h'.symm
   go_wp2_with fail
   go_quiet (fail)
   go_wp2_with fail
   go_quiet (fail)
   go_wp2
   go_ret
   exact⟨ret_int (by rw [HG.out,if_neg (by intro h;simp [h.1] at e1)]),(by repeat (first | exact Keeps.refl _ _ | apply Keeps.drewN | apply Keeps.alloc))⟩
  ·rcases e2:(T.gn i == g) with _ | _
   ·go_enter Tryz.func240,Tryz.ntmps240
    go_wp2_with fail
    refine (HV.out _).mono ?_
    rintro e w' ⟨rfl,h'⟩
    obtain rfl:=h'.symm
    go_wp2_with fail
    go_quiet (fail)
    go_wp2_with fail
    go_quiet (fail)
    go_wp2
    go_ret
    exact⟨ret_int (by rw [HG.out,if_neg (by intro h;simp [h.2] at e2)]),(by repeat (first | exact Keeps.refl _ _ | apply Keeps.drewN | apply Keeps.alloc))⟩
   ·go_enter Tryz.func240,Tryz.ntmps240
    go_wp2_with fail
    refine (HV.out _).mono ?_
    rintro e w' ⟨rfl,h'⟩
    obtain rfl:=h'.symm
    go_wp2_with fail
    go_quiet (fail)
    go_wp2_with fail
    go_quiet (fail)
    go_wp2
    go_ret
    exact⟨ret_int (by rw [HG.out,if_pos ⟨by simpa using e1,by simpa using e2⟩]),(by repeat (first | exact Keeps.refl _ _ | apply Keeps.drewN | apply Keeps.alloc))⟩
end Go.Proofs.YtnlkfbndlngjaaaGreat
namespace Go.Proofs.YtnlkfbndlngjaaaGreat
open Go.RowKit
attribute [local go_sem] Oper.semAt_some
def Tb.inn (T:Tb) (s:Int):Nat→List (Nat × Int)
 | 0=>[]
 | k+1=>T.inn s k ++ (if T.st k=s then [(k,T.gn k)] else [])
theorem Tb.inn_yes {T:Tb} {s:Int} {k:Nat} (h:T.st k=s):T.inn s (k+1)=T.inn s k ++ [(k,T.gn k)]:=by simp [Tb.inn,h]
theorem Tb.inn_no {T:Tb} {s:Int} {k:Nat} (h:T.st k≠s):T.inn s (k+1)=T.inn s k:=by simp [Tb.inn,h]
theorem Tb.inn_pre {T:Tb} {s:Int} (k n:Nat) (h:k≤n):∃ suf,T.inn s n=T.inn s k ++ suf:=by
 induction n with
 | zero=>obtain rfl:k=0:=by omega
         exact⟨[],by simp⟩
 | succ n ih=>
  by_cases e:k=n+1
  ·subst e;exact⟨[],by simp⟩
  ·obtain⟨suf,hs⟩:=ih (by omega)
   exact⟨suf ++ (if T.st n=s then [(n,T.gn n)] else []),by simp [Tb.inn,hs]⟩
theorem Tb.inn_split {T:Tb} {s:Int} {k n:Nat} (h:k<n) (hs:T.st k=s):∃ suf,T.inn s n=T.inn s k ++ (k,T.gn k) :: suf:=by
 obtain⟨suf,h'⟩:=Tb.inn_pre (T:=T) (s:=s) (k+1) n h
 exact⟨suf,by rw [h',Tb.inn_yes hs];simp⟩
theorem Tb.inn_mem {T:Tb} {s:Int} {k i:Nat} {g:Int} (h:(i,g)∈T.inn s k):T.st i=s∧T.gn i=g∧i<k:=by
 induction k with
 | zero=>simp [Tb.inn] at h
 | succ k ih=>
  simp only [Tb.inn,List.mem_append] at h
  rcases h with h | h
  ·obtain⟨a,b,c⟩:=ih h;exact⟨a,b,by omega⟩
  ·split at h
   ·rename_i hs;simp at h;obtain⟨rfl,rfl⟩:=h;exact⟨hs,rfl,by omega⟩
   ·simp at h
def encSl (x:Nat × Int):Array Value:=#[.int .i64 x.1,.int .u32 x.2]
theorem sin_gives (b B1 B2:Nat) (T:Tb) (s:Int):
 Gives Tryz.prog 176 #[.pointer (some ⟨B1,0,none⟩),.pointer (some ⟨B2,0,none⟩)] encSl (T.inn s T.n)
  (fun W=>W.cell? ⟨B1,0,none⟩=some (.pointer (some ⟨b,0,none⟩))∧W.cell? ⟨B2,0,none⟩=some (.int .i64 s)∧TbAt W b T) (fun _=>False):=by
 intro l J Jx W hJ hJx hRd hY h0
 have hr:=hRd _ _ h0
 obtain⟨c1,c2,ht⟩:=hr
 have hn:=ht.n12
 have hh:=ht.head
 have HV:=hid ht.valid
 clear ht
 have HJ:=hid hJ;have HR:=hid hRd;have HY:=hid hY;have H0:=hid h0
 clear hJ hRd hY h0
 refine (callsIn_wide (n:=0)).1 ?_
 refine callsIn_of_wp Tryz.func176 rfl trivial ?_ rfl
 simp only [Tryz.ntmps176,List.size_toArray,List.length_cons,List.length_nil,Nat.reduceAdd,Nat.reduceSub,Array.replicate_succ,Array.replicate_zero,List.push_toArray,List.append_toArray,List.nil_append,List.cons_append]
 gi_wp2_with fail
 refine⟨trivial,rfl,callsIn_wide.2 (HV.out.mono ?_)⟩
 rintro e w' ⟨rfl,h'⟩
 obtain rfl:=h'.symm
 gi_wp2_with fail
 refine wpIn_wide.2 ?_
 have hn0:(0:Int)≤T.n:=by omega
 have hn1:(T.n:Int)≤256:=by omega
 go_quiet (fail)
 go_wp2_with fail
 gi_wp2_with fail
 gi_loopw [18] (fun i wr=>∃ k:Nat,k≤T.n∧i = .int .i64 k∧J (T.inn s k) wr) (fun i _=>T.n - (intOf i).toNat)
 case atStart=>exact⟨0,Nat.zero_le _,rfl,HJ.out _ _ _ H0.out ((Keeps.refl _ _).drewN _)⟩
 case round=>
  obtain⟨k,hk,rfl,hj⟩:=hrel
  clear c1 c2 hh HV H0
  by_cases hlt:k<T.n
  ·obtain⟨c1,c2,ht⟩:=HR.out _ _ hj
   have hlt':(k:Int)<(T.n:Int):=by omega
   have h1:=ht.st (i:=k) (by omega)
   have h2:=ht.gn (i:=k) (by omega)
   have hl:=ht.lt
   have hb1:=World.block_lt_of_cell? _ _ c1
   have hb2:=World.block_lt_of_cell? _ _ c2
   clear ht
   have hJ1:=HJ.out _ _ (wr.alloc (.cells #[.int .i64 (T.st k),.int .u32 (T.gn k)] 241)) hj ((Keeps.refl _ _).alloc _)
   have HJ1:=hid hJ1;clear hJ1
   rcases he:(T.st k == s) with _ | _
   ·have HE:=hid (show T.st k≠s by simpa using he)
    gi_wp2_with fail
    refine⟨fun _ h=>(by cases h),?_⟩
    gi_wp2_with fail
    exact⟨⟨k+1,by omega,by go_num,by rw [Tb.inn_no HE.out];exact HJ1.out⟩,by simp [intOf];omega⟩
   ·have hes:T.st k=s:=by simpa using he
    obtain⟨suf,hsuf⟩:=Tb.inn_split hlt hes
    obtain⟨fn,tmps,assign,body,hy,hR⟩:=HY.out _ _ suf _ hsuf HJ1.out
    have HE:=hid hes;clear hes hsuf suf
    dsimp only [encSl] at hy
    gi_wp2_with fail
    refine⟨rfl,hR.mono ?_⟩
    rintro e W' (⟨rfl,hJ'⟩ | ⟨rfl,hJx'⟩)
    ·gi_wp2_with fail
     exact⟨⟨k+1,by omega,by go_num,by rw [Tb.inn_yes HE.out];exact hJ'⟩,by simp [intOf];omega⟩
    ·gi_wp2_with fail
     refine bodyPost_ret (results_none rfl _ _ _) rfl ?_
     exact⟨⟨_,rfl⟩,.inr hJx'⟩
  ·have HK:=hid (show k=T.n by omega)
   gi_wp2_with fail
   go_end0
   exact⟨⟨_,rfl⟩,.inl (by rw [← HK.out];exact hj)⟩
theorem sin_call (b:Nat) (s:Int) (w:World):
 Calls Tryz.prog 102 #[.pointer (some ⟨b,0,none⟩),.int .i64 s] w fun e w'=>∃ B1 B2,
  e = .returned (.func (.func 176) #[] #[.pointer (some ⟨B1,0,none⟩),.pointer (some ⟨B2,0,none⟩)])∧w.heap.size≤B1∧w.heap.size≤B2∧
  Keeps (fun _=>False) w w'∧w'.heap[B1]?=some (.cells #[.pointer (some ⟨b,0,none⟩)] 108)∧w'.heap[B2]?=some (.cells #[.int .i64 s] 3):=by
 go_enter Tryz.func102,Tryz.ntmps102
 go_wp2
 go_ret
 exact⟨_,_,rfl,Nat.le_refl _,Nat.le_succ _,((Keeps.refl _ _).alloc _).alloc _,alloc_old alloc_new,alloc_new' (by simp)⟩
theorem stake_ok (b:Nat) (T:Tb) (w:World) (h:TbAt w b T):
 Calls Tryz.prog 180 #[.pointer (some ⟨b,0,none⟩)] w fun e w'=>Keeps (·=b) w w'∧
  ((T.inn 0 T.n=[]∧e = .returned (.tuple #[.agg #[.int .i64 0,.int .u32 0],.int .i64 4])∧TbAt w' b T)∨
   (∃ i g r,T.inn 0 T.n=(i,g) :: r∧e = .returned (.tuple #[.agg #[.int .i64 i,.int .u32 g],.int .i64 0])∧TbAt w' b (T.put i 1 g))):=by
 have H:=hid h
 have HK:=hid (fun (w':World) (hk:Keeps (fun _=>False) w w')=>h.keeps hk (fun h=>h))
 clear h
 refine (callsIn_wide (n:=0)).1 ?_
 refine callsIn_of_wp_marks Tryz.func180 rfl trivial ?_ rfl
 simp only [Tryz.ntmps180,List.size_toArray,List.length_cons,List.length_nil,Nat.reduceAdd,Nat.reduceSub,Array.replicate_succ,Array.replicate_zero,List.push_toArray,List.append_toArray,List.nil_append,List.cons_append]
 gi_wp2_with fail
 refine⟨trivial,rfl,callsIn_wide.2 ((HK.out _ (by repeat (first | exact Keeps.refl _ _ | apply Keeps.drewN | apply Keeps.alloc))).valid.mono ?_)⟩
 rintro e w' ⟨rfl,h'⟩
 obtain rfl:=h'.symm
 gi_wp2_with fail
 refine⟨trivial,rfl,callsIn_wide.2 ((sin_call b 0 _).mono ?_)⟩
 rintro e w1 ⟨B1,B2,rfl,hB1,hB2,hk1,hb1,hb2⟩
 have HB1:=hid hb1;have HB2:=hid hb2
 have HK1:=hid (show Keeps (fun _=>False) w w1 from Keeps.trans (by repeat (first | exact Keeps.refl _ _ | apply Keeps.drewN | apply Keeps.alloc)) hk1)
 simp only [World.size_alloc] at hB1 hB2
 have HR1:=hid (block_keep (alloc_old (alloc_new' (w:=w.alloc _) (o:=.cells #[.int .i64 0,.int .u32 0] 34) (n:=w.heap.size+1) (by simp))) hk1 (fun h=>h))
 have HR2:=hid (block_keep (alloc_new' (w:=(w.alloc _).alloc _) (o:=.cells #[.int .i64 0] 35) (n:=w.heap.size+1+1) (by simp)) hk1 (fun h=>h))
 have HR0:=hid (block_keep (alloc_old (alloc_old (alloc_new (w:=w) (o:=.cells #[.pointer (some ⟨b,0,none⟩)] 108)))) hk1 (fun h=>h))
 clear hk1 hb1 hb2
 gi_wp2_with fail
 have hbl:=H.out.lt
 have hHb:=hid (show Keeps (fun _=>False) w w1∧b<w.heap.size∧B1<w1.heap.size∧B2<w1.heap.size from⟨HK1.out,hbl,lt_block HB1.out,lt_block HB2.out⟩)
 refine wp_over (gf:=176) (lb:=#[.pointer (some ⟨B1,0,none⟩),.pointer (some ⟨B2,0,none⟩)]) rfl (enters_of Tryz.func176 (by kernel_rfl) rfl) (sin_gives b B1 B2 T 0) (fun _=>rfl)
  (fun pre W=>pre=[]∧Keeps (Two w1) w1 W)
  (fun c W=>c = .ret∧∃ i g r,T.inn 0 T.n=(i,g) :: r∧W.heap[w.heap.size+1]?=some (.cells #[.int .i64 i,.int .u32 g] 34)∧W.heap[w.heap.size+1+1]?=some (.cells #[.int .i64 0] 35)∧TbAt W b (T.put i 1 g)∧Keeps (·=b) w W)
  (fun pre W W' h hk=>⟨h.1,h.2.trans (hk.mono (fun _ _ h=>h.elim (fun h=>h.elim) (fun h=>h)))⟩)
  ?hIx ?hRd (fun _ _ h=>h) ⟨rfl,Keeps.refl _ _⟩ ?body ?done ?stop
 case hIx=>
  rintro c W W' ⟨rfl,i,g,r,hx,h1,h2,ht,hk⟩ hk'
  have hsz:=HK1.out.size
  have hn:∀ y,y<w1.heap.size→¬ (False∨Two w1 y):=fun y hy h=>by rcases h with h | h | h <;> first | exact h | omega
  exact⟨rfl,i,g,r,hx,block_keep h1 hk' (hn _ (lt_block HR1.out)),block_keep h2 hk' (hn _ (lt_block HR2.out)),ht.keeps hk' (hn _ (by omega)),
   hk.trans' hk' (fun _ _ h=>h) (fun y hy h=>absurd h (hn y (by omega)))⟩
 case hRd=>
  rintro pre W ⟨_,hk⟩
  have hn:∀ y,y<w1.heap.size→¬ Two w1 y:=fun y hy h=>by rcases h with h | h <;> omega
  exact⟨cell_at (block_keep HB1.out hk (hn _ (lt_block HB1.out))) rfl,cell_at (block_keep HB2.out hk (hn _ (lt_block HB2.out))) rfl,(HK.out _ HK1.out).keeps hk (hn _ (by have:=HK1.out.size;omega))⟩
 case body=>
  rintro l pre x suf W hx ⟨rfl,hk⟩ hsW
  clear hsW
  obtain⟨i,g⟩:=x
  simp only [encSl,List.zip_toArray,List.zip_cons_cons,List.zip_nil_left]
  gi_wp2_with fail
  refine⟨Keeps.refl _ _,fun W2 hk2=>?_⟩
  have hk3:=hk.trans hk2
  have hn:∀ y,y<w1.heap.size→¬ Two w1 y:=fun y hy h=>by rcases h with h | h <;> omega
  have ht:=(HK.out _ HK1.out).keeps hk3 (hn b (by have:=HK1.out.size;omega))
  have q0:=block_keep HR0.out hk3 (hn _ (lt_block HR0.out))
  have q1:=block_keep HR1.out hk3 (hn _ (lt_block HR1.out))
  have q2:=block_keep HR2.out hk3 (hn _ (lt_block HR2.out))
  have hin:T.st i=0∧T.gn i=g∧i<T.n:=Tb.inn_mem (by rw [hx];simp)
  obtain⟨hst,rfl,hin⟩:=hin
  have h256:=ht.n12
  obtain⟨c,hcb,hc⟩:=ht
  have s1:=cell_at hcb (hc.st i (by omega))
  have s2:=frozen_block hcb (1+i * 2)
  have i0:(0:Int)≤i:=by omega
  have i1:(i:Int)<256:=by omega
  have c0:=cell_at (i:=0) q0 rfl
  have c10:=cell_at (i:=0) q1 rfl
  have c11:=cell_at (i:=1) q1 rfl
  have c20:=cell_at (i:=0) q2 rfl
  have f10:=frozen_block q1 0
  have f11:=frozen_block q1 1
  have f20:=frozen_block q2 0
  have Q1:=hid q1;have Q2:=hid q2;have HCB:=hid hcb;have HCC:=hid hc;have HX:=hid hx;have HK3:=hid hk3
  clear q0 q1 q2 hcb hc hx hk3 hk
  gi_wp2_with fail
  have hnT:∀ y,y<w1.heap.size→¬ Two w1 y:=hn
  have hb1:=lt_block HR1.out
  have hb2:=lt_block HR2.out
  have hsz:=HK1.out.size
  refine⟨?k,rfl,i,T.gn i,suf,by simpa using HX.out,?b1,?b2,?tb,?kk⟩
  case k=>
   exact ((((Keeps.refl _ _).setCell (.inl (hnT _ (by simp;omega))) _).setCell (.inl (hnT _ (by simp;omega))) _).setCell (.inl (hnT _ (by simp;omega))) _).setCell (.inl (hnT _ (by simp;omega))) _
  case b1=>
   exact set_oth (set_block (set_block (set_oth Q1.out (by simp;omega)) 0 _) 1 _) (by simp)
  case b2=>
   exact set_block (set_oth (set_oth (set_oth Q2.out (by simp;omega)) (by simp)) (by simp)) 0 _
  case tb=>
   refine⟨_,?_,HCC.out.putSt (by omega)⟩
   exact set_oth (set_oth (set_oth (set_block HCB.out _ _) (by simp;omega)) (by simp;omega)) (by simp;omega)
  case kk=>
   have k4:Keeps (fun y=>y=b∨w.heap.size≤y) W2 _:=((((Keeps.refl _ _).setCell (p:=⟨b,1+i * 2,none⟩) (.inl (.inl rfl)) (.int .i64 1)).setCell (p:=⟨w.heap.size+1,0,none⟩) (.inl (.inr (by simp))) (.int .i64 i)).setCell (p:=⟨w.heap.size+1,1,none⟩) (.inl (.inr (by simp))) (.int .u32 (T.gn i))).setCell (p:=⟨w.heap.size+1+1,0,none⟩) (.inl (.inr (by simp;omega))) (.int .i64 0)
   exact ((HK1.out.mono (T:=(·=b)) (fun _ _ h=>h.elim)).trans' HK3.out (U:=(·=b)) (fun _ _ h=>h) (fun y hy h=>absurd h (hnT y (by omega)))).trans' k4 (fun _ _ h=>h) (fun y hy h=>by rcases h with h | h;exact h;omega)
 case done=>
  rintro W ⟨hxs,hk⟩ hD
  have hn:∀ y,y<w1.heap.size→¬ Two w1 y:=fun y hy h=>by rcases h with h | h <;> omega
  have ht:=hid ((HK.out _ HK1.out).keeps hk (hn b (by have:=HK1.out.size;omega)))
  have q1:=block_keep HR1.out hk (hn _ (lt_block HR1.out))
  have q2:=block_keep HR2.out hk (hn _ (lt_block HR2.out))
  have c10:=cell_at (i:=0) q1 rfl
  have c11:=cell_at (i:=1) q1 rfl
  have c20:=cell_at (i:=0) q2 rfl
  have f10:=frozen_block q1 0
  have f11:=frozen_block q1 1
  have f20:=frozen_block q2 0
  have HX:=hid hxs
  have HKK:=hid hk
  have HD:=hid hD
  have Q1:=hid q1;have Q2:=hid q2
  clear hxs q1 q2 hk hD
  gi_wp2_with fail
  have w3:∀ y,y≠w.heap.size+1→y≠w.heap.size+1+1→(((W.setCell ⟨w.heap.size+1,0,none⟩ (.int .i64 0)).setCell ⟨w.heap.size+1,1,none⟩ (.int .u32 0)).setCell ⟨w.heap.size+1+1,0,none⟩ (.int .i64 4)).heap[y]?=W.heap[y]?:=
   fun y h1 h2=>by rw [set_other h2,set_other h1,set_other h1]
  have hb1:=lt_block HR1.out
  have hb2:=lt_block HR2.out
  refine leave_mark (by rw [w3 _ (by omega) (by omega)];exact HD.out) fun W' hk'=>?_
  have k3:Keeps (fun y=>y=w.heap.size+1∨y=w.heap.size+1+1∨y=w1.heap.size) W W':=
   ((((Keeps.refl _ _).setCell (.inl (.inl rfl)) _).setCell (.inl (.inl rfl)) _).setCell (.inl (.inr (.inl rfl))) _).trans' hk' (fun _ _ h=>h) (fun _ _ h=>.inr (.inr h))
  have d1:=block_keep (by rw [set_other (b:=w.heap.size+1) (by simp)];exact set_block (set_block Q1.out 0 (.int .i64 0)) 1 (.int .u32 0)) hk' (by omega)
  have d2:=block_keep (set_block (by rw [set_other (by simp),set_other (by simp)];exact Q2.out) 0 (.int .i64 4)) hk' (by omega)
  have e10:=cell_at (i:=0) d1 rfl
  have e11:=cell_at (i:=1) d1 rfl
  have e20:=cell_at (i:=0) d2 rfl
  refine⟨.tuple #[.agg #[.int .i64 0,.int .u32 0],.int .i64 4],by simp [results,Tryz.results180,go_sem,e10,e11,e20],?_⟩
  have hsz:=HK1.out.size
  exact⟨(HK1.out.mono (T:=(·=b)) (fun _ _ h=>h.elim)).trans' (HKK.out.trans' k3 (U:=fun y=>w.heap.size≤y) (fun y _ h=>by rcases h with h | h <;> omega) (fun y _ h=>by omega)) (fun _ _ h=>h) (fun y hy h=>by omega),
   .inl ⟨HX.out,rfl,ht.out.keeps k3 (by omega)⟩⟩
 case stop=>
  rintro c W ⟨rfl,i,g,r,hx,h1,h2,ht,hk⟩ hD
  have c10:=cell_at (i:=0) h1 rfl
  have c11:=cell_at (i:=1) h1 rfl
  have c20:=cell_at (i:=0) h2 rfl
  have HX:=hid hx
  have HKK:=hid hk
  have HD:=hid hD
  have HT:=hid ht
  have Q1:=hid h1;have Q2:=hid h2
  clear hx hk hD h1 h2 ht
  gi_wp2_with fail
  refine leave_mark HD.out fun W' hk'=>?_
  have hne:∀ y,y<w1.heap.size→¬ y=w1.heap.size:=fun y hy=>by omega
  have d1:=block_keep Q1.out hk' (hne _ (lt_block HR1.out))
  have d2:=block_keep Q2.out hk' (hne _ (lt_block HR2.out))
  have e10:=cell_at (i:=0) d1 rfl
  have e11:=cell_at (i:=1) d1 rfl
  have e20:=cell_at (i:=0) d2 rfl
  refine⟨.tuple #[.agg #[.int .i64 i,.int .u32 g],.int .i64 0],by simp [results,Tryz.results180,go_sem,e10,e11,e20],?_⟩
  refine⟨HKK.out.trans' hk' (fun _ _ h=>h) (fun y hy h=>by have:=HK1.out.size;omega),.inr ⟨i,g,r,HX.out,rfl,HT.out.keeps hk' (by have:=HK1.out.size;omega)⟩⟩
end Go.Proofs.YtnlkfbndlngjaaaGreat
namespace Go.Proofs.YtnlkfbndlngjaaaGreat
open Go.RowKit
theorem gleft1 (bx:Nat) (g:Int) (w:World) (hx:w.cell? ⟨bx,0,none⟩=some (.int .u32 g)) (h:1≤g) (h1:g≤4294967295):
 Calls Tryz.prog 282 #[.pointer (some ⟨bx,0,none⟩)] w fun e w'=>e = .returned (.int .u32 (4294967295 - g))∧w'=w:=by
 go_enter Tryz.func282,Tryz.ntmps282
 go_wp2_with fail
 go_ret
 exact⟨rfl,rfl⟩
theorem gof_one (bx bs:Nat) (g:Int) (w:World) (hx:w.cell? ⟨bx,0,none⟩=some (.int .u32 g)) (hs:w.cell? ⟨bs,0,none⟩=some (.int .u32 g)) (h:1≤g) (h1:g≤4294967295):
 Calls Tryz.prog 281 #[.func (.func 282) #[] #[.pointer (some ⟨bx,0,none⟩)],.slice (some ⟨bs,0,none⟩) 1 1] w
  fun e w'=>e = .returned (.tuple #[.int .u32 (4294967295 - g),.int .i64 0])∧w'=w:=by
 have HL:=hid (gleft1 bx g w hx h h1)
 go_enter Tryz.func281,Tryz.ntmps281
 go_wp2_with fail
 go_loopw [12] (fun i wr=>wr=w∧∃ k:Nat,k≤1∧i = .int .i64 k) (fun i _=>1 - (intOf i).toNat)
 case atStart=>exact⟨rfl,0,by omega,rfl⟩
 case round=>
  obtain⟨rfl,k,hk,rfl⟩:=hrel
  obtain rfl | rfl:k=0∨k=1:=by omega
  ·go_wp2_with fail
   refine (gcheck_ok g _ h h1).mono ?_
   rintro e w' ⟨rfl,h'⟩
   obtain rfl:=h'.symm
   go_wp2_with fail
   exact⟨⟨trivial,1,by omega,by go_num⟩,by simp [intOf]⟩
  ·go_wp2_with fail
   refine HL.out.mono ?_
   rintro e w' ⟨rfl,h'⟩
   obtain rfl:=h'.symm
   go_wp2_with fail
   go_ret2
   exact⟨rfl,rfl⟩
theorem gleft_ok (g:Int) (w:World) (h:1≤g) (h1:g≤4294967295):
 Calls Tryz.prog 275 #[.int .u32 g] w fun e w'=>e = .returned (.tuple #[.int .u32 (4294967295 - g),.int .i64 0])∧Keeps (fun _=>False) w w':=by
 go_enter Tryz.func275,Tryz.ntmps275
 go_wp2_with fail
 refine (gof_one _ _ g _ (cell_at (alloc_old alloc_new) rfl) (cell_at (alloc_new' (by simp)) rfl) h h1).mono ?_
 rintro e w' ⟨rfl,rfl⟩
 go_wp2_with fail
 go_ret2
 exact⟨rfl,((Keeps.refl _ _).alloc _).alloc _⟩
theorem gnext_ok (g:Int) (w:World) (h:1≤g) (h1:g≤4294967295):
 Calls Tryz.prog 241 #[.int .u32 g] w fun e w'=>
  ((g<4294967295∧e = .returned (.tuple #[.int .u32 (g+1),.bool true,.int .i64 0]))∨(g=4294967295∧e = .returned (.tuple #[.int .u32 0,.bool false,.int .i64 0])))∧Keeps (fun _=>False) w w':=by
 have HA:Hid (∀ w,Calls Tryz.prog 266 #[.int .u32 g,.int .u64 1] w fun e w'=>
  ((g<4294967295∧e = .returned (.tuple #[.int .u32 (g+1),.bool true,.int .i64 0]))∨(g=4294967295∧e = .returned (.tuple #[.int .u32 0,.bool false,.int .i64 0])))∧Keeps (fun _=>False) w w'):=by
  refine hid fun w=>?_
  go_enter Tryz.func266,Tryz.ntmps266
  go_wp2_with fail
  refine (gleft_ok g _ h h1).mono ?_
  rintro e w' ⟨rfl,hk⟩
  rcases (show g<4294967295∨g=4294967295 by omega) with hg | hg
  ·have hd:¬ (4294967295 - g<1):=by omega
   have HK:=hid hk
   go_wp2_with fail
   go_ret3
   exact⟨.inl ⟨hg,rfl⟩,HK.out⟩
  ·have hd:4294967295 - g<1:=by omega
   have HG:=hid hg
   clear hg
   have HK:=hid hk
   go_wp2_with fail
   go_ret3
   exact⟨.inr ⟨HG.out,rfl⟩,HK.out⟩
 go_enter Tryz.func241,Tryz.ntmps241
 go_wp2_with fail
 refine (HA.out _).mono ?_
 rintro e w' ⟨⟨hg,rfl⟩ | ⟨hg,rfl⟩,hk⟩
 ·have HK:=hid hk
  go_wp2_with fail
  go_ret3
  exact⟨.inl ⟨hg,rfl⟩,HK.out⟩
 ·have HK:=hid hk
  go_wp2_with fail
  go_ret3
  exact⟨.inr ⟨hg,rfl⟩,HK.out⟩
end Go.Proofs.YtnlkfbndlngjaaaGreat
namespace Go.Proofs.YtnlkfbndlngjaaaGreat
open Go.RowKit
def Tb.new (n:Nat) (g:Int):Nat→Tb:=fun k=>⟨n,fun _=>0,fun i=>if i<k then g else 0⟩
theorem zc_list:Tryz.zeroCells244.toList = .int .i64 0 :: (List.replicate 256 [Value.int .i64 0,Value.int .u32 0]).flatten:=by kernel_rfl
theorem rep_get (n i:Nat) (h:i<n):((List.replicate n [Value.int .i64 0,Value.int .u32 0]).flatten)[i * 2]?=some (.int .i64 0)∧((List.replicate n [Value.int .i64 0,Value.int .u32 0]).flatten)[i * 2+1]?=some (.int .u32 0):=by
 induction n generalizing i with
 | zero=>omega
 | succ n ih=>
  rw [List.replicate_succ,List.flatten_cons]
  cases i with
  | zero=>simp
  | succ i=>
   obtain⟨a,b⟩:=ih i (by omega)
   rw [show (i+1) * 2=i * 2+2 by omega]
   simpa using ⟨a,b⟩
theorem zc_new (n:Nat) (g:Int) (n1:1≤n) (n2:n≤256):TbC (Tryz.zeroCells244.setIfInBounds 0 (.int .i64 n)) (Tb.new n g 0):=by
 have hs:=Tryz.zeroCells244_size
 have hz:∀ i,Tryz.zeroCells244[i]?=(Value.int .i64 0 :: (List.replicate 256 [Value.int .i64 0,Value.int .u32 0]).flatten)[i]?:=fun i=>by rw [← zc_list,Array.getElem?_toList]
 refine⟨by simp [hs],?_,?_,?_,n1,n2,?_,?_⟩
 ·rw [Array.getElem?_setIfInBounds_self_of_lt (by rw [hs];decide)];rfl
 ·intro i hi
  rw [Array.getElem?_setIfInBounds_ne (by omega),hz,show 1+i * 2=i * 2+1 by omega,List.getElem?_cons_succ,(rep_get 256 i hi).1];rfl
 ·intro i hi
  rw [Array.getElem?_setIfInBounds_ne (by omega),hz,show 1+i * 2+1=(i * 2+1)+1 by omega,List.getElem?_cons_succ,(rep_get 256 i hi).2];simp [Tb.new]
 ·intro i _;simp [Tb.new]
 ·intro i _;simp [Tb.new]
theorem Tb.new_step {c:Array Value} {n k:Nat} {g:Int} (hC:TbC c (Tb.new n g k)) (hk:k<256) (h:1≤g) (h1:g≤4294967295):
 TbC (c.setIfInBounds (1+k * 2+1) (.int .u32 g)) (Tb.new n g (k+1)):=by
 have hs:=hC.size
 refine⟨by simp [hs],?_,?_,?_,hC.n1,hC.n2,?_,?_⟩
 ·rw [Array.getElem?_setIfInBounds_ne (by omega)];exact hC.head
 ·intro j hj
  rw [Array.getElem?_setIfInBounds_ne (by omega)];exact hC.st j hj
 ·intro j hj
  by_cases e:j=k
  ·subst e
   rw [Array.getElem?_setIfInBounds_self_of_lt (by omega)];simp [Tb.new]
  ·rw [Array.getElem?_setIfInBounds_ne (by omega),hC.gn j hj]
   simp only [Tb.new]
   by_cases h:j<k
   ·rw [if_pos h,if_pos (by omega)]
   ·rw [if_neg h,if_neg (by omega)]
 ·intro j _;simp only [Tb.new];split <;> omega
 ·intro j _;simp only [Tb.new];split <;> omega
theorem snew_ok (n:Int) (g:Int) (w:World) (hn:1≤n) (hn1:n≤256) (h:1≤g) (h1:g≤4294967295):
 Calls Tryz.prog 124 #[.int .i64 n,.int .u32 g] w fun e w'=>e = .returned (.tuple #[.pointer (some ⟨w.heap.size,0,none⟩),.int .i64 0])∧Keeps (fun _=>False) w w'∧TbAt w' w.heap.size (Tb.new n.toNat g n.toNat):=by
 go_enter Tryz.func124,Tryz.ntmps124
 go_wp2_with fail
 refine (gcheck_ok g _ h h1).mono ?_
 rintro e w' ⟨rfl,h'⟩
 obtain rfl:=h'.symm
 obtain⟨m,rfl⟩:∃ m:Nat,n=m:=⟨n.toNat,by omega⟩
 have hz:=hid (zc_new m g (by omega) (by omega))
 go_wp2_with fail
 go_loopw [23] (fun i wr=>∃ k:Nat,k≤m∧i = .int .i64 k∧TbAt wr w.heap.size (Tb.new m g k)∧Keeps (fun y=>w.heap.size≤y) w wr) (fun i _=>m - (intOf i).toNat)
 case atStart=>exact⟨0,Nat.zero_le _,rfl,⟨_,alloc_new,hz.out⟩,(Keeps.refl _ _).alloc _⟩
 case round=>
  obtain⟨k,hk,rfl,ht,hkk⟩:=hrel
  have HK:=hid hkk
  by_cases hlt:k<m
  ·obtain⟨c,hc,hC⟩:=ht
   have c2:=cell_at hc (hC.gn k (by omega))
   have f2:=frozen_block hc (1+k * 2+1)
   have hb:=lt_block hc
   have hlt':(k:Int)<m:=by omega
   have hk0:(0:Int)≤k:=by omega
   have hk1:(k:Int)<256:=by omega
   have HC:=hid hc;have HCC:=hid hC
   clear hc hC hkk
   go_wp2_with fail
   exact⟨⟨k+1,by omega,by go_num,⟨_,set_block HC.out _ _,Tb.new_step HCC.out (by omega) h h1⟩,HK.out.setCell (.inl (by simp)) _⟩,by simp [intOf];omega⟩
  ·have HT:=hid (show k=m by omega)
   have HTT:=hid ht
   clear ht hkk
   go_wp2_with fail
   go_ret2
   exact⟨rfl,HK.out.fresh,by rw [← HT.out];simpa [HT.out] using HTT.out⟩
end Go.Proofs.YtnlkfbndlngjaaaGreat
namespace Go.Proofs.YtnlkfbndlngjaaaGreat
open Go.RowKit
def Tb.give (T:Tb) (i:Nat):Tb:=if T.gn i<4294967295 then T.put i 0 (T.gn i+1) else T.put i 2 (T.gn i)
theorem sgive_ok (b:Nat) (T:Tb) (i:Nat) (w:World) (h:TbAt w b T) (hi:i<T.n) (hs:T.st i=1) (hg:1≤T.gn i):
 Calls Tryz.prog 173 #[.pointer (some ⟨b,0,none⟩),.agg #[.int .i64 i,.int .u32 (T.gn i)]] w fun e w'=>e = .returned (.int .i64 0)∧Keeps (·=b) w w'∧TbAt w' b (T.give i):=by
 have hn:=h.n12
 have hbl:=h.lt
 have HC:=hid (fun o=>scheck_ok b T i (T.gn i) _ (h.keeps (S:=fun _=>False) ((Keeps.refl _ w).alloc o) (fun h=>h)))
 rw [show ckV T i (T.gn i)=0 by rw [ckV,if_neg (by omega),Int.toNat_natCast,if_pos ⟨hs,rfl⟩]] at HC
 have HT:=hid (fun (w':World) (hk:Keeps (fun _=>False) w w')=>h.keeps hk (fun h=>h))
 have hg1:T.gn i≤4294967295:=by obtain⟨c,_,hc⟩:=h;exact hc.g1 i (by omega)
 obtain⟨g,hgg⟩:∃ g,T.gn i=g:=⟨_,rfl⟩
 have HG:=hid hgg
 have HGV:=hid (show T.give i=if g<4294967295 then T.put i 0 (g+1) else T.put i 2 g by rw [Tb.give,hgg])
 rw [hgg] at HC hg hg1 ⊢
 clear h hs hgg
 have hi0:(0:Int)≤i:=by omega
 have hi1:(i:Int)<256:=by omega
 go_enter Tryz.func173,Tryz.ntmps173
 go_wp2_with fail
 refine (HC.out _).mono ?_
 rintro e w1 ⟨rfl,hk⟩
 have HK:=hid (((Keeps.refl (fun _=>False) w).alloc _).trans hk)
 have q1:=block_keep (alloc_new (w:=w)) hk (fun h=>h)
 have HQ:=hid q1
 obtain⟨a0,a1,af,al⟩:=cells2 q1
 clear hk q1
 go_wp2_with fail
 refine (gnext_ok g _ hg hg1).mono ?_
 rintro e w2 ⟨hg2,hk2⟩
 have HK2:=hid (HK.out.trans hk2)
 obtain⟨b0,b1,bf,bl⟩:=cells2 (block_keep HQ.out hk2 (fun h=>h))
 clear a0 a1 af al hk2
 obtain⟨c,hc,hC⟩:=HT.out _ HK2.out
 have s0:=cell_at hc (hC.st i (by omega))
 have s1:=cell_at hc (hC.gn i (by omega))
 have sf:=frozen_block hc (1+i * 2)
 have sg:=frozen_block hc (1+i * 2+1)
 have hb2:=lt_block hc
 have HCB:=hid hc;have HCC:=hid hC
 clear hc hC
 rcases hg2 with⟨hg2,rfl⟩ | ⟨hg2,rfl⟩
 ·have HG2:=hid hg2
  go_wp2_with fail
  go_region
  go_wp2_with fail
  go_ret
  refine⟨rfl,?_,_,set_block (set_block HCB.out _ _) _ _,?_⟩
  ·have k:=(HK2.out.mono (T:=(·=b)) (fun _ _ h=>h.elim))
   repeat (first | (with_reducible exact k) | with_reducible refine Keeps.setCell ?_ ?_ _ | with_reducible refine Keeps.alloc ?_ _ | with_reducible refine Keeps.drewN ?_ _ | with_reducible refine Keeps.drew ?_)
   all_goals first | (left;simp;done) | (left;simp;omega) | (right;simp;done) | (right;simp;omega)
  ·rw [HGV.out,if_pos HG2.out];exact HCC.out.put (by omega) (by omega) (by have:=HG2.out;omega)
 ·have HG2:=hid hg2
  clear hg2
  go_wp2_with fail
  go_region
  go_wp2_with fail
  go_ret
  refine⟨rfl,?_,_,set_block HCB.out _ _,?_⟩
  ·have k:=(HK2.out.mono (T:=(·=b)) (fun _ _ h=>h.elim))
   repeat (first | (with_reducible exact k) | with_reducible refine Keeps.setCell ?_ ?_ _ | with_reducible refine Keeps.alloc ?_ _ | with_reducible refine Keeps.drewN ?_ _ | with_reducible refine Keeps.drew ?_)
   all_goals first | (left;simp;done) | (left;simp;omega) | (right;simp;done) | (right;simp;omega)
  ·rw [HGV.out,if_neg (by have:=HG2.out;omega),← HG.out];exact HCC.out.putSt (by omega)
end Go.Proofs.YtnlkfbndlngjaaaGreat
