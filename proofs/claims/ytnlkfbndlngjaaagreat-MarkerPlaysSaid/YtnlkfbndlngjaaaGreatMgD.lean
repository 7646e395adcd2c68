import Derived.Test.YtnlkfbndlngjaaaGreatMgC
import Derived.Lib.SliceRun
set_option maxHeartbeats 1000000
set_option maxRecDepth 100000
namespace Go.Proofs.YtnlkfbndlngjaaaGreat
open Go.RowKit
structure Hp where
 T:Tb
 ob:Nat→Ob
structure HpC (c:Array Value) (t:Nat) (n:Nat) (ob:Nat→Ob):Prop where
 size:c.size=2562
 tab:c[0]?=some (.pointer (some ⟨t,0,none⟩))
 len:c[1]?=some (.int .i64 n)
 obj:∀ i,i<256→∀ j,j<10→c[2+i * 10+j]?=(ob i).arr[j]?
structure HpAt (w:World) (b t:Nat) (H:Hp):Prop where
 own:∃ c,w.heap[b]?=some (.cells c 114)∧HpC c t H.T.n H.ob
 tab:TbAt w t H.T
 ne:b≠t
 good:∀ i,(H.ob i).Good
theorem HpAt.keeps {w w':World} {b t:Nat} {H:Hp} {S:Nat→Prop} (h:HpAt w b t H) (hk:Keeps S w w') (hS:¬ S b) (hT:¬ S t):HpAt w' b t H:=by
 obtain⟨⟨c,hc,hC⟩,ht,hn,hg⟩:=h
 exact⟨⟨c,block_keep hc hk hS,hC⟩,ht.keeps hk hT,hn,hg⟩
theorem HpAt.lt {w:World} {b t:Nat} {H:Hp} (h:HpAt w b t H):b<w.heap.size:=by
 obtain⟨⟨c,hc,hC⟩,ht,hn,hg⟩:=h
 exact lt_block hc
theorem hvalid_ok (b t:Nat) (H:Hp) (w:World) (h:HpAt w b t H):
 Calls Tryz.prog 48 #[.pointer (some ⟨b,0,none⟩)] w fun e w'=>e = .returned (.bool true)∧w'=w:=by
 obtain⟨⟨c,hc,hC⟩,ht,hn,hg⟩:=h
 have c0:=cell_at hc hC.tab
 go_enter Tryz.func48,Tryz.ntmps48
 go_wp2
 go_ret
 exact⟨rfl,rfl⟩
end Go.Proofs.YtnlkfbndlngjaaaGreat
namespace Go.Proofs.YtnlkfbndlngjaaaGreat
open Go.RowKit
theorem hz_list:Tryz.zeroCells114.toList = .pointer none :: .int .i64 0 :: (List.replicate 256 (Ob.new 0 false).arr.toList).flatten:=by kernel_rfl
theorem rep_ten (l:List Value) (hl:l.length=10) (n i j:Nat) (h:i<n) (hj:j<10):((List.replicate n l).flatten)[i * 10+j]?=l[j]?:=by
 induction n generalizing i with
 | zero=>omega
 | succ n ih=>
  rw [List.replicate_succ,List.flatten_cons]
  cases i with
  | zero=>rw [List.getElem?_append_left (by omega)];simp
  | succ i=>rw [List.getElem?_append_right (by omega),hl,show (i+1) * 10+j - 10=i * 10+j by omega];exact ih i (by omega)
theorem hz_new (t n:Nat):HpC ((Tryz.zeroCells114.setIfInBounds 0 (.pointer (some ⟨t,0,none⟩))).setIfInBounds 1 (.int .i64 n)) t n (fun _=>Ob.new 0 false):=by
 have hs:Tryz.zeroCells114.size=2562:=Tryz.zeroCells114_size
 have hz:∀ i,Tryz.zeroCells114[i]?=(Value.pointer none :: Value.int .i64 0 :: (List.replicate 256 (Ob.new 0 false).arr.toList).flatten)[i]?:=fun i=>by rw [← hz_list,Array.getElem?_toList]
 refine⟨by simp [hs],?_,?_,?_⟩
 ·rw [Array.getElem?_setIfInBounds_ne (by omega),Array.getElem?_setIfInBounds_self_of_lt (by omega)]
 ·rw [Array.getElem?_setIfInBounds_self_of_lt (by simp [hs])]
 ·intro i hi j hj
  rw [Array.getElem?_setIfInBounds_ne (by omega),Array.getElem?_setIfInBounds_ne (by omega),hz,show 2+i * 10+j=(i * 10+j)+1+1 by omega,List.getElem?_cons_succ,List.getElem?_cons_succ,rep_ten _ rfl 256 i j hi hj,Array.getElem?_toList]
def Hp.new (n:Nat) (g:Int):Hp:=⟨Tb.new n g n,fun _=>Ob.new 0 false⟩
theorem hnew_ok (n:Int) (g:Int) (w:World) (hn:1≤n) (hn1:n≤256) (h:1≤g) (h1:g≤4294967295):
 Calls Tryz.prog 66 #[.int .i64 n,.int .u32 g] w fun e w'=>∃ b t,e = .returned (.tuple #[.pointer (some ⟨b,0,none⟩),.int .i64 0])∧Keeps (fun _=>False) w w'∧w.heap.size≤b∧w.heap.size≤t∧HpAt w' b t (Hp.new n.toNat g):=by
 go_enter Tryz.func66,Tryz.ntmps66
 go_wp2_with fail
 refine (snew_ok n g _ hn hn1 h h1).mono ?_
 rintro e w' ⟨rfl,hk,ht⟩
 have hb:=ht.lt
 have HK:=hid hk;have HT:=hid ht
 clear hk ht
 go_wp2_with fail
 go_ret2
 refine⟨_,_,rfl,HK.out.alloc _,HK.out.size,Nat.le_refl _,⟨_,alloc_new,?_⟩,?_,by omega,fun i=>Ob.new_good ⟨by decide,by decide,by simp⟩⟩
 ·obtain⟨m,rfl⟩:∃ m:Nat,n=m:=⟨n.toNat,by omega⟩
  exact hz_new _ _
 ·exact HT.out.keeps (S:=fun _=>False) ((Keeps.refl _ _).alloc _) (fun h=>h)
end Go.Proofs.YtnlkfbndlngjaaaGreat
namespace Go.Proofs.YtnlkfbndlngjaaaGreat
open Go.RowKit
theorem hwith_bad (b t:Nat) (H:Hp) (s g:Int) (f:Value) (w:World) (h:HpAt w b t H) (hc:ckV H.T s g≠0):
 Calls Tryz.prog 171 #[.pointer (some ⟨b,0,none⟩),.agg #[.int .i64 s,.int .u32 g],f] w fun e w'=>e = .returned (.int .i64 (ckV H.T s g))∧Keeps (fun _=>False) w w':=by
 have HH:=hid (fun (w':World) (hk:Keeps (fun _=>False) w w')=>h.keeps hk (fun h=>h) (fun h=>h))
 have hbl:=h.lt
 have HV:=hid (fun o=>hvalid_ok b t H _ (HH.out _ ((Keeps.refl _ w).alloc o)))
 obtain⟨⟨c,hcb,hC⟩,ht,_,_⟩:=h
 have c0:=cell_at hcb hC.tab
 have c1:=cell_at hcb hC.len
 have hn:=ht.n12
 clear hcb hC ht
 by_cases h1:s<0
 ·have HX:=hid (show ckV H.T s g=3 by rw [ckV,if_pos (by omega)])
  clear hc
  go_enter Tryz.func171,Tryz.ntmps171
  go_wp2_with fail
  refine (HV.out _).mono ?_
  rintro e w' ⟨rfl,h'⟩
  obtain rfl:=h'.symm
  go_wp2_with fail
  go_quiet (fail)
  go_wp2_with fail
  go_ret
  exact⟨ret_int HX.out.symm,((Keeps.refl _ _).alloc _).drewN _⟩
 have g0:0≤s:=by omega
 by_cases h2:(H.T.n:Int)≤s
 ·have HX:=hid (show ckV H.T s g=3 by rw [ckV,if_pos (by omega)])
  clear hc
  go_enter Tryz.func171,Tryz.ntmps171
  go_wp2_with fail
  refine (HV.out _).mono ?_
  rintro e w' ⟨rfl,h'⟩
  obtain rfl:=h'.symm
  go_wp2_with fail
  go_quiet (fail)
  go_wp2_with fail
  go_ret
  exact⟨ret_int HX.out.symm,((Keeps.refl _ _).alloc _).drewN _⟩
 ·have g1:s<(H.T.n:Int):=by omega
  have HX:=hid (show ckV H.T s g=7 by
   rw [ckV,if_neg (by omega)] at hc ⊢
   by_cases hq:H.T.st s.toNat=1∧H.T.gn s.toNat=g
   ·rw [if_pos hq] at hc;exact absurd rfl hc
   ·rw [if_neg hq])
  go_enter Tryz.func171,Tryz.ntmps171
  go_wp2_with fail
  refine (HV.out _).mono ?_
  rintro e w' ⟨rfl,h'⟩
  obtain rfl:=h'.symm
  go_wp2_with fail
  go_quiet (fail)
  go_wp2_with fail
  have hv':(ckV H.T s g == 0)=false:=by simpa using hc
  have HCK:=hid (fun (w':World) (hk:Keeps (fun _=>False) w w')=>scheck_ok t H.T s g w' (HH.out w' hk).tab)
  go_region_with (go_at_call 240;refine (HCK.out _ (((Keeps.refl _ _).alloc _).drewN _)).mono ?_;rintro e w2 ⟨rfl,hk2⟩)
  all_goals
   have HK2:=hid (((((Keeps.refl (fun _=>False) w).alloc _).drewN _)).trans hk2)
   clear hk2
   go_wp2_with fail
   go_ret
   exact⟨ret_int HX.out.symm,by repeat (first | with_reducible exact HK2.out | apply Keeps.drew | apply Keeps.drewN)⟩
end Go.Proofs.YtnlkfbndlngjaaaGreat
namespace Go.Proofs.YtnlkfbndlngjaaaGreat
open Go.RowKit
theorem ckV_ok {T:Tb} {s g:Int} (hc:ckV T s g=0):∃ i:Nat,s=i∧i<T.n∧T.st i=1∧T.gn i=g:=by
 unfold ckV at hc
 split at hc
 ·cases hc
 ·split at hc
  ·rename_i h1 h2
   exact⟨s.toNat,by omega,by omega,h2.1,h2.2⟩
  ·cases hc
theorem hwith_ok (b t:Nat) (H:Hp) (i:Nat) (g:Int) (f:FuncId) (caps:Array Value) (R:Int→World→Prop) (w:World) (h:HpAt w b t H) (hc:ckV H.T i g=0)
 (hr:∀ args w,(callFunc f args).run Tryz.prog w = .ok (.enter f args) w)
 (hf:∀ w',Keeps (fun _=>False) w w'→w.heap.size<w'.heap.size→Calls Tryz.prog f (#[.pointer (some ⟨b,2+i * 10,none⟩)] ++ caps) w' fun e w'=>∃ k,e = .returned (.int .i64 k)∧R k w')
 (hR:∀ k w,R k w→R k w.drew):
 Calls Tryz.prog 171 #[.pointer (some ⟨b,0,none⟩),.agg #[.int .i64 i,.int .u32 g],.func (.func f) #[] caps] w fun e w'=>∃ k,e = .returned (.int .i64 k)∧R k w':=by
 have HH:=hid (fun (w':World) (hk:Keeps (fun _=>False) w w')=>h.keeps hk (fun h=>h) (fun h=>h))
 have hbl:=h.lt
 have HV:=hid (fun o=>hvalid_ok b t H _ (HH.out _ ((Keeps.refl _ w).alloc o)))
 have HCK:=hid (fun (w':World) (hk:Keeps (fun _=>False) w w')=>scheck_ok t H.T i g w' (HH.out w' hk).tab)
 rw [hc] at HCK
 have hi:i<256∧i<H.T.n:=by
  obtain⟨j,h1,h2,_⟩:=ckV_ok hc
  have:=h.tab.n12
  omega
 obtain⟨⟨c,hcb,hC⟩,ht,_,_⟩:=h
 have c0:=cell_at hcb hC.tab
 have c1:=cell_at hcb hC.len
 have hn:=ht.n12
 clear hcb hC ht hc
 obtain⟨hi1,hi2⟩:=hi
 have HF:=hid hf;have HR:=hid hR
 clear hf hR
 have g0:(0:Int)≤i:=by omega
 have g1:(i:Int)<(H.T.n:Int):=by omega
 have g2:(i:Int)<256:=by omega
 go_enter Tryz.func171,Tryz.ntmps171
 go_wp2_with fail
 refine (HV.out _).mono ?_
 rintro e w' ⟨rfl,h'⟩
 obtain rfl:=h'.symm
 go_wp2_with fail
 go_quiet (fail)
 go_wp2_with fail
 go_region_with (go_at_call 240;refine (HCK.out _ (((Keeps.refl _ _).alloc _).drewN _)).mono ?_;rintro e w2 ⟨rfl,hk2⟩)
 all_goals
  have HK2:=hid (((((Keeps.refl (fun _=>False) w).alloc _).drewN _)).trans hk2)
  have hlt:w.heap.size<w2.heap.size:=by have:=hk2.size;simp at this;omega
  obtain⟨a0,a1,af,al⟩:=cells2 (block_keep (alloc_new (w:=w)) ((Keeps.drewN (Keeps.refl (fun _=>False) _) _).trans hk2) (fun h=>h))
  have hb2:b<w2.heap.size:=by have:=HK2.out.size;omega
  have HHH:=hid (HH.out _ HK2.out)
  clear hk2
  go_wp2_with fail
  go_region_with (go_at_fn f;refine (HF.out _ (HK2.out.drewN _) hlt).mono ?_;rintro e w3 ⟨k,rfl,h3⟩)
  all_goals
   go_wp2_with fail
   go_ret
   exact⟨_,rfl,by repeat (first | with_reducible exact h3 | apply HR.out)⟩
end Go.Proofs.YtnlkfbndlngjaaaGreat
namespace Go.Proofs.YtnlkfbndlngjaaaGreat
open Go.RowKit
theorem type_ne {w:World} {x y:Nat} {c c':Array Value} {t t':TypeId} (h1:w.heap[x]?=some (.cells c t)) (h2:w.heap[y]?=some (.cells c' t')) (ht:t≠t'):x≠y:=by
 rintro rfl
 rw [h1] at h2
 simp at h2
 exact ht h2.2
def updf {α:Type} (f:Nat→α) (i:Nat) (x:α):Nat→α:=fun j=>if j=i then x else f j
theorem updf_same {α:Type} (f:Nat→α) (i:Nat) (x:α):updf f i x i=x:=by simp [updf]
theorem updf_ne {α:Type} (f:Nat→α) {i j:Nat} (x:α) (h:j≠i):updf f i x j=f j:=by simp [updf,h]
def Rfs (c:Array Value) (off m:Nat) (f:Nat→Rf):Prop:=∀ i,i<m→c[off+i * 2]?=some (.int .i64 (f i).s)∧c[off+i * 2+1]?=some (.int .u32 (f i).g)
theorem Rfs.set {c:Array Value} {off m:Nat} {f:Nat→Rf} (h:Rfs c off m f) (i:Nat) (hi:i<m) (hs:off+m * 2≤c.size) (r:Rf):
 Rfs ((c.setIfInBounds (off+i * 2) (.int .i64 r.s)).setIfInBounds (off+i * 2+1) (.int .u32 r.g)) off m (updf f i r):=by
 intro j hj
 by_cases e:j=i
 ·subst e
  refine⟨?_,?_⟩
  ·rw [Array.getElem?_setIfInBounds_ne (by omega),Array.getElem?_setIfInBounds_self_of_lt (by omega),updf_same]
  ·rw [Array.getElem?_setIfInBounds_self_of_lt (by simp;omega),updf_same]
 ·obtain⟨h1,h2⟩:=h j hj
  rw [updf_ne _ _ e]
  refine⟨?_,?_⟩
  ·rw [Array.getElem?_setIfInBounds_ne (by omega),Array.getElem?_setIfInBounds_ne (by omega),h1]
  ·rw [Array.getElem?_setIfInBounds_ne (by omega),Array.getElem?_setIfInBounds_ne (by omega),h2]
theorem Rfs.head {c:Array Value} {off m:Nat} {f:Nat→Rf} (h:Rfs c off m f) (i:Nat) (hi:i<off) (v:Value):Rfs (c.setIfInBounds i v) off m f:=by
 intro j hj
 obtain⟨h1,h2⟩:=h j hj
 exact⟨by rw [Array.getElem?_setIfInBounds_ne (by omega),h1],by rw [Array.getElem?_setIfInBounds_ne (by omega),h2]⟩
theorem encR_get {l:List Rf} {j:Nat} {u:Value} (h:(l.flatMap encR)[j]?=some u):∃ r,l[j / 2]?=some r∧u=if j % 2=0 then .int .i64 r.s else .int .u32 r.g:=by
 induction l generalizing j with
 | nil=>simp at h
 | cons x l ih=>
  rw [List.flatMap_cons] at h
  match j,h with
  | 0,h=>simp [encR] at h;exact⟨x,rfl,by simp [h]⟩
  | 1,h=>simp [encR] at h;exact⟨x,rfl,by simp [h]⟩
  | j+2,h=>
   simp only [encR,List.cons_append,List.nil_append,List.getElem?_cons_succ] at h
   obtain⟨r,h1,h2⟩:=ih h
   exact⟨r,by rw [show (j+2) / 2=j / 2+1 by omega];simpa using h1,by rw [h2,show (j+2) % 2=j % 2 by omega]⟩
theorem Rfs.news {c:Array Value} {off m n:Nat} {f:Nat→Rf} (h:Rfs c off m f) (hn:n≤m) {j:Nat} {u:Value} (hj:(((List.range n).map f).flatMap encR)[j]?=some u):c[off+j]?=some u:=by
 obtain⟨r,h1,h2⟩:=encR_get hj
 rw [List.getElem?_map] at h1
 have hlt:j / 2<n:=by
  rcases Nat.lt_or_ge (j / 2) n with h | h
  ·exact h
  ·rw [List.getElem?_eq_none (by simpa using h)] at h1;simp at h1
 rw [List.getElem?_range hlt] at h1
 simp at h1
 obtain⟨a,b⟩:=h (j / 2) (by omega)
 rw [h1] at a b
 by_cases hp:j % 2=0
 ·rw [if_pos hp] at h2
  rw [h2,← a];congr 1;omega
 ·rw [if_neg hp] at h2
  rw [h2,← b];congr 1;omega
theorem encR_len (l:List Rf):(l.flatMap encR).length=l.length * 2:=by
 induction l with
 | nil=>rfl
 | cons x l ih=>rw [List.flatMap_cons,List.length_append,ih];simp [encR];omega
theorem encR_one {l:List Rf} {u:Value} (h:u∈l.flatMap encR):u.oneCell'=true:=by
 obtain⟨r,_,h⟩:=List.mem_flatMap.1 h
 simp [encR] at h
 rcases h with rfl | rfl <;> rfl
theorem eq_nil_refs (w:World) (a:Option Addr) (n c n' c':Nat):Sem.run Tryz.prog (binOp .eql 46 (.slice a n c) (.slice none n' c')) w = .ok (.bool a.isNone) w:=
 Lib.run_eql_slice_nil w _ 34 a n c n' c' Tryz.underlying46
theorem rclone_ok (b off n c:Nat) (l:List Rf) (w:World) (hl:l.length=n) (hn:n≤4096) (hc:∀ j u,(l.flatMap encR)[j]?=some u→w.cell? ⟨b,off+j,none⟩=some u) (hb:b<w.heap.size):
 Calls Tryz.prog 245 #[.slice (some ⟨b,off,none⟩) n c] w fun e w'=>∃ v,e = .returned v∧Row w' w.heap.size v l∧Keeps (fun _=>False) w w':=by
 obtain⟨ri,hi1,hi2,hi3,hi4⟩:=ref_info
 have A:=hid hc;clear hc
 have HL:=hid hl;clear hl
 have hq:=eq_nil_refs
 go_enter Tryz.func245,Tryz.ntmps245
 go_wp2_with (at_builtin;refine wpList_append_own _ rfl _ _ 46 rfl w.heap.size 34 ri (.agg #[.int .i64 0,.int .u32 0]) 2 16 Tryz.underlying46 hi1 hi2 hi3 hi4 rfl (by decide) _ _ _ rfl (World.ownsRow_made w #[] 0 (Nat.le_refl _) (Nat.zero_le _) (by simp)) ⟨b,off,none⟩ n c (l.flatMap encR) rfl ?qc1 ?qc2 ?qc3 ?qc4 ?qc5 ?qc6 ?_)
 case qc1=>rw [encR_len,HL.out]
 case qc2=>
  intro j u hj
  have:=A.out j u hj
  rw [show (⟨b,off,none⟩:Addr).add j=⟨b,off+j,none⟩ by simp [Addr.add]]
  rw [Below.cell ((Below.refl w.heap.size w).alloc (Nat.le_refl _) _) hb]
  exact this
 case qc3=>exact fun u hu=>encR_one hu
 case qc4=>rw [Nat.zero_add];unfold maxLen;omega
 case qc5=>rw [Nat.zero_add];omega
 case qc6=>simp
 intro v' w1 hown hgrow _
 go_wp2
 go_ret
 refine⟨v',rfl,?_,?_⟩
 ·unfold Row;rw [HL.out];simpa using hown
 ·exact (((Keeps.refl (fun y=>w.heap.size≤y) w).alloc _).trans' (grown_keeps hgrow) (U:=fun y=>w.heap.size≤y) (fun _ _ h=>h) (fun k hk h=>by simp [Value.ownBlock] at h;omega)).fresh
theorem run_copy_refs (w:World) (dT sT ty:TypeId) (g o dLen dCap:Nat) (a:Addr) (sLen sCap:Nat) (cur:Array Value) (t:TypeId) (l:List Rf)
 (hu:Tryz.prog.underlying dT=some (.slice 34))
 (hg:w.heap[g]?=some (.cells cur t (0,0))) (hn:l.length=Nat.min sLen dLen)
 (hsrc:∀ j v,(l.flatMap encR)[j]?=some v→w.cell? (a.add j)=some v) (hfit:o+l.length * 2≤cur.size):
 (Builtin.copy_ #[dT,sT] ty #[.slice (some ⟨g,o,none⟩) dLen dCap,.slice (some a) sLen sCap]).run Tryz.prog w =
  .ok (goInt l.length) (w.setRow g (cur.toList.take o ++ l.flatMap encR ++ cur.toList.drop (o+l.length * 2)).toArray):=by
 have hl:=run_loadCells_list (P:=Tryz.prog) w a (l.flatMap encR) hsrc
 have hst:=run_storeCells_at Tryz.prog g o t (l.flatMap encR) 0 cur w hg (by rw [encR_len];simpa using hfit) (fun u hu=>encR_one hu)
 obtain⟨ri,hi1,hi2,hi3,hi4⟩:=ref_info
 rw [encR_len] at hl hst
 simp [Builtin.copy_,run_underlying hu,Builtin.lenOf,Builtin.firstCells,sizeOf,typeInfo,hi1,hi3,← hn,hl,hst]
end Go.Proofs.YtnlkfbndlngjaaaGreat
namespace Go.Proofs.YtnlkfbndlngjaaaGreat
open Go.RowKit
def set10 (c:Array Value) (o:Nat) (v0 v1 v2 v3 v4 v5 v6 v7 v8 v9:Value):Array Value:=
 (((((((((c.setIfInBounds o v0).setIfInBounds (o+1) v1).setIfInBounds (o+2) v2).setIfInBounds (o+3) v3).setIfInBounds (o+4) v4).setIfInBounds (o+5) v5).setIfInBounds (o+6) v6).setIfInBounds (o+7) v7).setIfInBounds (o+8) v8).setIfInBounds (o+9) v9
theorem set10_size (c:Array Value) (o:Nat) (v0 v1 v2 v3 v4 v5 v6 v7 v8 v9:Value):(set10 c o v0 v1 v2 v3 v4 v5 v6 v7 v8 v9).size=c.size:=by simp [set10]
theorem set10_out (c:Array Value) (o k:Nat) (v0 v1 v2 v3 v4 v5 v6 v7 v8 v9:Value) (h:k<o∨o+10≤k):(set10 c o v0 v1 v2 v3 v4 v5 v6 v7 v8 v9)[k]?=c[k]?:=by
 unfold set10
 repeat rw [Array.getElem?_setIfInBounds_ne (by omega)]
theorem set10_in (c:Array Value) (o j:Nat) (v0 v1 v2 v3 v4 v5 v6 v7 v8 v9:Value) (h:j<10) (hs:o+10≤c.size):(set10 c o v0 v1 v2 v3 v4 v5 v6 v7 v8 v9)[o+j]?=#[v0,v1,v2,v3,v4,v5,v6,v7,v8,v9][j]?:=by
 unfold set10
 match j,h with
 | 0,_=>rw [Array.getElem?_setIfInBounds_ne (by omega)];rw [Array.getElem?_setIfInBounds_ne (by omega)];rw [Array.getElem?_setIfInBounds_ne (by omega)];rw [Array.getElem?_setIfInBounds_ne (by omega)];rw [Array.getElem?_setIfInBounds_ne (by omega)];rw [Array.getElem?_setIfInBounds_ne (by omega)];rw [Array.getElem?_setIfInBounds_ne (by omega)];rw [Array.getElem?_setIfInBounds_ne (by omega)];rw [Array.getElem?_setIfInBounds_ne (by omega)];rw [Nat.add_zero,Array.getElem?_setIfInBounds_self_of_lt (by omega)];rfl
 | 1,_=>rw [Array.getElem?_setIfInBounds_ne (by omega)];rw [Array.getElem?_setIfInBounds_ne (by omega)];rw [Array.getElem?_setIfInBounds_ne (by omega)];rw [Array.getElem?_setIfInBounds_ne (by omega)];rw [Array.getElem?_setIfInBounds_ne (by omega)];rw [Array.getElem?_setIfInBounds_ne (by omega)];rw [Array.getElem?_setIfInBounds_ne (by omega)];rw [Array.getElem?_setIfInBounds_ne (by omega)];rw [Array.getElem?_setIfInBounds_self_of_lt (by simp;omega)];rfl
 | 2,_=>rw [Array.getElem?_setIfInBounds_ne (by omega)];rw [Array.getElem?_setIfInBounds_ne (by omega)];rw [Array.getElem?_setIfInBounds_ne (by omega)];rw [Array.getElem?_setIfInBounds_ne (by omega)];rw [Array.getElem?_setIfInBounds_ne (by omega)];rw [Array.getElem?_setIfInBounds_ne (by omega)];rw [Array.getElem?_setIfInBounds_ne (by omega)];rw [Array.getElem?_setIfInBounds_self_of_lt (by simp;omega)];rfl
 | 3,_=>rw [Array.getElem?_setIfInBounds_ne (by omega)];rw [Array.getElem?_setIfInBounds_ne (by omega)];rw [Array.getElem?_setIfInBounds_ne (by omega)];rw [Array.getElem?_setIfInBounds_ne (by omega)];rw [Array.getElem?_setIfInBounds_ne (by omega)];rw [Array.getElem?_setIfInBounds_ne (by omega)];rw [Array.getElem?_setIfInBounds_self_of_lt (by simp;omega)];rfl
 | 4,_=>rw [Array.getElem?_setIfInBounds_ne (by omega)];rw [Array.getElem?_setIfInBounds_ne (by omega)];rw [Array.getElem?_setIfInBounds_ne (by omega)];rw [Array.getElem?_setIfInBounds_ne (by omega)];rw [Array.getElem?_setIfInBounds_ne (by omega)];rw [Array.getElem?_setIfInBounds_self_of_lt (by simp;omega)];rfl
 | 5,_=>rw [Array.getElem?_setIfInBounds_ne (by omega)];rw [Array.getElem?_setIfInBounds_ne (by omega)];rw [Array.getElem?_setIfInBounds_ne (by omega)];rw [Array.getElem?_setIfInBounds_ne (by omega)];rw [Array.getElem?_setIfInBounds_self_of_lt (by simp;omega)];rfl
 | 6,_=>rw [Array.getElem?_setIfInBounds_ne (by omega)];rw [Array.getElem?_setIfInBounds_ne (by omega)];rw [Array.getElem?_setIfInBounds_ne (by omega)];rw [Array.getElem?_setIfInBounds_self_of_lt (by simp;omega)];rfl
 | 7,_=>rw [Array.getElem?_setIfInBounds_ne (by omega)];rw [Array.getElem?_setIfInBounds_ne (by omega)];rw [Array.getElem?_setIfInBounds_self_of_lt (by simp;omega)];rfl
 | 8,_=>rw [Array.getElem?_setIfInBounds_ne (by omega)];rw [Array.getElem?_setIfInBounds_self_of_lt (by simp;omega)];rfl
 | 9,_=>rw [Array.getElem?_setIfInBounds_self_of_lt (by simp;omega)];rfl
theorem set10_all (a0 a1 a2 a3 a4 a5 a6 a7 a8 a9 v0 v1 v2 v3 v4 v5 v6 v7 v8 v9:Value):set10 #[a0,a1,a2,a3,a4,a5,a6,a7,a8,a9] 0 v0 v1 v2 v3 v4 v5 v6 v7 v8 v9=#[v0,v1,v2,v3,v4,v5,v6,v7,v8,v9]:=by
 simp [set10]
theorem set10_block {w:World} {b:Nat} {c:Array Value} {t:TypeId} (h:w.heap[b]?=some (.cells c t)) (o:Nat) (v0 v1 v2 v3 v4 v5 v6 v7 v8 v9:Value):
 ((((((((((w.setCell ⟨b,o,none⟩ v0).setCell ⟨b,o+1,none⟩ v1).setCell ⟨b,o+2,none⟩ v2).setCell ⟨b,o+3,none⟩ v3).setCell ⟨b,o+4,none⟩ v4).setCell ⟨b,o+5,none⟩ v5).setCell ⟨b,o+6,none⟩ v6).setCell ⟨b,o+7,none⟩ v7).setCell ⟨b,o+8,none⟩ v8).setCell ⟨b,o+9,none⟩ v9).heap[b]?=some (.cells (set10 c o v0 v1 v2 v3 v4 v5 v6 v7 v8 v9) t):=
 set_block (set_block (set_block (set_block (set_block (set_block (set_block (set_block (set_block (set_block h _ _) _ _) _ _) _ _) _ _) _ _) _ _) _ _) _ _) _ _
theorem keeps10 {S:Nat→Prop} {a w:World} (h:Keeps S a w) {b:Nat} (hb:S b∨a.heap.size≤b) (o:Nat) (v0 v1 v2 v3 v4 v5 v6 v7 v8 v9:Value):
 Keeps S a ((((((((((w.setCell ⟨b,o,none⟩ v0).setCell ⟨b,o+1,none⟩ v1).setCell ⟨b,o+2,none⟩ v2).setCell ⟨b,o+3,none⟩ v3).setCell ⟨b,o+4,none⟩ v4).setCell ⟨b,o+5,none⟩ v5).setCell ⟨b,o+6,none⟩ v6).setCell ⟨b,o+7,none⟩ v7).setCell ⟨b,o+8,none⟩ v8).setCell ⟨b,o+9,none⟩ v9):=
 (((((((((h.setCell (p:=⟨b,o,none⟩) hb v0).setCell (p:=⟨b,o+1,none⟩) hb v1).setCell (p:=⟨b,o+2,none⟩) hb v2).setCell (p:=⟨b,o+3,none⟩) hb v3).setCell (p:=⟨b,o+4,none⟩) hb v4).setCell (p:=⟨b,o+5,none⟩) hb v5).setCell (p:=⟨b,o+6,none⟩) hb v6).setCell (p:=⟨b,o+7,none⟩) hb v7).setCell (p:=⟨b,o+8,none⟩) hb v8).setCell (p:=⟨b,o+9,none⟩) hb v9
theorem set10_block0 {w:World} {b:Nat} {c:Array Value} {t:TypeId} (h:w.heap[b]?=some (.cells c t)) (v0 v1 v2 v3 v4 v5 v6 v7 v8 v9:Value):
 ((((((((((w.setCell ⟨b,0,none⟩ v0).setCell ⟨b,1,none⟩ v1).setCell ⟨b,2,none⟩ v2).setCell ⟨b,3,none⟩ v3).setCell ⟨b,4,none⟩ v4).setCell ⟨b,5,none⟩ v5).setCell ⟨b,6,none⟩ v6).setCell ⟨b,7,none⟩ v7).setCell ⟨b,8,none⟩ v8).setCell ⟨b,9,none⟩ v9).heap[b]?=some (.cells (set10 c 0 v0 v1 v2 v3 v4 v5 v6 v7 v8 v9) t):=
 set_block (set_block (set_block (set_block (set_block (set_block (set_block (set_block (set_block (set_block h _ _) _ _) _ _) _ _) _ _) _ _) _ _) _ _) _ _) _ _
theorem keeps10_0 {S:Nat→Prop} {a w:World} (h:Keeps S a w) {b:Nat} (hb:S b∨a.heap.size≤b) (v0 v1 v2 v3 v4 v5 v6 v7 v8 v9:Value):
 Keeps S a ((((((((((w.setCell ⟨b,0,none⟩ v0).setCell ⟨b,1,none⟩ v1).setCell ⟨b,2,none⟩ v2).setCell ⟨b,3,none⟩ v3).setCell ⟨b,4,none⟩ v4).setCell ⟨b,5,none⟩ v5).setCell ⟨b,6,none⟩ v6).setCell ⟨b,7,none⟩ v7).setCell ⟨b,8,none⟩ v8).setCell ⟨b,9,none⟩ v9):=
 (((((((((h.setCell (p:=⟨b,0,none⟩) hb v0).setCell (p:=⟨b,1,none⟩) hb v1).setCell (p:=⟨b,2,none⟩) hb v2).setCell (p:=⟨b,3,none⟩) hb v3).setCell (p:=⟨b,4,none⟩) hb v4).setCell (p:=⟨b,5,none⟩) hb v5).setCell (p:=⟨b,6,none⟩) hb v6).setCell (p:=⟨b,7,none⟩) hb v7).setCell (p:=⟨b,8,none⟩) hb v8).setCell (p:=⟨b,9,none⟩) hb v9
theorem set_oth2 {w:World} {b:Nat} {a:Addr} {v:Value} {o:Obj} (hb:b≠a.block) (h:w.heap[b]?=some o):(w.setCell a v).heap[b]?=some o:=set_oth h hb
theorem fin10 {w:World} {b:Nat} {a0 a1 a2 a3 a4 a5 a6 a7 a8 a9 v0 v1 v2 v3 v4 v5 v6 v7 v8 v9:Value} {t:TypeId} (h:w.heap[b]?=some (.cells #[a0,a1,a2,a3,a4,a5,a6,a7,a8,a9] t)):
 ((((((((((w.setCell ⟨b,0,none⟩ v0).setCell ⟨b,1,none⟩ v1).setCell ⟨b,2,none⟩ v2).setCell ⟨b,3,none⟩ v3).setCell ⟨b,4,none⟩ v4).setCell ⟨b,5,none⟩ v5).setCell ⟨b,6,none⟩ v6).setCell ⟨b,7,none⟩ v7).setCell ⟨b,8,none⟩ v8).setCell ⟨b,9,none⟩ v9).heap[b]?=some (.cells #[v0,v1,v2,v3,v4,v5,v6,v7,v8,v9] t):=
 (set10_block0 h v0 v1 v2 v3 v4 v5 v6 v7 v8 v9).trans (by rw [set10_all])
theorem fin2 {w:World} {b:Nat} {a0 a1 v0 v1:Value} {t:TypeId} (h:w.heap[b]?=some (.cells #[a0,a1] t)):
 ((w.setCell ⟨b,0,none⟩ v0).setCell ⟨b,1,none⟩ v1).heap[b]?=some (.cells #[v0,v1] t):=
 (set_block (set_block h 0 v0) 1 v1).trans rfl
end Go.Proofs.YtnlkfbndlngjaaaGreat
