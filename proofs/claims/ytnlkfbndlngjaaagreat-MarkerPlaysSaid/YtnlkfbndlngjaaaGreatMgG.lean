import Derived.Test.YtnlkfbndlngjaaaGreatMgD
import Derived.ChangeKeysEq
set_option maxRecDepth 100000
namespace Go.Proofs.YtnlkfbndlngjaaaGreat
open Go.RowKit
structure Sk where
 n:Nat
 f:Nat→Rf
def Sk.l (S:Sk):List Rf:=(List.range S.n).map S.f
def Sk.new:Sk:=⟨0,fun _=>.no⟩
def Sk.push (S:Sk) (r:Rf):Sk:=⟨S.n+1,updf S.f S.n r⟩
structure StC (c:Array Value) (S:Sk):Prop where
 size:c.size=66
 made:c[0]?=some (.bool true)
 len:c[1]?=some (.int .i64 S.n)
 row:Rfs c 2 32 S.f
 n32:S.n≤32
 wf:∀ i,(S.f i).Wf
def StAt (w:World) (b:Nat) (S:Sk):Prop:=∃ c,w.heap[b]?=some (.cells c 169)∧StC c S
theorem StAt.lt {w:World} {b:Nat} {S:Sk} (h:StAt w b S):b<w.heap.size:=by obtain⟨c,h,_⟩:=h;exact lt_block h
theorem StAt.keeps {w w':World} {b:Nat} {K:Sk} {S:Nat→Prop} (h:StAt w b K) (hk:Keeps S w w') (hS:¬ S b):StAt w' b K:=by
 obtain⟨c,h,hc⟩:=h;exact⟨c,block_keep h hk hS,hc⟩
theorem StAt.n32 {w:World} {b:Nat} {S:Sk} (h:StAt w b S):S.n≤32:=by obtain⟨c,h,hc⟩:=h;exact hc.n32
theorem StAt.wf {w:World} {b:Nat} {S:Sk} (h:StAt w b S) (i:Nat):(S.f i).Wf:=by obtain⟨c,h,hc⟩:=h;exact hc.wf i
theorem rz_list:Tryz.zeroCells169.toList = .bool false :: .int .i64 0 :: (List.replicate 32 [Value.int .i64 0,Value.int .u32 0]).flatten:=by kernel_rfl
theorem rz_new:StC (Tryz.zeroCells169.setIfInBounds 0 (.bool true)) Sk.new:=by
 have hs:Tryz.zeroCells169.size=66:=Tryz.zeroCells169_size
 have hz:∀ i,Tryz.zeroCells169[i]?=(Value.bool false :: Value.int .i64 0 :: (List.replicate 32 [Value.int .i64 0,Value.int .u32 0]).flatten)[i]?:=fun i=>by rw [← rz_list,Array.getElem?_toList]
 refine⟨by simp [hs],?_,?_,?_,by decide,fun i=>by simp [Sk.new,Rf.no,Rf.Wf]⟩
 ·rw [Array.getElem?_setIfInBounds_self_of_lt (by omega)]
 ·rw [Array.getElem?_setIfInBounds_ne (by omega),hz];rfl
 ·refine Rfs.head ?_ 0 (by omega) _
  intro i hi
  rw [hz,hz,show 2+i * 2=i * 2+1+1 by omega,show i * 2+1+1+1=(i * 2+1)+1+1 by omega,List.getElem?_cons_succ,List.getElem?_cons_succ,List.getElem?_cons_succ,List.getElem?_cons_succ]
  exact rep_get 32 i hi
theorem rnew_ok (w:World):
 Calls Tryz.prog 68 #[] w fun e w'=>e = .returned (.pointer (some ⟨w.heap.size,0,none⟩))∧Keeps (fun _=>False) w w'∧StAt w' w.heap.size Sk.new:=by
 go_enter Tryz.func68,Tryz.ntmps68
 go_wp2
 go_ret
 refine⟨rfl,?_,?_⟩
 ·exact (Keeps.refl _ _).alloc _
 ·exact⟨_,alloc_new,rz_new⟩
theorem rvalid (b:Nat) (w:World) (h:w.cell? ⟨b,0,none⟩=some (.bool true)):
 Calls Tryz.prog 97 #[.pointer (some ⟨b,0,none⟩)] w fun e w'=>e = .returned (.bool true)∧w'=w:=by
 go_enter Tryz.func97,Tryz.ntmps97
 go_wp2
 go_ret
 exact⟨rfl,rfl⟩
theorem rused (b:Nat) (S:Sk) (w:World) (h:StAt w b S):
 Calls Tryz.prog 242 #[.pointer (some ⟨b,0,none⟩)] w fun e w'=>e = .returned (.slice (some ⟨b,2,none⟩) S.n 32)∧Keeps (fun _=>False) w w':=by
 obtain⟨c,hc,hC⟩:=h
 have c0:=cell_at hc hC.made
 have c1:=cell_at hc hC.len
 have h32:=hC.n32
 have hI:(S.n:Int)≤32:=by omega
 have hI0:(0:Int)≤S.n:=by omega
 have hb:=lt_block hc
 clear hc hC
 go_enter Tryz.func242,Tryz.ntmps242
 go_wp2_with fail
 refine (rvalid b _ c0).mono ?_
 rintro e w' ⟨rfl,h'⟩
 obtain rfl:=h'.symm
 go_wp2_with fail
 go_quiet (fail)
 go_wp2_with fail
 go_ret
 exact⟨rfl,(by repeat (first | exact Keeps.refl _ _ | apply Keeps.alloc | apply Keeps.drewN | apply Keeps.drew))⟩
theorem rlen (b:Nat) (S:Sk) (w:World) (h:StAt w b S):
 Calls Tryz.prog 177 #[.pointer (some ⟨b,0,none⟩)] w fun e w'=>e = .returned (.int .i64 S.n)∧Keeps (fun _=>False) w w':=by
 have HU:=hid (rused b S w h)
 clear h
 go_enter Tryz.func177,Tryz.ntmps177
 go_wp2_with fail
 refine HU.out.mono ?_
 rintro e w' ⟨rfl,hk⟩
 go_wp2_with fail
 go_ret
 exact⟨rfl,hk⟩
theorem rall (b:Nat) (S:Sk) (w:World) (h:StAt w b S):
 Calls Tryz.prog 189 #[.pointer (some ⟨b,0,none⟩)] w fun e w'=>∃ v,e = .returned v∧Row w' w.heap.size v S.l∧Keeps (fun _=>False) w w':=by
 have HU:=hid (rused b S w h)
 have HS:=hid h
 clear h
 go_enter Tryz.func189,Tryz.ntmps189
 go_wp2_with fail
 refine HU.out.mono ?_
 rintro e w' ⟨rfl,hk⟩
 go_wp2_with fail
 obtain⟨c,hc,hC⟩:=HS.out.keeps hk (fun h=>h)
 have h32:=hC.n32
 refine (rclone_ok b 2 S.n 32 S.l w' (by simp [Sk.l]) (by omega) (fun j u hj=>cell_at hc (hC.row.news hC.n32 hj)) (lt_block hc)).mono ?_
 rintro e w2 ⟨v,rfl,hr,hk2⟩
 go_wp2_with fail
 go_ret
 exact⟨v,rfl,hr.mono hk.size,hk.trans hk2⟩
theorem rget_ok (b:Nat) (S:Sk) (i:Nat) (w:World) (h:StAt w b S) (hi:i<S.n):
 Calls Tryz.prog 181 #[.pointer (some ⟨b,0,none⟩),.int .i64 i] w fun e w'=>e = .returned (.tuple #[(S.f i).val,.int .i64 0])∧Keeps (fun _=>False) w w':=by
 obtain⟨c,hc,hC⟩:=h
 have c0:=cell_at hc hC.made
 have c1:=cell_at hc hC.len
 have h32:=hC.n32
 have cs:=cell_at hc (hC.row i (by omega)).1
 have cg:=cell_at hc (hC.row i (by omega)).2
 have hI:(i:Int)<S.n:=by omega
 have hI0:(0:Int)≤i:=by omega
 have hI32:(i:Int)<32:=by omega
 have hb:=lt_block hc
 have HV:=hid (fun o=>rvalid b _ (cell_at (block_keep hc ((Keeps.refl (fun _=>False) w).alloc o) (fun h=>h)) hC.made))
 clear hc hC
 go_enter Tryz.func181,Tryz.ntmps181
 go_wp2_with fail
 refine (HV.out _).mono ?_
 rintro e w' ⟨rfl,h'⟩
 obtain rfl:=h'.symm
 go_wp2_with fail
 refine bodyPost_ret_by (v:=.tuple #[(S.f i).val,.int .i64 0]) (by simp [results,Tryz.results181,go_sem,Rf.val, *]) rfl ⟨rfl,?_⟩
 exact (by repeat (first | exact Keeps.refl _ _ | apply Keeps.alloc | apply Keeps.drewN | apply Keeps.drew))
end Go.Proofs.YtnlkfbndlngjaaaGreat
namespace Go.Proofs.YtnlkfbndlngjaaaGreat
open Go.RowKit
theorem StC.push {c:Array Value} {S:Sk} (h:StC c S) (hn:S.n<32) (r:Rf) (hr:r.Wf):
 StC (((c.setIfInBounds (2+S.n * 2) (.int .i64 r.s)).setIfInBounds (2+S.n * 2+1) (.int .u32 r.g)).setIfInBounds 1 (.int .i64 ((S.n:Int)+1))) (S.push r):=by
 have hs:=h.size
 refine⟨by simp [hs],?_,?_,?_,by simp only [Sk.push];omega,?_⟩
 ·rw [Array.getElem?_setIfInBounds_ne (by omega),Array.getElem?_setIfInBounds_ne (by omega),Array.getElem?_setIfInBounds_ne (by omega)];exact h.made
 ·rw [Array.getElem?_setIfInBounds_self_of_lt (by simp;omega)];simp [Sk.push]
 ·exact (h.row.set S.n hn (by omega) r).head 1 (by omega) _
 ·intro i;simp only [Sk.push,updf];split;exact hr;exact h.wf i
theorem rpush_ok (b:Nat) (S:Sk) (r:Rf) (w:World) (h:StAt w b S) (hn:S.n<32) (h0:0≤r.s) (h1:r.s<256) (h2:1≤r.g) (h3:r.g≤4294967295):
 Calls Tryz.prog 178 #[.pointer (some ⟨b,0,none⟩),.agg #[.int .i64 r.s,.int .u32 r.g]] w fun e w'=>e = .returned (.tuple #[.int .i64 S.n,.int .i64 0])∧Keeps (fun y=>y=b) w w'∧StAt w' b (S.push r):=by
 obtain⟨c,hc,hC⟩:=h
 have HV:=hid (fun o=>rvalid b _ (cell_at (block_keep hc ((Keeps.refl (fun _=>False) w).alloc o) (fun h=>h)) hC.made))
 have c1:=cell_at hc hC.len
 have cs:=cell_at hc (hC.row S.n hn).1
 have cg:=cell_at hc (hC.row S.n hn).2
 have f1:=frozen_block hc 1
 have fs:=frozen_block hc (2+S.n * 2)
 have fg:=frozen_block hc (2+S.n * 2+1)
 have hb:=lt_block hc
 have hI:(S.n:Int)<32:=by omega
 have hI0:(0:Int)≤S.n:=by omega
 have hI1:((S.n:Int) == 32)=false:=by simp;omega
 have hd1:decide (r.s<0)=false:=by simp;omega
 have hd2:decide (256≤r.s)=false:=by simp;omega
 have hd3:(r.g == 0)=false:=by simp;omega
 have HB:=hid hc;have HC:=hid (hC.push hn r ⟨by omega,h3⟩)
 clear hc hC
 go_enter Tryz.func178,Tryz.ntmps178
 go_wp2_with fail
 refine (HV.out _).mono ?_
 rintro e w' ⟨rfl,h'⟩
 obtain rfl:=h'.symm
 go_wp2_with fail
 go_region
 all_goals
  go_wp2_with fail
  go_ret2
  refine⟨rfl,?_,_,alloc_old (set_block (set_block (set_block HB.out _ _) _ _) 1 _),HC.out⟩
  repeat (first | (with_reducible exact (Keeps.refl _ _)) | with_reducible refine Keeps.setCell ?_ ?_ _ | with_reducible refine Keeps.alloc ?_ _ | with_reducible refine Keeps.drewN ?_ _ | with_reducible refine Keeps.drew ?_)
  all_goals first | (left;simp;done) | (left;simp;omega) | (right;simp;done) | (right;simp;omega)
def Sk.drop (S:Sk) (i:Nat):Sk:=⟨S.n - 1,fun j=>if i≤j∧j<S.n - 1 then S.f (j+1) else S.f j⟩
theorem encR_at {l:List Rf} {j:Nat} {r:Rf} (h:l[j]?=some r):(l.flatMap encR)[j * 2]?=some (.int .i64 r.s)∧(l.flatMap encR)[j * 2+1]?=some (.int .u32 r.g):=by
 induction l generalizing j with
 | nil=>simp at h
 | cons x l ih=>
  rw [List.flatMap_cons]
  cases j with
  | zero=>simp at h;subst h;exact⟨rfl,rfl⟩
  | succ j=>
   simp at h
   obtain⟨a,b⟩:=ih h
   rw [show (j+1) * 2=j * 2+1+1 by omega]
   exact⟨by simpa [encR] using a,by simpa [encR] using b⟩
def dropL (S:Sk) (i:Nat):List Rf:=(List.range (S.n - (i+1))).map (fun j=>S.f (i+1+j))
theorem drop_mid {c:Array Value} {l:List Value} {o k:Nat} (ho:o+l.length≤c.size):
 ((c.toList.take o ++ l ++ c.toList.drop (o+l.length)).toArray)[k]?=if k<o then c[k]? else if k<o+l.length then l[k - o]? else c[k]?:=by
 rw [List.getElem?_toArray]
 have h1:(c.toList.take o).length=o:=by simp;omega
 by_cases hk:k<o
 ·rw [if_pos hk,List.append_assoc,List.getElem?_append_left (by omega),List.getElem?_take_of_lt hk,Array.getElem?_toList]
 ·rw [if_neg hk]
  by_cases hk2:k<o+l.length
  ·rw [if_pos hk2,List.getElem?_append_left (by simp;omega),List.getElem?_append_right (by omega),h1]
  ·rw [if_neg hk2,List.getElem?_append_right (by simp;omega),List.getElem?_drop,← Array.getElem?_toList]
   congr 1
   simp;omega
theorem StC.drop {c:Array Value} {S:Sk} (h:StC c S) (i:Nat) (hi:i<S.n):
 StC (((c.toList.take (2+i * 2) ++ (dropL S i).flatMap encR ++ c.toList.drop (2+i * 2+(dropL S i).length * 2)).toArray).setIfInBounds 1 (.int .i64 ((S.n:Int) - 1))) (S.drop i):=by
 have hs:=h.size
 have hn:=h.n32
 have hl:(dropL S i).length=S.n - (i+1):=by simp [dropL]
 have hl2:((dropL S i).flatMap encR).length=(S.n - (i+1)) * 2:=by rw [encR_len,hl]
 have key:∀ k,((c.toList.take (2+i * 2) ++ (dropL S i).flatMap encR ++ c.toList.drop (2+i * 2+(dropL S i).length * 2)).toArray)[k]? =
  if k<2+i * 2 then c[k]? else if k<2+i * 2+(S.n - (i+1)) * 2 then ((dropL S i).flatMap encR)[k - (2+i * 2)]? else c[k]?:=fun k=>by
  have:=drop_mid (c:=c) (l:=(dropL S i).flatMap encR) (o:=2+i * 2) (k:=k) (by omega)
  rw [hl2] at this
  rw [hl];exact this
 have hsz:((c.toList.take (2+i * 2) ++ (dropL S i).flatMap encR ++ c.toList.drop (2+i * 2+(dropL S i).length * 2)).toArray).size=66:=by
  simp [hl2,hl];omega
 refine⟨by simpa using hsz,?_,?_,?_,by simp only [Sk.drop];omega,?_⟩
 ·rw [Array.getElem?_setIfInBounds_ne (by omega),key,if_pos (by omega)];exact h.made
 ·rw [Array.getElem?_setIfInBounds_self_of_lt (by omega)];simp only [Sk.drop];congr 2;omega
 ·refine Rfs.head ?_ 1 (by omega) _
  intro j hj
  rw [key,key]
  by_cases hji:j<i
  ·have e:(S.drop i).f j=S.f j:=if_neg (by omega)
   rw [e,if_pos (by omega),if_pos (by omega)];exact h.row j hj
  ·by_cases hjn:j<S.n - 1
   ·have hd:(dropL S i)[j - i]?=some (S.f (j+1)):=by
     simp only [dropL,List.getElem?_map]
     rw [List.getElem?_range (by omega)]
     simp only [Option.map_some];congr 2;omega
    obtain⟨p,q⟩:=encR_at hd
    have e:(S.drop i).f j=S.f (j+1):=if_pos (by omega)
    rw [e,if_neg (by omega),if_pos (by omega),if_neg (by omega),if_pos (by omega),show 2+j * 2 - (2+i * 2)=(j - i) * 2 by omega,show 2+j * 2+1 - (2+i * 2)=(j - i) * 2+1 by omega]
    exact⟨p,q⟩
   ·have e:(S.drop i).f j=S.f j:=if_neg (by omega)
    rw [e,if_neg (by omega),if_neg (by omega),if_neg (by omega),if_neg (by omega)];exact h.row j hj
 ·intro j;simp only [Sk.drop];split
  ·exact h.wf _
  ·exact h.wf _
theorem rdrop_ok (b:Nat) (S:Sk) (i:Nat) (w:World) (h:StAt w b S) (hi:i<S.n):
 Calls Tryz.prog 112 #[.pointer (some ⟨b,0,none⟩),.int .i64 i] w fun e w'=>e = .returned (.tuple #[(S.f i).val,.int .i64 0])∧Keeps (fun y=>y=b) w w'∧StAt w' b (S.drop i):=by
 have HG:=hid (fun (w':World) (hk:Keeps (fun _=>False) w w')=>rget_ok b S i w' (h.keeps hk (fun h=>h)) hi)
 have HH:=hid h
 have n32:=h.n32
 obtain⟨c,hc,hC⟩:=h
 have hb:=lt_block hc
 have HB:=hid hc;have HC:=hid hC
 clear hc hC
 have hI:(i:Int)≤S.n:=by omega
 have hI0:(0:Int)≤i:=by omega
 have hI1:(i:Int)+1≤S.n:=by omega
 have hI2:(S.n:Int)≤32:=by omega
 have hI3:(0:Int)≤(i:Int)+1:=by omega
 have hwr:IntKind.i64.wrap ((i:Int)+1)=(i:Int)+1:=IntWalk.i64_in _ (by omega)
 go_enter Tryz.func112,Tryz.ntmps112
 go_wp2_with fail
 refine (HG.out _ (by repeat (first | exact Keeps.refl _ _ | apply Keeps.alloc | apply Keeps.drewN | apply Keeps.drew))).mono ?_
 rintro e w1 ⟨rfl,hk1⟩
 dsimp only [Rf.val]
 have hsz:=hk1.size
 simp only [World.size_alloc] at hsz
 have hlt:w.heap.size<w1.heap.size:=by omega
 obtain⟨a0,a1,af,al⟩:=cells2 (block_keep (alloc_new (w:=w)) hk1 (fun h=>h))
 have f0:=af 0;have f1:=af 1
 have hb1:=block_keep HB.out (((Keeps.refl (fun _=>False) w).alloc _).trans hk1) (fun h=>h)
 have c1:=cell_at hb1 HC.out.len
 have bl1:=lt_block hb1
 have HB1:=hid hb1;have HK1:=hid hk1
 clear hb1 hk1 af
 obtain⟨W2,hcp,hB2,hK2⟩:∃ W2,Sem.run Tryz.prog (Builtin.copy_ #[46,46] 3 #[.slice (some ⟨b,2+i * 2,none⟩) (S.n - i) (32 - i),.slice (some (if i=31 then ⟨b,2,none⟩ else ⟨b,2+(i+1) * 2,none⟩)) (S.n - (i+1)) (31 - i)])
  (w1.alloc (.cells #[.int .i64 (S.f i).s,.int .u32 (S.f i).g] 34)).drew = .ok (.int .i64 ((S.n - (i+1):Nat):Int)) W2∧
  W2.heap[b]?=some (.cells ((c.toList.take (2+i * 2) ++ (dropL S i).flatMap encR ++ c.toList.drop (2+i * 2+(dropL S i).length * 2)).toArray) 169)∧
  Keeps (fun y=>y=b) (w1.alloc (.cells #[.int .i64 (S.f i).s,.int .u32 (S.f i).g] 34)) W2:=by
  have hl:(dropL S i).length=S.n - (i+1):=by simp [dropL]
  have hb2:(w1.alloc (.cells #[.int .i64 (S.f i).s,.int .u32 (S.f i).g] 34)).drew.heap[b]?=some (.cells c 169):=alloc_old HB1.out
  have hs:=HC.out.size
  refine⟨_,(run_copy_refs _ _ _ _ b (2+i * 2) (S.n - i) (32 - i) (if i=31 then ⟨b,2,none⟩ else ⟨b,2+(i+1) * 2,none⟩) (S.n - (i+1)) (31 - i) c _ (dropL S i) Tryz.underlying46 hb2 ?_ ?_ ?_).trans (by rw [hl];rfl),?_,?_⟩
  ·rw [hl];exact (Nat.min_eq_left (by omega)).symm
  ·intro j v hv
   by_cases h31:i=31
   ·have:dropL S i=[]:=List.eq_nil_of_length_eq_zero (by omega)
    rw [this] at hv;simp at hv
   ·rw [if_neg h31,show (⟨b,2+(i+1) * 2,none⟩:Addr).add j=⟨b,2+(i+1) * 2+j,none⟩ by simp [Addr.add]]
    obtain⟨r,h1,h2⟩:=encR_get hv
    have hlt:j / 2<S.n - (i+1):=by
     rw [← hl];exact (List.getElem?_eq_some_iff.1 h1).1
    simp only [dropL,List.getElem?_map] at h1
    rw [List.getElem?_range hlt] at h1
    simp at h1
    obtain⟨p,q⟩:=HC.out.row (i+1+j / 2) (by omega)
    rw [h1] at p q
    by_cases hp:j % 2=0
    ·rw [if_pos hp] at h2;subst h2
     refine cell_at hb2 (Eq.trans ?_ p);congr 1;omega
    ·rw [if_neg hp] at h2;subst h2
     refine cell_at hb2 (Eq.trans ?_ q);congr 1;omega
  ·rw [hl];omega
  ·rw [hl];exact setRow_heap _ _ _ _ _ _ hb2
  ·exact⟨rfl,rfl,rfl,by simp [World.setRow,World.drew],fun k hk hs=>setRow_other _ _ _ _ hs⟩
 have hl2:((dropL S i).flatMap encR).length=(dropL S i).length * 2:=encR_len _
 have hl3:(dropL S i).length=S.n - (i+1):=by simp [dropL]
 have hs66:=HC.out.size
 have c1':=cell_at (i:=1) hB2 (v:=.int .i64 S.n) (by
  have:=drop_mid (c:=c) (l:=(dropL S i).flatMap encR) (o:=2+i * 2) (k:=1) (by omega)
  rw [if_pos (by omega),hl2] at this
  rw [this];exact HC.out.len)
 have f1':=frozen_block hB2 1
 have bl2:=lt_block hB2
 have hsz2:=hK2.size
 simp only [World.size_alloc] at hsz2
 have hlt1:w1.heap.size<W2.heap.size:=by omega
 have hlt2:w.heap.size<W2.heap.size:=by omega
 have hne:w1.heap.size≠b:=by omega
 have hne2:w.heap.size≠b:=by omega
 obtain⟨r0,r1,rf,_⟩:=cells2 (block_keep alloc_new hK2 (fun h=>by omega))
 have p1:=block_keep (alloc_new (w:=w)) HK1.out (fun h=>h)
 obtain⟨p0,p1,pf,_⟩:=cells2 (block_keep (alloc_old p1) hK2 (fun h=>by omega))
 have pf0:=pf 0;have pf1:=pf 1
 clear rf pf hl2 hl3 hs66
 have hB2':=hid hB2
 have HD:=hid (HC.out.drop i hi)
 have HKW:=hid (((((Keeps.refl (fun y=>y=b∨w.heap.size≤y) w).alloc _).trans HK1.out.up).alloc _).trans' hK2 (U:=fun y=>y=b∨w.heap.size≤y) (fun _ _ h=>h) (fun _ _ h=>.inl h))
 clear hB2 hK2
 go_wp2_with fail
 go_region
 go_wp2_with fail
 all_goals
  refine bodyPost_ret_by ?_ rfl ⟨rfl,?_,?_⟩
  ·simp [results,Tryz.results112,go_sem,Rf.val, *]
  ·refine Keeps.mono (S:=fun y=>y=b∨w.heap.size≤y) ?_ (fun y hy h=>by rcases h with h | h;exact h;omega)
   repeat (first | (with_reducible exact HKW.out) | with_reducible refine Keeps.setCell ?_ ?_ _ | with_reducible refine Keeps.alloc ?_ _ | with_reducible refine Keeps.drewN ?_ _ | with_reducible refine Keeps.drew ?_)
   all_goals first | (left;simp;done) | (left;simp;omega) | (right;simp;done) | (right;simp;omega)
  ·have kk:∀ (W:World) (u v:Value),Keeps (fun y=>y=w.heap.size) W ((W.setCell ⟨w.heap.size,0,none⟩ u).setCell ⟨w.heap.size,1,none⟩ v):=fun W u v=>(keeps_set1 _ _ _ _).trans (keeps_set1 _ _ _ _)
   refine⟨_,block_keep (set_block hB2'.out 1 _) (kk _ _ _) hne2.symm,?_⟩
   first
    | exact HD.out
    | (have e31:i=31:=(by assumption);rw [← e31];exact HD.out)
end Go.Proofs.YtnlkfbndlngjaaaGreat
namespace Go.Proofs.YtnlkfbndlngjaaaGreat
open Go.RowKit
structure GlC (c:Array Value) (f:Nat→Rf):Prop where
 size:c.size=17
 made:c[0]?=some (.bool true)
 row:Rfs c 1 8 f
 wf:∀ i,(f i).Wf
def GlAt (w:World) (b:Nat) (f:Nat→Rf):Prop:=∃ c,w.heap[b]?=some (.cells c 166)∧GlC c f
theorem GlAt.lt {w:World} {b:Nat} {f:Nat→Rf} (h:GlAt w b f):b<w.heap.size:=by obtain⟨c,h,_⟩:=h;exact lt_block h
theorem GlAt.keeps {w w':World} {b:Nat} {f:Nat→Rf} {S:Nat→Prop} (h:GlAt w b f) (hk:Keeps S w w') (hS:¬ S b):GlAt w' b f:=by
 obtain⟨c,h,hc⟩:=h;exact⟨c,block_keep h hk hS,hc⟩
theorem gz_new:GlC #[.bool true,.int .i64 0,.int .u32 0,.int .i64 0,.int .u32 0,.int .i64 0,.int .u32 0,.int .i64 0,.int .u32 0,.int .i64 0,.int .u32 0,.int .i64 0,.int .u32 0,.int .i64 0,.int .u32 0,.int .i64 0,.int .u32 0] (fun _=>.no):=by
 refine⟨rfl,rfl,?_,fun i=>by simp [Rf.no,Rf.Wf]⟩
 intro i hi
 match i,hi with
 | 0,_=>exact⟨rfl,rfl⟩
 | 1,_=>exact⟨rfl,rfl⟩
 | 2,_=>exact⟨rfl,rfl⟩
 | 3,_=>exact⟨rfl,rfl⟩
 | 4,_=>exact⟨rfl,rfl⟩
 | 5,_=>exact⟨rfl,rfl⟩
 | 6,_=>exact⟨rfl,rfl⟩
 | 7,_=>exact⟨rfl,rfl⟩
theorem glnew_ok (w:World):
 Calls Tryz.prog 67 #[] w fun e w'=>e = .returned (.pointer (some ⟨w.heap.size,0,none⟩))∧Keeps (fun _=>False) w w'∧GlAt w' w.heap.size (fun _=>.no):=by
 go_enter Tryz.func67,Tryz.ntmps67
 go_wp2
 go_ret
 refine⟨rfl,?_,?_⟩
 ·exact (Keeps.refl _ _).alloc _
 ·exact⟨_,alloc_new,gz_new⟩
end Go.Proofs.YtnlkfbndlngjaaaGreat
namespace Go.Proofs.YtnlkfbndlngjaaaGreat
open Go.RowKit
theorem eq_vars0 (w:World):
 Sem.run Tryz.prog (binOp .eql 164 (.agg #[.int .i64 0,.int .u32 0,.int .i64 0,.int .u32 0,.int .i64 0,.int .u32 0,.int .i64 0,.int .u32 0,.int .i64 0,.int .u32 0,.int .i64 0,.int .u32 0,.int .i64 0,.int .u32 0,.int .i64 0,.int .u32 0])
  (.agg #[.int .i64 0,.int .u32 0,.int .i64 0,.int .u32 0,.int .i64 0,.int .u32 0,.int .i64 0,.int .u32 0,.int .i64 0,.int .u32 0,.int .i64 0,.int .u32 0,.int .i64 0,.int .u32 0,.int .i64 0,.int .u32 0])) w = .ok (.bool true) w:=by kernel_rfl
theorem glall_none (b:Nat) (w:World) (h:GlAt w b (fun _=>.no)):
 Calls Tryz.prog 262 #[.pointer (some ⟨b,0,none⟩)] w fun e w'=>e = .returned (.slice none 0 0)∧Keeps (fun _=>False) w w':=by
 obtain⟨c,hc,hC⟩:=h
 have hq:=eq_vars0
 have c1:=cell_at hc (hC.row 0 (by omega)).1
 have c2:=cell_at hc (hC.row 0 (by omega)).2
 have c3:=cell_at hc (hC.row 1 (by omega)).1
 have c4:=cell_at hc (hC.row 1 (by omega)).2
 have c5:=cell_at hc (hC.row 2 (by omega)).1
 have c6:=cell_at hc (hC.row 2 (by omega)).2
 have c7:=cell_at hc (hC.row 3 (by omega)).1
 have c8:=cell_at hc (hC.row 3 (by omega)).2
 have c9:=cell_at hc (hC.row 4 (by omega)).1
 have c10:=cell_at hc (hC.row 4 (by omega)).2
 have c11:=cell_at hc (hC.row 5 (by omega)).1
 have c12:=cell_at hc (hC.row 5 (by omega)).2
 have c13:=cell_at hc (hC.row 6 (by omega)).1
 have c14:=cell_at hc (hC.row 6 (by omega)).2
 have c15:=cell_at hc (hC.row 7 (by omega)).1
 have c16:=cell_at hc (hC.row 7 (by omega)).2
 simp only [Nat.zero_mul,Nat.one_mul,Nat.reduceMul,Nat.reduceAdd,Rf.no] at c1 c2 c3 c4 c5 c6 c7 c8 c9 c10 c11 c12 c13 c14 c15 c16
 clear hc hC
 go_enter Tryz.func262,Tryz.ntmps262
 go_wp2
 go_ret
 exact⟨rfl,(by repeat (first | exact Keeps.refl _ _ | apply Keeps.alloc | apply Keeps.drewN | apply Keeps.drew))⟩
end Go.Proofs.YtnlkfbndlngjaaaGreat
