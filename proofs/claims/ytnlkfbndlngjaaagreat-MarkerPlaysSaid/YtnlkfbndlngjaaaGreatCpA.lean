import Derived.Test.YtnlkfbndlngjaaaGreatCgA
import Derived.Test.YtnlkfbndlngjaaaGreatMgO
import Derived.Deep.AppendLies
import Derived.Deep.RegionLaw
set_option maxHeartbeats 2000000
set_option maxRecDepth 100000
namespace Go.Proofs.YtnlkfbndlngjaaaGreat
open Go.RowKit
set_option linter.unusedVariables false
theorem all_one {c:Array Value} (h:∀ i,i<c.size→∃ v,c[i]?=some v∧v.oneCell'=true):c.all (·.oneCell')=true:=by
 rw [Array.all_eq_true]
 intro i hi
 obtain⟨v,hv,h1⟩:=h i hi
 obtain⟨_,hx⟩:=Array.getElem?_eq_some_iff.1 hv
 rw [hx];exact h1
theorem Rfs.one2 {c:Array Value} {off m:Nat} {f:Nat→Rf} (h:Rfs c off m f) {i:Nat} (h0:off≤i) (h1:i<off+m * 2):∃ v,c[i]?=some v∧v.oneCell'=true:=by
 obtain⟨a,b⟩:=h ((i - off) / 2) (by omega)
 by_cases e:(i - off) % 2=0
 ·rw [show off+(i - off) / 2 * 2=i by omega] at a
  exact⟨_,a,rfl⟩
 ·rw [show off+(i - off) / 2 * 2+1=i by omega] at b
  exact⟨_,b,rfl⟩
theorem BfC.one {c:Array Value} {B:Bf} (h:BfC c B):c.all (·.oneCell')=true:=all_one fun i hi=>by
 rw [h.sz] at hi
 by_cases h1:i<64
 ·exact⟨_,h.row i h1,rfl⟩
 ·have:i=64∨i=65∨i=66∨i=67:=by omega
  rcases this with rfl | rfl | rfl | rfl
  ·exact⟨_,h.size,rfl⟩
  ·exact⟨_,h.from',rfl⟩
  ·exact⟨_,h.n,rfl⟩
  ·exact⟨_,h.whole,rfl⟩
theorem StC.one {c:Array Value} {S:Sk} (h:StC c S):c.all (·.oneCell')=true:=all_one fun i hi=>by
 rw [h.size] at hi
 by_cases h0:i=0
 ·subst h0;exact⟨_,h.made,rfl⟩
 by_cases h1:i=1
 ·subst h1;exact⟨_,h.len,rfl⟩
 ·exact h.row.one2 (by omega) (by omega)
theorem bcopy_ok (b:Nat) (B:Bf) (w:World) (h:BfAt w b B):
 Calls Tryz.prog 47 #[.pointer (some ⟨b,0,none⟩)] w fun e w'=>e = .returned (.pointer (some ⟨w.heap.size,0,none⟩))∧Keeps (fun _=>False) w w'∧BfAt w' w.heap.size B:=by
 have HV:=hid (bmade b B w h)
 obtain⟨c,hb,hc⟩:=h
 have hs:=hc.sz
 have HB:=hid hb;clear hb
 have HI:=hid (show (Tryz.prog.info? 183).map (·.size)=some c.size by rw [hs];kernel_rfl)
 have hst:∀ w':World,Sem.run Tryz.prog (storeCells ⟨w'.heap.size,0,none⟩ c.toList) (w'.alloc (.cells Tryz.zeroCells183 183)) = .ok () (w'.alloc (.cells c 183)):=
  fun w'=>run_storeCells_new w' _ _ c HI.out (by rw [Tryz.zeroCells183_size,hs]) hc.one
 have HC:=hid hc;clear hc
 have HS:=hid hs;clear hs
 go_enter Tryz.func47,Tryz.ntmps47
 go_wp2_with fail
 refine (HV.out).mono ?_
 rintro e w' ⟨rfl,h'⟩
 obtain rfl:=h'.symm
 go_wp2_with (with_reducible refine wpList_load_row rfl _ _ rfl b rfl _ c _ _ HB.out Tryz.underlying183 rfl HI.out ?_)
 go_ret
 exact⟨rfl,(Keeps.refl _ _).alloc _,c,alloc_new,HC.out⟩
theorem rcopy_ok (b:Nat) (S:Sk) (w:World) (h:StAt w b S):
 Calls Tryz.prog 42 #[.pointer (some ⟨b,0,none⟩)] w fun e w'=>e = .returned (.pointer (some ⟨w.heap.size,0,none⟩))∧Keeps (fun _=>False) w w'∧StAt w' w.heap.size S:=by
 obtain⟨c,hb,hc⟩:=h
 have HV:=hid (rvalid b w (cell_at hb hc.made))
 have hs:=hc.size
 have HB:=hid hb;clear hb
 have HI:=hid (show (Tryz.prog.info? 169).map (·.size)=some c.size by rw [hs];kernel_rfl)
 have hst:∀ w':World,Sem.run Tryz.prog (storeCells ⟨w'.heap.size,0,none⟩ c.toList) (w'.alloc (.cells Tryz.zeroCells169 169)) = .ok () (w'.alloc (.cells c 169)):=
  fun w'=>run_storeCells_new w' _ _ c HI.out (by rw [Tryz.zeroCells169_size,hs]) hc.one
 have HC:=hid hc;clear hc
 have HS:=hid hs;clear hs
 go_enter Tryz.func42,Tryz.ntmps42
 go_wp2_with fail
 refine (HV.out).mono ?_
 rintro e w' ⟨rfl,h'⟩
 obtain rfl:=h'.symm
 go_wp2_with (with_reducible refine wpList_load_row rfl _ _ rfl b rfl _ c _ _ HB.out Tryz.underlying169 rfl HI.out ?_)
 go_ret
 exact⟨rfl,(Keeps.refl _ _).alloc _,c,alloc_new,HC.out⟩
theorem glcopy_ok (b:Nat) (f:Nat→Rf) (w:World) (h:GlAt w b f):
 Calls Tryz.prog 41 #[.pointer (some ⟨b,0,none⟩)] w fun e w'=>e = .returned (.pointer (some ⟨w.heap.size,0,none⟩))∧Keeps (fun _=>False) w w'∧GlAt w' w.heap.size f:=by
 obtain⟨c,hb,hc⟩:=h
 have HC:=hid hc
 obtain rfl:c=[Value.bool true,Value.int .i64 (f 0).s,Value.int .u32 (f 0).g,Value.int .i64 (f 1).s,Value.int .u32 (f 1).g,Value.int .i64 (f 2).s,Value.int .u32 (f 2).g,Value.int .i64 (f 3).s,Value.int .u32 (f 3).g,Value.int .i64 (f 4).s,Value.int .u32 (f 4).g,Value.int .i64 (f 5).s,Value.int .u32 (f 5).g,Value.int .i64 (f 6).s,Value.int .u32 (f 6).g,Value.int .i64 (f 7).s,Value.int .u32 (f 7).g].toArray:=arr_eq (l:=[Value.bool true,Value.int .i64 (f 0).s,Value.int .u32 (f 0).g,Value.int .i64 (f 1).s,Value.int .u32 (f 1).g,Value.int .i64 (f 2).s,Value.int .u32 (f 2).g,Value.int .i64 (f 3).s,Value.int .u32 (f 3).g,Value.int .i64 (f 4).s,Value.int .u32 (f 4).g,Value.int .i64 (f 5).s,Value.int .u32 (f 5).g,Value.int .i64 (f 6).s,Value.int .u32 (f 6).g,Value.int .i64 (f 7).s,Value.int .u32 (f 7).g]) (by rw [hc.size];rfl) (fun i u hu=>by
  match i,hu with
  | 0,hu=>rw [← hu];exact hc.made
  | 1,hu=>rw [← hu];exact (hc.row 0 (by omega)).1
  | 2,hu=>rw [← hu];exact (hc.row 0 (by omega)).2
  | 3,hu=>rw [← hu];exact (hc.row 1 (by omega)).1
  | 4,hu=>rw [← hu];exact (hc.row 1 (by omega)).2
  | 5,hu=>rw [← hu];exact (hc.row 2 (by omega)).1
  | 6,hu=>rw [← hu];exact (hc.row 2 (by omega)).2
  | 7,hu=>rw [← hu];exact (hc.row 3 (by omega)).1
  | 8,hu=>rw [← hu];exact (hc.row 3 (by omega)).2
  | 9,hu=>rw [← hu];exact (hc.row 4 (by omega)).1
  | 10,hu=>rw [← hu];exact (hc.row 4 (by omega)).2
  | 11,hu=>rw [← hu];exact (hc.row 5 (by omega)).1
  | 12,hu=>rw [← hu];exact (hc.row 5 (by omega)).2
  | 13,hu=>rw [← hu];exact (hc.row 6 (by omega)).1
  | 14,hu=>rw [← hu];exact (hc.row 6 (by omega)).2
  | 15,hu=>rw [← hu];exact (hc.row 7 (by omega)).1
  | 16,hu=>rw [← hu];exact (hc.row 7 (by omega)).2
  | k+17,hu=>simp at hu)
 have hbl:=lt_block hb
 have hcl:∀ i,w.cell? ⟨b,i,none⟩=_:=fun i=>cell_block hb i
 have c0:=cell_at (i:=0) hb rfl
 have c1:=cell_at (i:=1) hb rfl
 have c2:=cell_at (i:=2) hb rfl
 have c3:=cell_at (i:=3) hb rfl
 have c4:=cell_at (i:=4) hb rfl
 have c5:=cell_at (i:=5) hb rfl
 have c6:=cell_at (i:=6) hb rfl
 have c7:=cell_at (i:=7) hb rfl
 have c8:=cell_at (i:=8) hb rfl
 have c9:=cell_at (i:=9) hb rfl
 have c10:=cell_at (i:=10) hb rfl
 have c11:=cell_at (i:=11) hb rfl
 have c12:=cell_at (i:=12) hb rfl
 have c13:=cell_at (i:=13) hb rfl
 have c14:=cell_at (i:=14) hb rfl
 have c15:=cell_at (i:=15) hb rfl
 have c16:=cell_at (i:=16) hb rfl
 clear hb hc hcl
 go_enter Tryz.func41,Tryz.ntmps41
 go_wp2_with fail
 go_ret
 exact⟨rfl,(Keeps.refl _ _).alloc _,_,alloc_new,HC.out⟩
theorem phcopy_ok (b:Nat) (K:Ck) (w:World) (h:CkAt w b K):
 Calls Tryz.prog 44 #[.pointer (some ⟨b,0,none⟩)] w fun e w'=>e = .returned (.pointer (some ⟨w.heap.size,0,none⟩))∧Keeps (fun _=>False) w w'∧CkAt w' w.heap.size K:=by
 have HV:=hid (ph_valid b K w h)
 have HH:=hid h
 obtain⟨c0,c1,c2,c3,c4,c5,c6,c7,c8,c9,c10,cl⟩:=cells11 (by simpa only [Ck.arr] using h.own)
 clear h
 go_enter Tryz.func44,Tryz.ntmps44
 go_wp2_with fail
 refine (HV.out).mono ?_
 rintro e w' ⟨rfl,h'⟩
 obtain rfl:=h'.symm
 go_wp2_with fail
 go_ret
 exact⟨rfl,(Keeps.refl _ _).alloc _,⟨alloc_new,HH.out.m1,HH.out.m4,HH.out.p5⟩⟩
end Go.Proofs.YtnlkfbndlngjaaaGreat
namespace Go.Proofs.YtnlkfbndlngjaaaGreat
open Go.RowKit
set_option linter.unusedVariables false
set_option linter.unusedSimpArgs false
structure ArQ (c:Array Value) (o g:Nat) (ss old:Nat→Nat) (n many k:Nat):Prop where
 size:c.size=8
 obj:c[0]?=some (.pointer (some ⟨o,0,none⟩))
 len:c[1]?=some (.int .i64 n)
 mny:c[2]?=some (.int .i64 many)
 st:∀ m,m<4→c[3+m]?=some (.pointer (if m<many then some ⟨if m<k then ss m else old m,0,none⟩ else none))
 gl:c[7]?=some (.pointer (some ⟨g,0,none⟩))
theorem ArQ.of {c:Array Value} {L:ArL} {n many:Nat} (h:ArC c L n many) (o g:Nat) (ss:Nat→Nat):ArQ ((c.setIfInBounds 0 (.pointer (some ⟨o,0,none⟩))).setIfInBounds 7 (.pointer (some ⟨g,0,none⟩))) o g ss L.ss n many 0:=by
 have hs:=h.size
 refine⟨by simpa using hs,?_,?_,?_,fun m hm=>?_,?_⟩
 ·rw [Array.getElem?_setIfInBounds_ne (by omega),Array.getElem?_setIfInBounds_self_of_lt (by omega)]
 ·rw [Array.getElem?_setIfInBounds_ne (by omega),Array.getElem?_setIfInBounds_ne (by omega)];exact h.len
 ·rw [Array.getElem?_setIfInBounds_ne (by omega),Array.getElem?_setIfInBounds_ne (by omega)];exact h.mny
 ·rw [Array.getElem?_setIfInBounds_ne (by omega),Array.getElem?_setIfInBounds_ne (by omega),h.st m hm]
  simp
 ·rw [Array.getElem?_setIfInBounds_self_of_lt (by simp;omega)]
theorem ArQ.step {c:Array Value} {o g:Nat} {ss old:Nat→Nat} {n many k:Nat} (h:ArQ c o g ss old n many k) (hk:k<many) (h4:many≤4) (s:Nat):ArQ (c.setIfInBounds (3+k) (.pointer (some ⟨s,0,none⟩))) o g (updf ss k s) old n many (k+1):=by
 have hs:=h.size
 refine⟨by simpa using hs,?_,?_,?_,fun m hm=>?_,?_⟩
 ·rw [Array.getElem?_setIfInBounds_ne (by omega)];exact h.obj
 ·rw [Array.getElem?_setIfInBounds_ne (by omega)];exact h.len
 ·rw [Array.getElem?_setIfInBounds_ne (by omega)];exact h.mny
 ·by_cases e:m=k
  ·subst e
   rw [Array.getElem?_setIfInBounds_self_of_lt (by omega),if_pos hk,if_pos (by omega),updf_same]
  ·rw [Array.getElem?_setIfInBounds_ne (by omega),h.st m hm,updf_ne _ _ e]
   congr 2
   by_cases h0:m<many
   ·rw [if_pos h0,if_pos h0]
    by_cases h1:m<k
    ·rw [if_pos h1,if_pos (by omega)]
    ·rw [if_neg h1,if_neg (by omega)]
   ·rw [if_neg h0,if_neg h0]
 ·rw [Array.getElem?_setIfInBounds_ne (by omega)];exact h.gl
theorem ArQ.fin {c:Array Value} {o g:Nat} {ss old:Nat→Nat} {n many:Nat} (h:ArQ c o g ss old n many many) (b t:Nat):ArC c ⟨o,b,t,g,ss⟩ n many:=by
 refine⟨h.size,h.obj,h.len,h.mny,fun m hm=>?_,h.gl⟩
 rw [h.st m hm]
 by_cases h0:m<many
 ·rw [if_pos h0,if_pos h0,if_pos h0]
 ·rw [if_neg h0,if_neg h0]
theorem acopy_ok (a:Nat) (L:ArL) (A:Ar) (w:World) (h:ArIn w a L A):
 Calls Tryz.prog 13 #[.pointer (some ⟨a,0,none⟩)] w fun e w'=>∃ a',e = .returned (.pointer (some ⟨a',0,none⟩))∧Keeps (fun _=>False) w w'∧ArAt w' a' w.heap.size w'.heap.size A:=by
 have HV:=hid (avalid a L.o w h.c0)
 obtain⟨⟨c,hb,hc⟩,ho,hhp,hgl,hst,hinj,m1,m4⟩:=id h
 have la:=lt_block hb;have lo:=lt_block ho
 have HF:=hid (fun (W:World) (hk:Keeps (fun y=>w.heap.size≤y) w W)=>And.intro (cell_at (block_keep hb hk (by omega)) hc.obj) (And.intro (cells1 (block_keep ho hk (by omega))).1 (cell_at (block_keep hb hk (by omega)) hc.gl)))
 have HCP:=hid (fun (W:World) (hk:Keeps (fun y=>w.heap.size≤y) w W)=>hcopy_ok L.b L.t A.H W (hhp.keeps hk (by have:=hhp.lt;omega) (by have:=hhp.tab.lt;omega)))
 have HGC:=hid (fun (W:World) (hk:Keeps (fun y=>w.heap.size≤y) w W)=>glcopy_ok L.g A.gl W (hgl.keeps hk (by have:=hgl.lt;omega)))
 have HRC:=hid (fun (W:World) (hk:Keeps (fun y=>w.heap.size≤y) w W) (m:Nat) (hm:m<A.many)=>rcopy_ok (L.ss m) (A.rt m) W ((hst m hm).keeps hk (by have:=(hst m hm).lt;omega)))
 have HC3:=hid (fun (W:World) (hk:Keeps (fun y=>w.heap.size≤y) w W) (m:Nat) (hm:m<A.many)=>cell_at (block_keep hb hk (by omega)) ((hc.st m (by omega)).trans (by rw [if_pos hm])))
 have HC2:=hid (fun (W:World) (hk:Keeps (fun y=>w.heap.size≤y) w W)=>cell_at (block_keep hb hk (by omega)) hc.mny)
 obtain⟨q3,hq3⟩:∃ q,(if 0<A.many then some (⟨L.ss 0,0,none⟩:Addr) else none)=q:=⟨_,rfl⟩
 obtain⟨q4,hq4⟩:∃ q,(if 1<A.many then some (⟨L.ss 1,0,none⟩:Addr) else none)=q:=⟨_,rfl⟩
 obtain⟨q5,hq5⟩:∃ q,(if 2<A.many then some (⟨L.ss 2,0,none⟩:Addr) else none)=q:=⟨_,rfl⟩
 obtain⟨q6,hq6⟩:∃ q,(if 3<A.many then some (⟨L.ss 3,0,none⟩:Addr) else none)=q:=⟨_,rfl⟩
 have e3:c[3]?=some (.pointer q3):=by rw [← hq3];exact hc.st 0 (by omega)
 have e4:c[4]?=some (.pointer q4):=by rw [← hq4];exact hc.st 1 (by omega)
 have e5:c[5]?=some (.pointer q5):=by rw [← hq5];exact hc.st 2 (by omega)
 have e6:c[6]?=some (.pointer q6):=by rw [← hq6];exact hc.st 3 (by omega)
 have hcc:c=[Value.pointer (some ⟨L.o,0,none⟩),Value.int .i64 A.H.T.n,Value.int .i64 A.many,Value.pointer q3,Value.pointer q4,Value.pointer q5,Value.pointer q6,Value.pointer (some ⟨L.g,0,none⟩)].toArray:=arr_eq (l:=[Value.pointer (some ⟨L.o,0,none⟩),Value.int .i64 A.H.T.n,Value.int .i64 A.many,Value.pointer q3,Value.pointer q4,Value.pointer q5,Value.pointer q6,Value.pointer (some ⟨L.g,0,none⟩)]) (by rw [hc.size];rfl) (fun i u hu=>by
  match i,hu with
  | 0,hu=>rw [← hu];exact hc.obj
  | 1,hu=>rw [← hu];exact hc.len
  | 2,hu=>rw [← hu];exact hc.mny
  | 3,hu=>rw [← hu];exact e3
  | 4,hu=>rw [← hu];exact e4
  | 5,hu=>rw [← hu];exact e5
  | 6,hu=>rw [← hu];exact e6
  | 7,hu=>rw [← hu];exact hc.gl
  | k+8,hu=>simp at hu)
 have HCC:=hid hcc
 have HC:=hid hc;have HM1:=hid m1;have HM4:=hid m4;have HG:=hid hhp.good
 have c0:=cell_at (i:=0) hb hc.obj
 have c1:=cell_at (i:=1) hb hc.len
 have c2:=cell_at (i:=2) hb hc.mny
 have c7:=cell_at (i:=7) hb hc.gl
 have c3:=cell_at (i:=3) hb e3
 have c4:=cell_at (i:=4) hb e4
 have c5:=cell_at (i:=5) hb e5
 have c6:=cell_at (i:=6) hb e6
 clear hb ho hhp hgl hst hinj m1 m4 hc h hcc hq3 hq4 hq5 hq6 e3 e4 e5 e6
 go_enter Tryz.func13,Tryz.ntmps13
 go_wp2_with fail
 refine (HV.out).mono ?_
 rintro e w' ⟨rfl,h'⟩
 obtain rfl:=h'.symm
 go_wp2_with fail
 have HSK:=hid (fun (W:World) (hk:Keeps (fun y=>w.heap.size≤y) w W)=>HF.out W hk)
 obtain⟨w1,hw1⟩:∃ w1,w.alloc (.cells #[Value.pointer (some ⟨L.o,0,none⟩),Value.int .i64 A.H.T.n,Value.int .i64 A.many,Value.pointer q3,Value.pointer q4,Value.pointer q5,Value.pointer q6,Value.pointer (some ⟨L.g,0,none⟩)] 90)=w1:=⟨_,rfl⟩
 have HK0:=hid (show Keeps (fun y=>w.heap.size≤y) w w1 by rw [← hw1];exact ((Keeps.refl (fun y=>w.heap.size≤y) w).alloc _))
 have hz1:w1.heap.size=w.heap.size+1:=by rw [← hw1];simp
 have HNB:=hid (fun (W:World) (hk:Keeps (fun _=>False) w1 W)=>(show W.heap[w.heap.size]?=some (.cells #[Value.pointer (some ⟨L.o,0,none⟩),Value.int .i64 A.H.T.n,Value.int .i64 A.many,Value.pointer q3,Value.pointer q4,Value.pointer q5,Value.pointer q6,Value.pointer (some ⟨L.g,0,none⟩)] 90) from block_keep (by rw [← hw1];exact alloc_new) hk (fun h=>h)))
 rw [hw1]
 clear hw1 c0 c1 c2 c3 c4 c5 c6 c7
 go_cut [26] (fun _ wx=>∃ o' g' hh hp,Keeps (fun y=>w.heap.size≤y) w wx∧wx.heap[w.heap.size]?=some (.cells #[Value.pointer (some ⟨o',0,none⟩),Value.int .i64 A.H.T.n,Value.int .i64 A.many,Value.pointer q3,Value.pointer q4,Value.pointer q5,Value.pointer q6,Value.pointer (some ⟨g',0,none⟩)] 90)∧wx.heap[o']?=some (.cells #[.pointer (some ⟨hh,0,none⟩)] 92)∧HpAt wx hh hp A.H∧GlAt wx g' A.gl∧w.heap.size<o'∧w.heap.size<g'∧w.heap.size<hh∧w.heap.size<hp)
 case first=>
  go_region_held3 (fun W=>W.cell? ⟨a,0,none⟩=some (.pointer (some ⟨L.o,0,none⟩))∧W.cell? ⟨L.o,0,none⟩=some (.pointer (some ⟨L.b,0,none⟩))∧W.cell? ⟨a,7,none⟩=some (.pointer (some ⟨L.g,0,none⟩)))
   ((refine HSK.out _ ?_;(repeat (first | with_reducible exact HK0.out | with_reducible refine Keeps.alloc ?_ _ | with_reducible refine Keeps.drew ?_ | with_reducible refine Keeps.setCell ?_ (.inl ?_) _ | with_reducible refine Keeps.trans ?_ (Keeps.up (by with_reducible assumption)))) <;> (dsimp only;omega)))
   (first
    | (go_at_call 40;refine (HCP.out _ (by (repeat (first | with_reducible exact HK0.out | with_reducible refine Keeps.alloc ?_ _ | with_reducible refine Keeps.drew ?_ | with_reducible refine Keeps.trans ?_ (Keeps.up (by with_reducible assumption)))))).mono ?_;rintro e w2 ⟨hh,hp,rfl,hk2,hl2,hm2,hH2⟩;have hnb2:=HNB.out _ (show Keeps (fun _=>False) w1 w2 by (repeat (first | with_reducible exact Keeps.refl _ _ | with_reducible refine Keeps.alloc ?_ _ | with_reducible refine Keeps.drew ?_ | with_reducible refine Keeps.trans ?_ (by with_reducible assumption))));have fz0:=frozen_block hnb2 0;have fz7:=frozen_block hnb2 7;have fc0:=cell_at (i:=0) hnb2 rfl;have fc7:=cell_at (i:=7) hnb2 rfl;have fl:=lt_block hnb2)
    | (go_at_call 41;refine (HGC.out _ (by (repeat (first | with_reducible exact HK0.out | with_reducible refine Keeps.alloc ?_ _ | with_reducible refine Keeps.drew ?_ | with_reducible refine Keeps.trans ?_ (Keeps.up (by with_reducible assumption)))))).mono ?_;rintro e w3 ⟨rfl,hk3,hG3⟩;have hnb3:=HNB.out _ (show Keeps (fun _=>False) w1 w3 by (repeat (first | with_reducible exact Keeps.refl _ _ | with_reducible refine Keeps.alloc ?_ _ | with_reducible refine Keeps.drew ?_ | with_reducible refine Keeps.trans ?_ (by with_reducible assumption))));have gz0:=frozen_block hnb3 0;have gz7:=frozen_block hnb3 7;have gc0:=cell_at (i:=0) hnb3 rfl;have gc7:=cell_at (i:=7) hnb3 rfl;have gl:=lt_block hnb3))
  all_goals
   go_wp2_with fail
   go_meet
   have hzz2:=hk2.size;have hzz3:=hk3.size
   (try simp only [World.size_alloc] at hzz2 hzz3 hG3)
   have HHP:=hH2.lt;have HHT:=hH2.tab.lt;have HGT:=hG3.lt
   have hzd:w1.drew.heap.size=w1.heap.size:=rfl
   first
    | exact⟨w3.heap.size,_,hh,hp,(by (repeat (first | with_reducible exact HK0.out | with_reducible refine Keeps.alloc ?_ _ | with_reducible refine Keeps.drew ?_ | with_reducible refine Keeps.setCell ?_ (.inl ?_) _ | with_reducible refine Keeps.trans ?_ (Keeps.up (by with_reducible assumption)))) <;> first | rfl | exact Nat.le_refl _),alloc_old ((set_block (set_block hnb3 0 _) 7 _).trans rfl),alloc_new' (by simp [World.setCell]),hH2.keeps (S:=fun y=>y=w.heap.size) (by (repeat (first | with_reducible exact Keeps.refl _ _ | with_reducible refine Keeps.alloc ?_ _ | with_reducible refine Keeps.drew ?_ | with_reducible refine Keeps.setCell ?_ (.inl ?_) _ | with_reducible refine Keeps.trans ?_ (Keeps.up (by with_reducible assumption)))) <;> first | rfl | exact Nat.le_refl _) (by omega) (by omega),hG3.keeps (S:=fun y=>y=w.heap.size) (by (repeat (first | with_reducible exact Keeps.refl _ _ | with_reducible refine Keeps.alloc ?_ _ | with_reducible refine Keeps.drew ?_ | with_reducible refine Keeps.setCell ?_ (.inl ?_) _ | with_reducible refine Keeps.trans ?_ (Keeps.up (by with_reducible assumption)))) <;> first | rfl | exact Nat.le_refl _) (by omega),by omega,by omega,by omega,by omega⟩
    | exact⟨w2.heap.size,_,hh,hp,(by (repeat (first | with_reducible exact HK0.out | with_reducible refine Keeps.alloc ?_ _ | with_reducible refine Keeps.drew ?_ | with_reducible refine Keeps.setCell ?_ (.inl ?_) _ | with_reducible refine Keeps.trans ?_ (Keeps.up (by with_reducible assumption)))) <;> first | rfl | exact Nat.le_refl _),(set_block (set_block hnb3 0 _) 7 _).trans rfl,block_keep (S:=fun y=>y=w.heap.size) (alloc_new (w:=w2) (o:=.cells #[.pointer (some ⟨hh,0,none⟩)] 92)) (by (repeat (first | with_reducible exact Keeps.refl _ _ | with_reducible refine Keeps.alloc ?_ _ | with_reducible refine Keeps.drew ?_ | with_reducible refine Keeps.setCell ?_ (.inl ?_) _ | with_reducible refine Keeps.trans ?_ (Keeps.up (by with_reducible assumption)))) <;> first | rfl | exact Nat.le_refl _) (by omega),hH2.keeps (S:=fun y=>y=w.heap.size) (by (repeat (first | with_reducible exact Keeps.refl _ _ | with_reducible refine Keeps.alloc ?_ _ | with_reducible refine Keeps.drew ?_ | with_reducible refine Keeps.setCell ?_ (.inl ?_) _ | with_reducible refine Keeps.trans ?_ (Keeps.up (by with_reducible assumption)))) <;> first | rfl | exact Nat.le_refl _) (by omega) (by omega),hG3.keeps (S:=fun y=>y=w.heap.size) (by (repeat (first | with_reducible exact Keeps.refl _ _ | with_reducible refine Keeps.alloc ?_ _ | with_reducible refine Keeps.drew ?_ | with_reducible refine Keeps.setCell ?_ (.inl ?_) _ | with_reducible refine Keeps.trans ?_ (Keeps.up (by with_reducible assumption)))) <;> first | rfl | exact Nat.le_refl _) (by omega),by omega,by omega,by omega,by omega⟩
 case rest=>
 obtain⟨o',g',hh,hp,hkc,hcb,hco,hch,hcg,lo',lg',lh',lp'⟩:=hcut
 have hlt1:=lt_block hco;have hlt2:=hch.lt;have hlt3:=hch.tab.lt;have hlt4:=hcg.lt
 have HQ0:=hid (show ArQ ([Value.pointer (some ⟨o',0,none⟩),Value.int .i64 A.H.T.n,Value.int .i64 A.many,Value.pointer q3,Value.pointer q4,Value.pointer q5,Value.pointer q6,Value.pointer (some ⟨g',0,none⟩)].toArray) o' g' (fun _=>0) L.ss A.H.T.n A.many 0 by have h:=ArQ.of (L:=L) HC.out o' g' (fun _=>0);rw [HCC.out] at h;exact h)
 have HKC:=hid hkc;have HCB:=hid hcb;have HCO:=hid hco;have HCH:=hid hch;have HCG:=hid hcg
 have c2:=HC2.out _ hkc
 clear hkc hcb hco hch hcg
 go_wp2_with fail
 go_loopw [32] (fun ix wr=>∃ (k:Nat) (ss:Nat→Nat) (c':Array Value),k≤A.many∧ix = .int .i64 k∧wr.heap[w.heap.size]?=some (.cells c' 90)∧ArQ c' o' g' ss L.ss A.H.T.n A.many k∧(∀ m,m<k→StAt wr (ss m) (A.rt m)∧wc.heap.size≤ss m)∧(∀ x y,x<k→y<k→ss x=ss y→x=y)∧Keeps (fun y=>y=w.heap.size∨wc.heap.size≤y) wc wr) (fun ix _=>A.many - (intOf ix).toNat)
 case atStart=>exact⟨0,fun _=>0,_,Nat.zero_le _,rfl,HCB.out,HQ0.out,fun _ h=>by omega,fun _ _ h=>by omega,Keeps.refl _ _⟩
 case round=>
  obtain⟨k,ss,c',hk,rfl,hq,hQ,hst,hinj,hkk⟩:=hrel
  by_cases hlt:k<A.many
  ·have hlt':(k:Int)<(A.many:Int):=by omega
   have hk0:(0:Int)≤k:=by omega
   have h4:=HM4.out
   have hszr:=hkk.size
   have HK9:=hid (show Keeps (fun y=>w.heap.size≤y) w wr from HKC.out.trans' hkk (U:=fun y=>w.heap.size≤y) (fun _ _ h=>h) (fun y _ h=>by have:=HKC.out.size;omega))
   have hcell:=HC3.out _ HK9.out k hlt
   have hsz':=hQ.size
   have HQ:=hid hq;have HQQ:=hid hQ;have HST:=hid hst;have HINJ:=hid hinj;have HKK:=hid hkk
   clear hq hQ hst hinj hkk
   go_wp2_with fail
   refine (HRC.out _ HK9.out k hlt).mono ?_
   rintro e w5 ⟨rfl,hk5,hb5⟩
   have hq5:=block_keep HQ.out hk5 (fun h=>h)
   have f5:=frozen_block hq5 (3+k)
   have c5:=cell_at (i:=3+k) hq5 (HQQ.out.st k (by omega))
   have l5:=lt_block hq5
   have HQ5:=hid hq5;have HB5:=hid hb5;have HK5:=hid hk5
   have hsz5:=hk5.size
   clear hk5 hb5 hq5
   go_wp2_with fail
   have kx:=keeps_set1 w5 w.heap.size (3+k) (.pointer (some ⟨wr.heap.size,0,none⟩))
   refine⟨⟨k+1,updf ss k wr.heap.size,_,by omega,by go_num,set_block HQ5.out _ _,HQQ.out.step hlt h4 _,fun m hm=>?_,fun x y hx hy e=>?_,(HKK.out.trans' HK5.out (U:=fun y=>y=w.heap.size∨wc.heap.size≤y) (fun _ _ h=>h) (fun y _ h=>h.elim)).trans' kx (fun _ _ h=>h) (fun y _ h=>.inl h)⟩,by simp [intOf];omega⟩
   ·by_cases e:m=k
    ·subst e
     rw [updf_same]
     exact⟨HB5.out.keeps kx (by omega),by omega⟩
    ·rw [updf_ne _ _ e]
     have h6:=HST.out m (by omega)
     exact⟨(h6.1.keeps HK5.out (fun h=>h)).keeps kx (by have:=h6.1.lt;have:=HKC.out.size;have:=lt_block HCB.out;omega),h6.2⟩
   ·by_cases e1:x=k
    ·by_cases e2:y=k
     ·omega
     ·have h6:=(HST.out y (by omega)).1.lt
      rw [e1,updf_same,updf_ne _ _ e2] at e;omega
    ·by_cases e2:y=k
     ·have h6:=(HST.out x (by omega)).1.lt
      rw [e2,updf_same,updf_ne _ _ e1] at e;omega
     ·rw [updf_ne _ _ e1,updf_ne _ _ e2] at e
      exact HINJ.out x y (by omega) (by omega) e
  ·have hlt':¬ ((k:Int)<(A.many:Int)):=by omega
   obtain rfl:k=A.many:=by omega
   have HQ:=hid hq;have HQQ:=hid hQ;have HST:=hid hst;have HINJ:=hid hinj;have HKK:=hid hkk
   clear hq hQ hst hinj hkk
   go_wp2_with fail
   go_ret
   have hh1:=HCB.out;have hh2:=lt_block hh1;have hh3:=HKK.out.size
   have hny:∀ y,w.heap.size<y→y<wc.heap.size→¬ (y=w.heap.size∨wc.heap.size≤y):=fun y h1 h2 h=>by omega
   refine⟨w.heap.size,rfl,Keeps.fresh (HKC.out.trans' HKK.out (U:=fun y=>w.heap.size≤y) (fun _ _ h=>h) (fun y _ h=>by have h':y=w.heap.size∨wc.heap.size≤y:=h;show w.heap.size≤y;omega)),⟨o',hh,hp,g',ss⟩,⟨⟨c',HQ.out,HQQ.out.fin _ _⟩,block_keep HCO.out HKK.out (hny _ (by omega) hlt1),HCH.out.keeps HKK.out (hny _ (by omega) hlt2) (hny _ (by omega) hlt3),HCG.out.keeps HKK.out (hny _ (by omega) hlt4),fun m hm=>(HST.out m hm).1,HINJ.out,HM1.out,HM4.out⟩,⟨by omega,by omega⟩,⟨by show w.heap.size≤o';omega,by show o'<_;omega⟩,⟨by show w.heap.size≤hh;omega,by show hh<_;omega⟩,⟨by show w.heap.size≤hp;omega,by show hp<_;omega⟩,⟨by show w.heap.size≤g';omega,by show g'<_;omega⟩,fun m hm=>⟨by have:=(HST.out m hm).2;show w.heap.size≤ss m;omega,(HST.out m hm).1.lt⟩⟩
theorem mcopy_ok (m:Nat) (L:MkL) (M:Mk) (w:World) (h:MkIn w m L M):
 Calls Tryz.prog 14 #[.pointer (some ⟨m,0,none⟩)] w fun e w'=>∃ m' L',e = .returned (.pointer (some ⟨m',0,none⟩))∧Keeps (fun _=>False) w w'∧MkIn w' m' L' M∧L'.Btw m' M.K.many w.heap.size w'.heap.size:=by
 obtain⟨ii,hi1,hi2,hi3,hi4⟩:=pbuf_info
 have HV:=hid (mvalid m L M w h)
 have hm4:=h.clk.m4
 have HM1:=hid h.clk.m1
 have HF:=hid (fun (W:World) (hk:Keeps (fun y=>w.heap.size≤y) w W)=>cells6 (block_keep h.own hk (by have:=lt_block h.own;omega)))
 have HPH:=hid (fun (W:World) (hk:Keeps (fun y=>w.heap.size≤y) w W)=>phcopy_ok L.c M.K W (h.clk.keeps hk (by have:=h.clk.lt;omega)))
 have HCC:=hid (fun (W:World) (hk:Keeps (fun y=>w.heap.size≤y) w W)=>ccopy_ok L.p M.P W (h.pt.keeps hk (by have:=h.pt.lt;omega)))
 have HQC:=hid (fun (W:World) (hk:Keeps (fun y=>w.heap.size≤y) w W)=>qcopy_ok L.s M.S W (h.st.keeps hk (by have:=h.st.lt;omega)))
 have HBC:=hid (fun (W:World) (hk:Keeps (fun y=>w.heap.size≤y) w W) (j:Nat) (hj:j<M.K.many)=>bcopy_ok (L.bb j) (M.B j) W ((h.bf j hj).keeps hk (by have:=(h.bf j hj).lt;omega)))
 have HRW:=hid (fun (W:World) (hk:Keeps (fun y=>w.heap.size≤y) w W) (j:Nat) (hj:j<M.K.many)=>(show W.cell? ⟨L.rb,j,none⟩=some (.pointer (some ⟨L.bb j,0,none⟩)) from by
  obtain⟨cur,hr,hc⟩:=h.row
  exact cell_at (block_keep hr hk (by have:=lt_block hr;omega)) (hc j hj)))
 clear h
 have HSK:=hid (fun (W:World) (hk:Keeps (fun y=>w.heap.size≤y) w W)=>let hq:=HF.out W hk;And.intro hq.1 (And.intro hq.2.1 (And.intro hq.2.2.1 (And.intro hq.2.2.2.1 hq.2.2.2.2.1))))
 go_enter Tryz.func14,Tryz.ntmps14
 go_wp2_with fail
 refine (HV.out).mono ?_
 rintro e w' ⟨rfl,h'⟩
 obtain rfl:=h'.symm
 go_wp2_with fail
 go_cut [3] (fun s3 wx=>∃ B c' p' s',s3 = .pointer (some ⟨B,0,none⟩)∧Keeps (fun y=>w.heap.size≤y) w wx∧wx.heap[B]?=some (.cells #[.int .i64 M.P.n,.int .i64 M.K.many,.pointer (some ⟨c',0,none⟩),.pointer (some ⟨p',0,none⟩),.pointer (some ⟨s',0,none⟩),.slice none 0 0] 100)∧CkAt wx c' M.K∧PtAt wx p' M.P∧SqAt wx s' M.S∧w.heap.size≤B∧w.heap.size≤c'∧w.heap.size≤p'∧w.heap.size≤s'∧c'≠B∧p'≠B∧s'≠B)
 case first=>
  go_region_held3 (fun W=>W.cell? ⟨m,0,none⟩=some (.int .i64 M.P.n)∧W.cell? ⟨m,1,none⟩=some (.int .i64 M.K.many)∧W.cell? ⟨m,2,none⟩=some (.pointer (some ⟨L.c,0,none⟩))∧W.cell? ⟨m,3,none⟩=some (.pointer (some ⟨L.p,0,none⟩))∧W.cell? ⟨m,4,none⟩=some (.pointer (some ⟨L.s,0,none⟩)))
   ((refine HSK.out _ ?_;(repeat (first | with_reducible exact Keeps.refl _ _ | with_reducible refine Keeps.alloc ?_ _ | with_reducible refine Keeps.drew ?_ | with_reducible refine Keeps.trans ?_ (Keeps.up (by with_reducible assumption)))) <;> (dsimp only;omega)))
   (first
    | (go_at_call 44;refine (HPH.out _ (by (repeat (first | with_reducible exact Keeps.refl _ _ | with_reducible refine Keeps.alloc ?_ _ | with_reducible refine Keeps.drew ?_ | with_reducible refine Keeps.setCell ?_ (.inl ?_) _ | with_reducible refine Keeps.trans ?_ (Keeps.up (by with_reducible assumption)))) <;> first | rfl | exact Nat.le_refl _)).mono ?_;rintro e w2 ⟨rfl,hk2,hC2⟩)
    | (go_at_call 45;refine (HCC.out _ (by (repeat (first | with_reducible exact Keeps.refl _ _ | with_reducible refine Keeps.alloc ?_ _ | with_reducible refine Keeps.drew ?_ | with_reducible refine Keeps.setCell ?_ (.inl ?_) _ | with_reducible refine Keeps.trans ?_ (Keeps.up (by with_reducible assumption)))) <;> first | rfl | exact Nat.le_refl _)).mono ?_;rintro e w3 ⟨rfl,hk3,hP3⟩)
    | (go_at_call 46;refine (HQC.out _ (by (repeat (first | with_reducible exact Keeps.refl _ _ | with_reducible refine Keeps.alloc ?_ _ | with_reducible refine Keeps.drew ?_ | with_reducible refine Keeps.setCell ?_ (.inl ?_) _ | with_reducible refine Keeps.trans ?_ (Keeps.up (by with_reducible assumption)))) <;> first | rfl | exact Nat.le_refl _)).mono ?_;rintro e w4 ⟨rfl,hk4,hS4⟩))
  all_goals
   go_wp2_with fail
   go_meet
   have hx2:=hC2.lt;have hx3:=hP3.lt;have hx4:=hS4.lt;have hz2:w.heap.size≤w2.heap.size:=hk2.size;have hz3:w2.heap.size≤w3.heap.size:=hk3.size;have hz4:w3.heap.size≤w4.heap.size:=hk4.size
   exact⟨w4.heap.size,_,_,_,rfl,(by (repeat (first | with_reducible exact Keeps.refl _ _ | with_reducible refine Keeps.alloc ?_ _ | with_reducible refine Keeps.drew ?_ | with_reducible refine Keeps.trans ?_ (Keeps.up (by with_reducible assumption))))),alloc_new,hC2.keeps (S:=fun _=>False) (by (repeat (first | with_reducible exact Keeps.refl _ _ | with_reducible refine Keeps.alloc ?_ _ | with_reducible refine Keeps.drew ?_ | with_reducible refine Keeps.trans ?_ (by with_reducible assumption)))) (fun h=>h),hP3.keeps (S:=fun _=>False) (by (repeat (first | with_reducible exact Keeps.refl _ _ | with_reducible refine Keeps.alloc ?_ _ | with_reducible refine Keeps.drew ?_ | with_reducible refine Keeps.trans ?_ (by with_reducible assumption)))) (fun h=>h),hS4.keeps (S:=fun _=>False) (by (repeat (first | with_reducible exact Keeps.refl _ _ | with_reducible refine Keeps.alloc ?_ _ | with_reducible refine Keeps.drew ?_ | with_reducible refine Keeps.trans ?_ (by with_reducible assumption)))) (fun h=>h),by omega,by omega,by omega,by omega,by omega,by omega,by omega⟩
 case rest=>
 obtain⟨B,c',p',s',rfl,hkc,hq,hC,hP,hS,lB,lc',lp',ls',hBc,hBp,hBs⟩:=hcut
 have hlt1:=lt_block hq;have hlt2:=hC.lt;have hlt3:=hP.lt;have hlt4:=hS.lt
 have HKC:=hid hkc;have HQ4:=hid hq;have HCK4:=hid hC;have HP4:=hid hP;have HS4:=hid hS
 obtain⟨_,_,_,_,_,e5,el⟩:=HF.out _ hkc
 clear hkc hq hC hP hS
 go_wp2_with fail
 clear e5
 go_loopw [39] (fun ix wr=>∃ (j:Nat) (bb:Nat→Nat) (v:Value),j≤M.K.many∧ix = .int .i64 j∧wr.heap[B]?=some (.cells #[.int .i64 M.P.n,.int .i64 M.K.many,.pointer (some ⟨c',0,none⟩),.pointer (some ⟨p',0,none⟩),.pointer (some ⟨s',0,none⟩),v] 100)∧
  wr.ownsRow wc.heap.size 104 1 v j (ptrs bb j)∧(∀ x,x<j→BfAt wr (bb x) (M.B x)∧wc.heap.size≤bb x)∧(∀ x y,x<j→y<j→bb x=bb y→x=y)∧Keeps (fun y=>y=B∨wc.heap.size≤y) wc wr) (fun ix _=>M.K.many - (intOf ix).toNat)
 case atStart=>exact⟨0,fun _=>0,_,Nat.zero_le _,rfl,HQ4.out,World.ownsRow_nil _ _ _ _,fun _ h=>by omega,fun _ _ h=>by omega,Keeps.refl _ _⟩
 case round=>
  obtain⟨j,bb,v,hj,rfl,hq,hrow,hbf,hinj,hkk⟩:=hrel
  by_cases hlt:j<M.K.many
  ·have hlt':(j:Int)<(M.K.many:Int):=by omega
   have hj0:(0:Int)≤j:=by omega
   have hszr:=hkk.size
   have HK9:=hid (show Keeps (fun y=>w.heap.size≤y) w wr from HKC.out.trans' hkk (U:=fun y=>w.heap.size≤y) (fun _ _ h=>h) (fun y _ h=>by have h':y=B∨wc.heap.size≤y:=h;have:=HKC.out.size;show w.heap.size≤y;omega))
   have hcell:=HRW.out _ HK9.out j hlt
   have e5:=cell_at (i:=5) hq rfl
   have f0:=frozen_block hq 5
   have lq:=lt_block hq
   have HQ:=hid hq;have HROW:=hid hrow;have HBF:=hid hbf;have HINJ:=hid hinj;have HKK:=hid hkk
   clear hq hrow hbf hinj hkk
   go_wp2_with fail
   clear hcell
   have hsep:∀ {W:World} {x:Nat} {c:Array Value},W.heap[x]?=some (.cells c 183)→W.ownsRow wc.heap.size 104 1 v j (ptrs bb j)→¬ v.ownBlock=some x:=by
    intro W x c hx hR h
    obtain⟨_,h2⟩:=hR
    rcases h2 with⟨h2,_⟩ | ⟨g,cap,cur,rfl,hb,hg,r⟩
    ·subst h2;cases h
    ·simp only [Value.ownBlock,Option.some.injEq] at h
     exact type_ne hx hg (by decide) h.symm
   have HSEP:=hid (fun (W:World) (x:Nat) (c:Array Value) hx hR=>hsep (W:=W) (x:=x) (c:=c) hx hR)
   have HNB:=hid (show ¬ v.ownBlock=some B from fun h=>by have:=(HROW.out.lt _ h).1;omega)
   clear hsep
   go_region_law (first
    | (refine step_append_lies _ (by rfl) _ _ 98 (by rfl) wc.heap.size 104 ii (.pointer none) 1 8 Tryz.underlying98 hi1 hi2 hi3 hi4 rfl (by decide) v j (ptrs bb j) (by rfl) (owns_keeps (S:=fun _=>False) HROW.out (by (repeat (first | with_reducible exact Keeps.refl _ _ | with_reducible refine Keeps.alloc ?_ _ | with_reducible refine Keeps.drew ?_ | with_reducible refine Keeps.trans ?_ (by with_reducible assumption)))) (fun _ _ h=>h)) ⟨_,0,none⟩ 1 1 [.pointer (some ⟨wr.heap.size,0,none⟩)] (by rfl) (by rfl) (World.news_of_block (cs:=#[.pointer (some ⟨wr.heap.size,0,none⟩)]) alloc_new) (fun u hu=>by simp at hu;subst hu;rfl) (by decide) (by unfold maxLen;omega) (by omega) (by simp;omega) _ rfl ?_;intro g cap w6 hown hgr hat hlt6;have q6:=block_keep (block_keep (S:=fun _=>False) HQ.out (by (repeat (first | with_reducible exact Keeps.refl _ _ | with_reducible refine Keeps.alloc ?_ _ | with_reducible refine Keeps.drew ?_ | with_reducible refine Keeps.trans ?_ (by with_reducible assumption)))) (fun h=>h)) (grown_keeps hgr) HNB.out;have x6:w6.cell? ⟨B,5,none⟩=some v:=cell_at q6 rfl;have f6:=frozen_block q6 5;have l6:=lt_block q6)
    | (go_simp;go_at_call 47;refine (HBC.out _ (by (repeat (first | with_reducible exact HK9.out | with_reducible refine Keeps.alloc ?_ _ | with_reducible refine Keeps.drew ?_ | with_reducible refine Keeps.setCell ?_ (.inl ?_) _ | with_reducible refine Keeps.trans ?_ (Keeps.up (by with_reducible assumption)))) <;> first | rfl | exact Nat.le_refl _) j hlt).mono ?_;rintro e w5 ⟨rfl,hk5,hb5⟩;have hsz5:wr.heap.size≤w5.heap.size:=hk5.size;have x5:w5.cell? ⟨B,5,none⟩=some v:=cell_at (block_keep (w:=wr.drew) (S:=fun _=>False) HQ.out hk5 (fun h=>h)) rfl;have l5:B<w5.heap.size:=by omega))
   all_goals
    have hgk:=grown_keeps hgr
    have k6:Keeps (fun y=>v.ownBlock=some y) wr w6:=by
     refine Keeps.trans ?_ hgk
     (repeat (first | with_reducible exact Keeps.refl _ _ | with_reducible refine Keeps.alloc ?_ _ | with_reducible refine Keeps.drew ?_ | with_reducible refine Keeps.trans ?_ (Keeps.up (by with_reducible assumption))))
    have HK6:=hid k6;have HOWN:=hid hown;have HL6:=hid hsz5;have HQ6:=hid q6
    have HB5:=hid (show BfAt w6 wr.heap.size (M.B j) by
     obtain⟨c,hx,hc⟩:=hb5
     exact⟨c,block_keep (block_keep (S:=fun _=>False) hx (by (repeat (first | with_reducible exact Keeps.refl _ _ | with_reducible refine Keeps.alloc ?_ _ | with_reducible refine Keeps.drew ?_ | with_reducible refine Keeps.trans ?_ (by with_reducible assumption)))) (fun h=>h)) hgk (fun h=>by have:=(HROW.out.lt _ h).2;omega),hc⟩)
    clear k6 hown hgk hgr hat q6 hk5 hb5 hsz5 x6
    go_wp2_with fail
    have kl:Keeps (fun y=>y=B) w6 (w6.setCell ⟨B,5,none⟩ (.slice (some ⟨g,0,none⟩) (j+1) cap)):=keeps_set1 _ _ _ _
    have hz6:=HK6.out.size
    refine⟨⟨j+1,updf bb j wr.heap.size,_,by omega,by go_num,set_block HQ6.out 5 _,?_,?_,?_,?_⟩,by simp [intOf];omega⟩
    ·rw [ptrs_succ]
     exact owns_keeps HOWN.out kl (fun y hy h=>by omega)
    ·intro x hx
     by_cases he:x=j
     ·subst he
      simp only [updf_same]
      exact⟨HB5.out.keeps kl (by omega),by omega⟩
     ·simp only [updf_ne _ _ he]
      obtain⟨⟨c,hx1,hc⟩,hl⟩:=HBF.out x (by omega)
      have:=lt_block hx1
      exact⟨BfAt.keeps ⟨c,block_keep hx1 HK6.out (HSEP.out _ _ _ hx1 HROW.out),hc⟩ kl (by omega),hl⟩
    ·intro x y hx hy hxy
     by_cases he:x=j <;> by_cases hf:y=j
     ·omega
     ·subst he
      simp only [updf_same,updf_ne _ _ hf] at hxy
      have:=(HBF.out y (by omega)).1.lt
      omega
     ·subst hf
      simp only [updf_same,updf_ne _ _ he] at hxy
      have:=(HBF.out x (by omega)).1.lt
      omega
     ·simp only [updf_ne _ _ he,updf_ne _ _ hf] at hxy
      exact HINJ.out x y (by omega) (by omega) hxy
    ·exact (HKK.out.trans' HK6.out (U:=fun y=>y=B∨wc.heap.size≤y) (fun _ _ h=>h) (fun y _ h=>.inr (HROW.out.lt _ h).1)).trans' kl (fun _ _ h=>h) (fun y _ h=>.inl h)
  ·obtain rfl:j=M.K.many:=by omega
   have hlt':¬ (M.K.many:Int)<(M.K.many:Int):=by omega
   have HQ:=hid hq;have HROW:=hid hrow;have HBF:=hid hbf;have HINJ:=hid hinj;have HKK:=hid hkk
   obtain⟨p'',cap',hv'⟩:=own_shape HROW.out
   have HV':=hid hv'
   clear hq hrow hbf hinj hkk hv'
   go_wp2_with fail
   obtain rfl:=HV'.out
   have hsz:=HKK.out.size
   have hro:=HROW.out.lt
   have hM1:=HM1.out
   obtain⟨rl,r2⟩:=HROW.out
   rcases r2 with⟨r2,hj0⟩ | ⟨g,cap,cur,r2,hb,hg,hjc,hcm,hcs,htk⟩
   ·omega
   obtain⟨rfl,rfl⟩:p''=some ⟨g,0,none⟩∧cap'=cap:=by cases r2;exact⟨rfl,rfl⟩
   have hgl:=lt_block hg
   have hny:∀ y,y≠B→y<wc.heap.size→¬ (y=B∨wc.heap.size≤y):=fun y h1 h2 h=>by omega
   go_ret
   refine⟨B,rfl,?_,⟨c',p',s',g,cap',bb⟩,⟨HQ.out,⟨cur,hg,?_⟩,HCK4.out.keeps HKK.out (hny _ hBc hlt2),HP4.out.keeps HKK.out (hny _ hBp hlt3),HS4.out.keeps HKK.out (hny _ hBs hlt4),fun x hx=>(HBF.out x hx).1,HINJ.out⟩,⟨by omega,⟨by show w.heap.size≤c';omega,by show c'<_;omega⟩,⟨by show w.heap.size≤p';omega,by show p'<_;omega⟩,⟨by show w.heap.size≤s';omega,by show s'<_;omega⟩,⟨by show w.heap.size≤g;omega,by show g<_;omega⟩,?_⟩⟩
   ·exact (HKC.out.trans' HKK.out (U:=fun y=>w.heap.size≤y) (fun _ _ h=>h) (fun y _ h=>by have h':y=B∨wc.heap.size≤y:=h;show w.heap.size≤y;omega)).fresh
   ·intro x hx
    have e:cur.toList[x]?=(ptrs bb M.K.many)[x]?:=by
     rw [← htk,List.getElem?_take_of_lt (by simpa using hx)]
    rw [Array.getElem?_toList] at e
    rw [e,ptrs,List.getElem?_map,List.getElem?_range (by simpa using hx)]
    rfl
   ·intro x hx
    have h:=HBF.out x hx
    have:=h.1.lt
    exact⟨by show w.heap.size≤bb x;omega,by show bb x<_;omega⟩
end Go.Proofs.YtnlkfbndlngjaaaGreat
