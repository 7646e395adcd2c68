import Derived.Test.YtnlkfbndlngjaaaGreatMgV
import Derived.Test.YtnlkfbndlngjaaaGreatRfI
set_option maxHeartbeats 4000000
set_option maxRecDepth 100000
namespace Go.Proofs.YtnlkfbndlngjaaaGreat
open Go.RowKit
set_option linter.unusedVariables false
set_option linter.unusedSimpArgs false
section
variable {w w':World} {x N:Nat} {L:L18} {A A':Ar}
theorem R18.svlt (h:R18 w x L A) {m k:Nat} (hm:m<A.many) (hk:(L.sv m).ownBlock=some k):k<w.heap.size:=by
 rcases (h.st m hm).r with⟨e,_⟩ | ⟨g,cap,cur,e,hg,_⟩
 ·rw [e] at hk;cases hk
 ·rw [e] at hk
  obtain rfl:g=k:=Option.some.inj hk
  exact lt_block hg
theorem Up18.fin {W:World} {B:Nat} (h:Up18 x N L A' w W) (h0:R18 w x L A) (hm:A'.many=A.many) (hB:w.heap.size≤B) (hN:B<N) {cs:Array Value} (hq:W.heap[B]?=some (.cells cs 34)) (u v:Value):
 Up18 x N L A' w ((W.setCell ⟨B,0,none⟩ u).setCell ⟨B,1,none⟩ v):=by
 obtain⟨hk,L',e,h',hs⟩:=h
 refine⟨(hk.setCell (p:=⟨B,0,none⟩) (.inr hB) _).setCell (p:=⟨B,1,none⟩) (.inr hB) _,L',e,?_,hs⟩
 have k2:=keeps_two W B u v
 obtain⟨c,cap,h1,h2⟩:=h'.own
 obtain⟨cr,r1,r2⟩:=h'.row
 obtain⟨_,_,_,a1⟩:=h'.heap.own
 obtain⟨_,a2,_⟩:=h'.heap.row
 refine⟨⟨c,cap,block_keep h1 k2 (type_ne h1 hq (by decide)),h2⟩,h'.heap.keeps k2 (type_ne a1 hq (by decide)) (type_ne a2 hq (by decide)),⟨cr,block_keep r1 k2 (type_ne r1 hq (by decide)),r2⟩,fun m hm'=>(h'.st m hm').keeps k2 (fun k hk' e'=>?_),h'.ok⟩
 rcases hs m k hm' hk' with⟨m',hm2,hk2⟩ | hk2
 ·have:=h0.svlt (by rw [← hm];exact hm2) hk2
  omega
 ·omega
theorem Up18.lower {N':Nat} (h:Up18 x N L A' w w') (hN:N'≤N):Up18 x N' L A' w w':=by
 obtain⟨hk,L',e,h',hs⟩:=h
 exact⟨hk,L',e,h',fun m k hm hk=>(hs m k hm hk).imp id (fun h=>Nat.le_trans hN h)⟩
theorem Up18.from' {w0:World} (h:Up18 x N L A' w w') (hk:Keeps (fun y=>y=x∨y=L.hb) w0 w):Up18 x N L A' w0 w':=⟨hk.trans h.1,h.2⟩
theorem Up18.then' {W:World} (h:Up18 x N L A' w W) (hk:Keeps (fun _=>False) W w'):Up18 x N L A' w w':=by
 obtain⟨h1,L',e,h',hs⟩:=h
 exact⟨h1.trans hk.up,L',e,h'.k0 hk,hs⟩
theorem pushR_full {k:Nat} {v:Rf} (h:32≤(A.rt k).n):A.pushR k v=⟨A,.no,.no,4⟩:=by unfold Ar.pushR;rw [if_pos h]
theorem pushR_room {k:Nat} {v:Rf} (h:¬ 32≤(A.rt k).n):A.pushR k v=⟨A.setRt k ((A.rt k).push v),.no,v,0⟩:=by unfold Ar.pushR;rw [if_neg h]
theorem make18 (m n:Int) (hd:Bool) (h:R18 w x L A):
 Calls Tryz.prog 125 #[.pointer (some ⟨x,0,none⟩),.int .i64 m,.int .i64 n,.bool hd] w
  fun e w'=>e = .returned (.tuple #[(A.makeR m n hd).now.val,.int .i64 (A.makeR m n hd).e])∧Up18 x w.heap.size L (A.makeR m n hd).A w w':=by
 obtain⟨wb,hwb⟩:∃ wb,w.alloc (.cells #[.int .i64 0,.int .u32 0] 34)=wb:=⟨_,rfl⟩
 have kb:Keeps (fun _=>False) w wb:=by rw [← hwb];exact (Keeps.refl _ _).alloc _
 have qb:wb.heap[w.heap.size]?=some (.cells #[.int .i64 0,.int .u32 0] 34):=by rw [← hwb];exact alloc_new
 have szb:wb.heap.size=w.heap.size+1:=by rw [← hwb];simp
 have hb:=h.k0 kb
 have HMU:=hid (mutator18 m hb)
 have HW:=hid hwb;have HKB:=hid kb;have HQB:=hid qb;have HSZ:=hid szb
 have HS:=hid (fun W (hk:Keeps (fun _=>False) wb W)=>(Up18.stay (N:=w.heap.size) h (kb.trans hk)))
 by_cases hm:m<0∨(A.many:Int)≤m
 ·have e1:A.makeR m n hd=⟨A,.no,.no,3⟩:=by unfold Ar.makeR;rw [if_pos hm]
  rw [e1]
  rw [show A.mutE m=3 by unfold Ar.mutE;rw [if_pos hm]] at HMU
  obtain⟨b0,b1,bf,bl⟩:=cells2 qb
  have bf0:=bf 0;have bf1:=bf 1
  have HF:=hid (fun u v=>(Up18.stay (N:=wb.heap.size) h kb).fin h rfl (Nat.le_refl _) (by omega) qb u v)
  clear h hm e1 hb kb qb hwb szb bf
  simp only [Rf.val,Rf.no]
  go_enter Tryz.func125,Tryz.ntmps125
  go_upto_region 1 with (fail)
  rw [HW.out]
  go_wp2_with fail
  refine (HMU.out).mono ?_
  rintro e w' ⟨rfl,h'⟩
  obtain rfl:=h'.symm
  go_wp2_with fail
  refine bodyPost_ret_by (v:=.tuple #[.agg #[.int .i64 0,.int .u32 0],.int .i64 3]) (by simp [results,Tryz.results125,go_sem, *]) rfl ⟨rfl,(HF.out _ _).lower (by have:=HSZ.out;omega)⟩
 ·obtain⟨k,rfl⟩:∃ k:Nat,m=k:=⟨m.toNat,by omega⟩
  have hkm:k<A.many:=by omega
  rw [show A.mutE k=0 by unfold Ar.mutE;rw [if_neg hm]] at HMU
  by_cases hok:okNew n hd
  ·have HN:=hid (fun W=>new13_ok n hd W hok)
   have HFU:=hid (fun W (hk:Keeps (fun _=>False) wb W)=>full18 k (hb.k0 hk) hkm)
   have HLE:=hid (fun W (hk:Keeps (fun _=>False) wb W)=>left14 (hb.k0 hk).heap)
   have HC2:=hid (fun W (hk:Keeps (fun _=>False) wb W)=>(hb.k0 hk).c2)
   have e0:A.makeR k n hd=if 32≤(A.rt k).n then ⟨A,.no,.no,4⟩ else match A.H.T.inn 0 A.H.T.n with
    | []=>⟨A,.no,.no,4⟩
    | (i,g) :: _=>⟨A.made k i g (Ob.new n hd),.no,⟨i,g⟩,0⟩:=by
    unfold Ar.makeR;rw [if_neg hm,if_neg (by simpa using hok),Int.toNat_natCast];rfl
   have HFW:=hid (fun W (hk:Keeps (fun _=>False) wb W) u v=>(Up18.stay (N:=wb.heap.size) h (kb.trans hk)).fin h rfl (Nat.le_refl _) (by omega) (block_keep qb hk (fun h=>h)) u v)
   by_cases hf:32≤(A.rt k).n
   ·rw [if_pos hf] at e0
    rw [e0]
    rw [show decide (32≤(A.rt k).n)=true from by simpa using hf] at HFU
    clear h hm hb kb qb hwb szb e0 hf hok HLE
    simp only [Rf.val,Rf.no,Ob.arr,Ob.new] at HN ⊢
    go_enter Tryz.func125,Tryz.ntmps125
    go_upto_region 1 with (fail)
    rw [HW.out]
    go_wp2_with fail
    refine (HMU.out).mono ?_
    rintro e w' ⟨rfl,h'⟩
    obtain rfl:=h'.symm
    go_wp2_with fail
    refine (HN.out _).mono ?_
    rintro e w1 ⟨rfl,k1⟩
    have K1:=hid k1
    obtain⟨b0,b1,bf,bl⟩:=cells2 (block_keep HQB.out k1 (fun h=>h))
    have bf0:=bf 0;have bf1:=bf 1
    clear k1 bf
    go_wp2_with fail
    refine (HFU.out _ (K1.out.alloc _)).mono ?_
    rintro e w' ⟨rfl,h'⟩
    obtain rfl:=h'.symm
    go_wp2_with fail
    refine bodyPost_ret_by (v:=.tuple #[.agg #[.int .i64 0,.int .u32 0],.int .i64 4]) (by simp [results,Tryz.results125,go_sem, *]) rfl ⟨rfl,?_⟩
    exact ((HFW.out _ K1.out _ _).lower (by have:=HSZ.out;omega)).then' ((Keeps.refl _ _).alloc _)
   ·rw [if_neg hf] at e0
    rw [show decide (32≤(A.rt k).n)=false from by simpa using hf] at HFU
    rcases hi:A.H.T.inn 0 A.H.T.n with _ | ⟨⟨i,g⟩,q⟩
    ·rw [hi] at e0 HLE
     dsimp only at e0
     rw [e0]
     clear h hm hb kb qb hwb szb e0 hf hok hi
     simp only [Rf.val,Rf.no,Ob.arr,Ob.new,List.length_nil] at HN HLE ⊢
     go_enter Tryz.func125,Tryz.ntmps125
     go_upto_region 1 with (fail)
     rw [HW.out]
     go_wp2_with fail
     refine (HMU.out).mono ?_
     rintro e w' ⟨rfl,h'⟩
     obtain rfl:=h'.symm
     go_wp2_with fail
     refine (HN.out _).mono ?_
     rintro e w1 ⟨rfl,k1⟩
     have K1:=hid k1
     obtain⟨b0,b1,bf,bl⟩:=cells2 (block_keep HQB.out k1 (fun h=>h))
     have bf0:=bf 0;have bf1:=bf 1
     have c2:=HC2.out w1 k1
     clear k1 bf
     go_wp2_with fail
     refine (HFU.out _ (K1.out.alloc _)).mono ?_
     rintro e w' ⟨rfl,h'⟩
     obtain rfl:=h'.symm
     have hlx:=(show x<w1.heap.size from World.block_lt_of_cell? _ _ c2)
     go_wp2_with fail
     refine (HLE.out _ (K1.out.alloc _)).mono ?_
     rintro e w' ⟨rfl,h'⟩
     obtain rfl:=h'.symm
     go_wp2_with fail
     refine bodyPost_ret_by (v:=.tuple #[.agg #[.int .i64 0,.int .u32 0],.int .i64 4]) (by simp [results,Tryz.results125,go_sem, *]) rfl ⟨rfl,?_⟩
     exact ((HFW.out _ K1.out _ _).lower (by have:=HSZ.out;omega)).then' ((Keeps.refl _ _).alloc _)
    ·obtain⟨hin,hst,hgn,hbef⟩:=Tb.inn_first hi
     have hgg:=h.heap.gn i hin
     rw [hgn] at hgg
     have hn2:=h.heap.n2
     have hr:(Rf.mk i g).Ok:=⟨by simp,by show (i:Int)<256;omega,hgg.1,hgg.2⟩
     have hmade:=h.ok.made (m:=k) (i:=i) (g:=g) (o:=Ob.new n hd) hkm hin hgn (Ob.new_good hok) (by omega)
     have hokH:({ A with H:=A.H.mk1 i g (Ob.new n hd) }:Ar).Ok:=⟨h.ok.n1,h.ok.n2,h.ok.m1,h.ok.m4,hmade.tb,hmade.ob,h.ok.rt,h.ok.gl⟩
     rw [hi] at e0 HLE
     dsimp only at e0
     rw [e0]
     have HMK:=hid (fun W (hk:Keeps (fun _=>False) wb W)=>make14 n hd i g q (hb.k0 hk).heap hok hi)
     have HGV:=hid (fun W W2 r' (hk:Keeps (fun _=>False) wb W) (h2:Keeps (fun y=>y=L.hb) W W2) (hr14:R14 W2 L.hb r' (A.H.mk1 i g (Ob.new n hd))) (W3:World) (h3:Keeps (fun _=>False) W2 W3)=>
      let hW2:=((hb.k0 hk).setH h2 hr14 rfl hokH).k0 h3
      (give18 k ⟨i,g⟩ hW2 hkm (by show (A.rt k).n<32;omega) hr).mono (fun e w' (hu:e = .returned (.tuple #[])∧Up18 x W3.heap.size { L with hr:=r' } (A.made k i g (Ob.new n hd)) W3 w')=>
       show e = .returned (.tuple #[])∧Up18 x W3.heap.size L (A.made k i g (Ob.new n hd)) w w'∧Keeps (fun y=>y=x∨y=L.hb) W3 w' from⟨hu.1,⟨(((kb.trans hk).up.trans' h2 (fun _ _ h=>h) (fun _ _ h=>.inr h)).trans h3.up).trans hu.2.1,hu.2.2⟩,hu.2.1⟩))
     have HFN:=hid (fun W N' (hu:Up18 x N' L (A.made k i g (Ob.new n hd)) w W) (hN:w.heap.size<N') (hq:∃ cs,W.heap[w.heap.size]?=some (.cells cs 34)) u v=>hu.fin h rfl (Nat.le_refl _) hN hq.choose_spec u v)
     have hbne:w.heap.size≠L.hb:=by have:=h.heap.lt.1;omega
     have hxne:w.heap.size≠x:=by have:=h.lt.1;omega
     have hlen:((((i,g) :: q).length:Nat):Int)=q.length+1:=by simp
     rw [hlen] at HLE
     have hq0:(0:Int)≤q.length:=by omega
     have hqs:(q.length:Int)≤256:=by
      have:=Tb.inn_len A.H.T 0 A.H.T.n
      rw [hi] at this;simp at this;omega
     clear h hm hb kb qb hwb szb e0 hf hok hi hin hst hgn hbef hgg hn2 hr hmade hokH hlen hkm
     simp only [Rf.val,Rf.no,Ob.arr,Ob.new] at HN HMK HGV HFN ⊢
     go_enter Tryz.func125,Tryz.ntmps125
     go_upto_region 1 with (fail)
     rw [HW.out]
     go_wp2_with fail
     refine (HMU.out).mono ?_
     rintro e w' ⟨rfl,h'⟩
     obtain rfl:=h'.symm
     go_wp2_with fail
     refine (HN.out _).mono ?_
     rintro e w1 ⟨rfl,k1⟩
     have K1:=hid k1
     have c2:=HC2.out w1 k1
     have Q1:=hid (block_keep HQB.out k1 (fun h=>h))
     clear k1
     go_wp2_with fail
     refine (HFU.out _ (K1.out.alloc _)).mono ?_
     rintro e w' ⟨rfl,h'⟩
     obtain rfl:=h'.symm
     have hlx:=(show x<w1.heap.size from World.block_lt_of_cell? _ _ c2)
     go_wp2_with fail
     refine (HLE.out _ (K1.out.alloc _)).mono ?_
     rintro e w' ⟨rfl,h'⟩
     obtain rfl:=h'.symm
     go_wp2_with fail
     refine (HMK.out _ (K1.out.alloc _)).mono ?_
     rintro e w2 ⟨rfl,k2,r',hr',h2⟩
     have H2:=hid h2;have K2:=hid k2
     have Q2:=hid (block_keep (alloc_old Q1.out) k2 hbne)
     have hs2:=k2.size
     simp only [World.size_alloc] at hs2
     clear h2 k2 hr' c2
     go_wp2_with fail
     refine (HGV.out _ _ r' (K1.out.alloc _) K2.out H2.out _ ((Keeps.refl _ _).alloc _)).mono ?_
     rintro e w3 ⟨rfl,hu,hk3⟩
     obtain⟨b0,b1,bf,bl⟩:=cells2 (block_keep (alloc_old Q2.out) hk3 (fun h=>h.elim hxne hbne))
     have bf0:=bf 0;have bf1:=bf 1
     have hlhb:=H2.out.lt.1
     obtain⟨c0,c1,_,cl⟩:=cells2 (block_keep (alloc_new (w:=w2)) hk3 (fun h=>by omega))
     have hl3:=HFN.out w3 _ hu (by have:=lt_block Q2.out;simp;omega) ⟨_,block_keep (alloc_old Q2.out) hk3 (fun h=>h.elim hxne hbne)⟩
     have HL3:=hid hl3
     have hs3:w.heap.size≤w2.heap.size+1:=by have:=lt_block Q2.out;omega
     have HS3:=hid hs3
     clear hu hk3 hl3 bf hs3
     go_wp2_with fail
     refine bodyPost_ret_by (v:=.tuple #[.agg #[.int .i64 i,.int .u32 g],.int .i64 0]) (by simp [results,Tryz.results125,go_sem, *]) rfl ⟨rfl,(HL3.out _ _).lower (by simpa using HS3.out)⟩
  ·have HN:=hid (fun W=>new13_bad n hd W hok)
   have e0:A.makeR k n hd=⟨A,.no,.no,2⟩:=by
    unfold Ar.makeR;rw [if_neg hm,if_pos hok]
   rw [e0]
   have HFW:=hid (fun W (hk:Keeps (fun _=>False) wb W) u v=>(Up18.stay (N:=wb.heap.size) h (kb.trans hk)).fin h rfl (Nat.le_refl _) (by omega) (block_keep qb hk (fun h=>h)) u v)
   clear h hm hb kb qb hwb szb e0 hok hkm
   simp only [Rf.val,Rf.no,Ob.arr,Ob.new] at HN ⊢
   go_enter Tryz.func125,Tryz.ntmps125
   go_upto_region 1 with (fail)
   rw [HW.out]
   go_wp2_with fail
   refine (HMU.out).mono ?_
   rintro e w' ⟨rfl,h'⟩
   obtain rfl:=h'.symm
   go_wp2_with fail
   refine (HN.out _).mono ?_
   rintro e w1 ⟨rfl,k1⟩
   have K1:=hid k1
   obtain⟨b0,b1,bf,bl⟩:=cells2 (block_keep HQB.out k1 (fun h=>h))
   have bf0:=bf 0;have bf1:=bf 1
   clear k1 bf
   go_wp2_with fail
   refine bodyPost_ret_by (v:=.tuple #[.agg #[.int .i64 0,.int .u32 0],.int .i64 2]) (by simp [results,Tryz.results125,go_sem, *]) rfl ⟨rfl,?_⟩
   exact ((HFW.out _ K1.out _ _).lower (by have:=HSZ.out;omega)).then' ((Keeps.refl _ _).alloc _)
end
end Go.Proofs.YtnlkfbndlngjaaaGreat
namespace Go.Proofs.YtnlkfbndlngjaaaGreat
open Go.RowKit
set_option linter.unusedVariables false
set_option linter.unusedSimpArgs false
section
variable {w w':World} {x N:Nat} {L:L18} {A A':Ar}
structure Hd18 (w wb:World) (x:Nat) (L:L18) (A:Ar):Prop where
 h:R18 w x L A
 k:Keeps (fun _=>False) w wb
 q:wb.heap[w.heap.size]?=some (.cells #[.int .i64 0,.int .u32 0] 34)
 sz:wb.heap.size=w.heap.size+1
theorem Hd18.mk0 (h:R18 w x L A):Hd18 w (w.alloc (.cells #[.int .i64 0,.int .u32 0] 34)) x L A:=⟨h,(Keeps.refl _ _).alloc _,alloc_new,by simp⟩
theorem Hd18.at' {wb:World} (d:Hd18 w wb x L A):R18 wb x L A:=d.h.k0 d.k
theorem Hd18.r {wb W:World} (d:Hd18 w wb x L A) (hk:Keeps (fun _=>False) wb W):R18 W x L A:=d.at'.k0 hk
theorem Hd18.b {wb W:World} (d:Hd18 w wb x L A) (hk:Keeps (fun _=>False) wb W):W.heap[w.heap.size]?=some (.cells #[.int .i64 0,.int .u32 0] 34):=block_keep d.q hk (fun h=>h)
theorem Hd18.fin {wb W:World} (d:Hd18 w wb x L A) (hk:Keeps (fun _=>False) wb W) (u v:Value):Up18 x w.heap.size L A w ((W.setCell ⟨w.heap.size,0,none⟩ u).setCell ⟨w.heap.size,1,none⟩ v):=
 ((Up18.stay (N:=wb.heap.size) d.h (d.k.trans hk)).fin d.h rfl (Nat.le_refl _) (by have:=d.sz;omega) (d.b hk) u v).lower (by have:=d.sz;omega)
theorem Hd18.ne {wb:World} (d:Hd18 w wb x L A):w.heap.size≠x∧w.heap.size≠L.hb:=by
 have h1:=d.h.lt.1;have h2:=d.h.heap.lt.1
 exact⟨by omega,by omega⟩
theorem Hd18.give {wb W:World} (d:Hd18 w wb x L A) (hk:Keeps (fun _=>False) wb W) (k:Nat) (r:Rf) (hkm:k<A.many) (hn:¬ 32≤(A.rt k).n) (hr:r.Ok) (B:Nat) (hB:W.heap[B]?=some (.cells #[.int .i64 r.s,.int .u32 r.g] 34)):
 Calls Tryz.prog 200 #[.pointer (some ⟨x,0,none⟩),.int .i64 k,.agg #[.int .i64 r.s,.int .u32 r.g]] W fun e w'=>e = .returned (.tuple #[])∧
  w'.heap[w.heap.size]?=some (.cells #[.int .i64 0,.int .u32 0] 34)∧w'.heap[B]?=some (.cells #[.int .i64 r.s,.int .u32 r.g] 34)∧
  (∀ u v,Up18 x w.heap.size L (A.setRt k ((A.rt k).push r)) w ((w'.setCell ⟨w.heap.size,0,none⟩ u).setCell ⟨w.heap.size,1,none⟩ v)):=by
 refine (give18 k r (d.r hk) hkm (by omega) hr).mono ?_
 rintro e w' ⟨h1,hu⟩
 have hq:=block_keep (d.b hk) hu.1 (fun h=>h.elim d.ne.1 d.ne.2)
 obtain⟨_,_,x1,_⟩:=(d.r hk).own
 obtain⟨_,_,_,a1⟩:=(d.r hk).heap.own
 refine⟨h1,hq,block_keep hB hu.1 (fun h=>h.elim (type_ne hB x1 (by decide)) (type_ne hB a1 (by decide))),fun u v=>?_⟩
 refine ((hu.from' (d.k.trans hk).up).fin d.h rfl (Nat.le_refl _) ?_ hq u v).lower ?_
 ·have:=d.sz;have:=hk.size;omega
 ·have:=d.sz;have:=hk.size;omega
theorem load18 (m i f:Int) (h:R18 w x L A):
 Calls Tryz.prog 127 #[.pointer (some ⟨x,0,none⟩),.int .i64 m,.int .i64 i,.int .i64 f] w
  fun e w'=>e = .returned (.tuple #[(A.loadR m i f).now.val,.int .i64 (A.loadR m i f).e])∧Up18 x w.heap.size L (A.loadR m i f).A w w':=by
 obtain⟨wb,hwb⟩:∃ wb,w.alloc (.cells #[.int .i64 0,.int .u32 0] 34)=wb:=⟨_,rfl⟩
 have D:=hid (show Hd18 w wb x L A from by rw [← hwb];exact Hd18.mk0 h)
 have HRO:=hid (root18 m i D.out.at')
 have HW:=hid hwb
 have hrng:m<0∨(A.many:Int)≤m→(A.rootR m i).2≠0:=fun hm=>by unfold Ar.rootR;rw [if_pos hm];decide
 by_cases he:(A.rootR m i).2=0
 ·have hmm:¬ (m<0∨(A.many:Int)≤m):=fun hm=>hrng hm he
  obtain⟨k,rfl⟩:∃ k:Nat,m=k:=⟨m.toNat,by omega⟩
  have hkm:k<A.many:=by omega
  have HF:Hid (A.H.loadR (A.rootR k i).1 f).1.Fine:=h.ok.field _ _
  have e0:A.loadR k i f=if (A.H.loadR (A.rootR k i).1 f).2≠0 then ⟨A,.no,.no,(A.H.loadR (A.rootR k i).1 f).2⟩ else
   if (A.H.loadR (A.rootR k i).1 f).1.nz=false then ⟨A,.no,.no,5⟩ else A.pushR k (A.H.loadR (A.rootR k i).1 f).1:=by
   unfold Ar.loadR;rw [if_neg hmm,if_neg (by rw [he];simp),Int.toNat_natCast]
  rw [he] at HRO
  obtain⟨r,hr⟩:∃ r,(A.rootR k i).1=r:=⟨_,rfl⟩
  rw [hr] at HRO e0 HF
  have HLO:=hid (fun W (hk:Keeps (fun _=>False) wb W)=>load14 r f (D.out.r hk).heap)
  obtain⟨⟨v,ve⟩,hv⟩:∃ v,A.H.loadR r f=v:=⟨_,rfl⟩
  rw [hv] at HLO e0 HF
  dsimp only at HLO e0 HF
  have HFU:=hid (fun W (hk:Keeps (fun _=>False) wb W)=>full18 k (D.out.r hk) hkm)
  have HPS:=hid (fun W B (hk:Keeps (fun _=>False) wb W) (hB:W.heap[B]?=some (.cells #[.int .i64 r.s,.int .u32 r.g] 34))=>show W.cell? ⟨x,2,none⟩=some (.pointer (some ⟨L.hb,0,none⟩))∧W.cell? ⟨B,0,none⟩=some (.int .i64 r.s)∧W.cell? ⟨B,1,none⟩=some (.int .u32 r.g) from
   ⟨(D.out.r hk).c2,cell_at hB rfl,cell_at hB rfl⟩)
  have hcase:ve≠0∨(ve=0∧v.nz=false)∨(ve=0∧v.nz=true∧32≤(A.rt k).n)∨(ve=0∧v.nz=true∧¬ 32≤(A.rt k).n):=by
   by_cases h1:ve=0
   ·rcases hz:v.nz with _ | _
    ·exact .inr (.inl ⟨h1,rfl⟩)
    ·by_cases h2:32≤(A.rt k).n
     ·exact .inr (.inr (.inl ⟨h1,rfl,h2⟩))
     ·exact .inr (.inr (.inr ⟨h1,rfl,h2⟩))
   ·exact .inl h1
  have HCASE:=hid hcase
  have HE0:=hid e0
  have hql:=fun W=>eql_no v W
  obtain⟨R,hR⟩:∃ R,A.loadR k i f=R:=⟨_,rfl⟩
  rw [hR] at HE0 ⊢
  have HKM:=hid hkm
  clear h he hmm hkm e0 hr hv hcase hwb hrng hR
  simp only [Rf.val] at HRO HLO ⊢
  go_enter Tryz.func127,Tryz.ntmps127
  go_upto_region 1 with (fail)
  rw [HW.out]
  go_wp2_with fail
  refine HRO.out.mono ?_
  rintro e w1 ⟨rfl,k1⟩
  have K1:=hid k1
  clear k1
  go_upto_region 4 with (fail)
  obtain⟨wc,hwc⟩:∃ wc,w1.alloc (.cells #[.int .i64 r.s,.int .u32 r.g] 34)=wc:=⟨_,rfl⟩
  have KC:=hid (show Keeps (fun _=>False) wb wc from by rw [← hwc];exact K1.out.alloc _)
  have QC:=hid (show wc.heap[w1.heap.size]?=some (.cells #[.int .i64 r.s,.int .u32 r.g] 34) from by rw [← hwc];exact alloc_new)
  rw [hwc]
  clear hwc
  obtain⟨c2,b0,b1⟩:=HPS.out wc _ KC.out QC.out
  go_cut [12,13] (fun s12 s13 wx=>∃ B,s12 = .pointer (some ⟨B,0,none⟩)∧s13 = .int .i64 ve∧wx.heap[B]?=some (.cells #[.int .i64 v.s,.int .u32 v.g] 34)∧Keeps (fun _=>False) wc wx)
  case first=>
   go_region_held3 (fun W=>W.cell? ⟨x,2,none⟩=some (.pointer (some ⟨L.hb,0,none⟩))∧W.cell? ⟨w1.heap.size,0,none⟩=some (.int .i64 r.s)∧W.cell? ⟨w1.heap.size,1,none⟩=some (.int .u32 r.g))
    ((refine HPS.out _ _ (KC.out.trans ?_) (block_keep QC.out (S:=fun _=>False) ?_ (fun h=>h)) <;> (repeat (first | with_reducible exact Keeps.refl _ _ | with_reducible refine Keeps.alloc ?_ _ | with_reducible refine Keeps.drew ?_ | with_reducible refine Keeps.setCell ?_ (.inr (Nat.le_refl _)) _ | with_reducible refine Keeps.trans ?_ (by with_reducible assumption)))))
    (first | (go_at_call 205;refine (HLO.out _ (KC.out.trans (by repeat (first | with_reducible exact Keeps.refl _ _ | with_reducible refine Keeps.alloc ?_ _ | with_reducible refine Keeps.drew ?_)))).mono ?_;rintro e w2 ⟨rfl,k2⟩;have hk2:Keeps (fun _=>False) wc w2:=Keeps.trans (by (repeat (first | with_reducible exact Keeps.refl _ _ | with_reducible refine Keeps.alloc ?_ _ | with_reducible refine Keeps.drew ?_))) k2;(first | (have nb:=block_keep (show (World.drew (wc.alloc (.cells #[.int .i64 0,.int .u32 0] 34))).heap[wc.heap.size]?=_ from alloc_new) k2 (fun h=>h);have nx:=cells2 nb;obtain⟨n0,n1,nf,nl⟩:=nx;have nf0:=nf 0;have nf1:=nf 1) | skip)))
   all_goals
    go_wp2_with fail
    go_meet
    first
     | exact⟨w2.heap.size,rfl,rfl,alloc_new,hk2.alloc _⟩
     | exact⟨wc.heap.size,rfl,rfl,fin2 nb,Keeps.fresh ((hk2.up (T:=fun y=>wc.heap.size≤y)).trans (Keeps.setCell (S:=fun y=>wc.heap.size≤y) (p:=⟨wc.heap.size,1,none⟩) (Keeps.setCell (S:=fun y=>wc.heap.size≤y) (p:=⟨wc.heap.size,0,none⟩) (Keeps.refl _ _) (.inl (Nat.le_refl _)) _) (.inl (Nat.le_refl _)) _))⟩
  case rest=>
  obtain⟨B,rfl,rfl,hB,kx⟩:=hcut
  rename_i wx
  have KX:=hid (KC.out.trans kx)
  have QB:=hid hB
  clear hB kx c2 b0 b1
  obtain⟨r0,r1,rf,rl⟩:=cells2 (D.out.b KX.out)
  have rf0:=rf 0;have rf1:=rf 1
  obtain⟨v0,v1,_,vl⟩:=cells2 QB.out
  clear rf
  rcases HCASE.out with h1 | ⟨rfl,hz⟩ | ⟨rfl,hz,h2⟩ | ⟨rfl,hz,h2⟩
  ·have hne:(ve != 0)=true:=by simpa using h1
   have HR:=hid (show R=⟨A,.no,.no,ve⟩ by rw [HE0.out,if_pos h1])
   clear h1 hql
   go_wp2_with fail
   refine bodyPost_ret_by (v:=.tuple #[.agg #[.int .i64 0,.int .u32 0],.int .i64 ve]) (by simp [results,Tryz.results127,go_sem, *]) rfl ⟨by rw [HR.out];rfl,by rw [HR.out];exact D.out.fin KX.out _ _⟩
  ·have HR:=hid (show R=⟨A,.no,.no,5⟩ by rw [HE0.out,if_neg (by simp),if_pos hz])
   rw [hz] at hql
   clear hz
   go_wp2_with fail
   refine bodyPost_ret_by (v:=.tuple #[.agg #[.int .i64 0,.int .u32 0],.int .i64 5]) (by simp [results,Tryz.results127,go_sem, *]) rfl ⟨by rw [HR.out];rfl,by rw [HR.out];exact D.out.fin KX.out _ _⟩
  ·have HR:=hid (show R=⟨A,.no,.no,4⟩ by rw [HE0.out,if_neg (by simp),if_neg (by rw [hz];simp),pushR_full h2])
   have HFX:=hid (HFU.out _ KX.out)
   rw [show decide (32≤(A.rt k).n)=true from by simpa using h2] at HFX
   rw [hz] at hql
   clear hz h2
   go_wp2_with fail
   refine (HFX.out).mono ?_
   rintro e w' ⟨rfl,h'⟩
   obtain rfl:=h'.symm
   go_wp2_with fail
   refine bodyPost_ret_by (v:=.tuple #[.agg #[.int .i64 0,.int .u32 0],.int .i64 4]) (by simp [results,Tryz.results127,go_sem, *]) rfl ⟨by rw [HR.out];rfl,by rw [HR.out];exact D.out.fin KX.out _ _⟩
  ·have HR:=hid (show R=⟨A.setRt k ((A.rt k).push v),.no,v,0⟩ by rw [HE0.out,if_neg (by simp),if_neg (by rw [hz];simp),pushR_room h2])
   have HFX:=hid (HFU.out _ KX.out)
   rw [show decide (32≤(A.rt k).n)=false from by simpa using h2] at HFX
   have HGV:=hid (D.out.give KX.out k v HKM.out h2 (HF.out.ok hz) B QB.out)
   rw [hz] at hql
   clear hz h2
   go_wp2_with fail
   refine (HFX.out).mono ?_
   rintro e w' ⟨rfl,h'⟩
   obtain rfl:=h'.symm
   go_wp2_with fail
   refine HGV.out.mono ?_
   rintro e w3 ⟨rfl,q3,qb3,hu3⟩
   have HU:=hid hu3
   clear hu3 r0 r1 rf0 rf1 rl v0 v1 vl hql
   obtain⟨r0,r1,rf,rl⟩:=cells2 q3
   have rf0:=rf 0;have rf1:=rf 1
   obtain⟨v0,v1,_,vl⟩:=cells2 qb3
   clear rf q3 qb3
   go_wp2_with fail
   refine bodyPost_ret_by (v:=.tuple #[.agg #[.int .i64 v.s,.int .u32 v.g],.int .i64 0]) (by simp [results,Tryz.results127,go_sem, *]) rfl ⟨by rw [HR.out],by rw [HR.out];exact HU.out _ _⟩
 ·have e0:A.loadR m i f=⟨A,.no,.no,(A.rootR m i).2⟩:=by
   unfold Ar.loadR
   by_cases hm:m<0∨(A.many:Int)≤m
   ·have er:(A.rootR m i).2=3:=by unfold Ar.rootR;rw [if_pos hm]
    rw [if_pos hm,er]
   ·rw [if_neg hm,if_pos he]
  rw [e0]
  obtain⟨⟨⟨rs,rg⟩,re⟩,hr⟩:∃ r,A.rootR m i=r:=⟨_,rfl⟩
  rw [hr] at HRO he ⊢
  dsimp only at HRO he ⊢
  have hne:(re != 0)=true:=by simpa using he
  clear h he e0 hr hwb hrng
  simp only [Rf.val,Rf.no] at HRO ⊢
  go_enter Tryz.func127,Tryz.ntmps127
  go_upto_region 1 with (fail)
  rw [HW.out]
  go_wp2_with fail
  refine HRO.out.mono ?_
  rintro e w1 ⟨rfl,k1⟩
  have K1:=hid k1
  obtain⟨b0,b1,bf,bl⟩:=cells2 (D.out.b k1)
  have bf0:=bf 0;have bf1:=bf 1
  clear k1 bf
  go_wp2_with fail
  refine bodyPost_ret_by (v:=.tuple #[.agg #[.int .i64 0,.int .u32 0],.int .i64 re]) (by simp [results,Tryz.results127,go_sem, *]) rfl ⟨rfl,(D.out.fin K1.out _ _).then' ((Keeps.refl _ _).alloc _)⟩
end
end Go.Proofs.YtnlkfbndlngjaaaGreat
namespace Go.Proofs.YtnlkfbndlngjaaaGreat
open Go.RowKit
set_option linter.unusedVariables false
set_option linter.unusedSimpArgs false
section
variable {w w':World} {x N:Nat} {L:L18} {A A':Ar}
theorem get18 (m j:Int) (h:R18 w x L A):
 Calls Tryz.prog 133 #[.pointer (some ⟨x,0,none⟩),.int .i64 m,.int .i64 j] w
  fun e w'=>e = .returned (.tuple #[(A.getR m j).now.val,.int .i64 (A.getR m j).e])∧Up18 x w.heap.size L (A.getR m j).A w w':=by
 obtain⟨wb,hwb⟩:∃ wb,w.alloc (.cells #[.int .i64 0,.int .u32 0] 34)=wb:=⟨_,rfl⟩
 have D:=hid (show Hd18 w wb x L A from by rw [← hwb];exact Hd18.mk0 h)
 have HMU:=hid (mutator18 m D.out.at')
 have HW:=hid hwb
 have hE:A.getR m j=if m<0∨(A.many:Int)≤m then ⟨A,.no,.no,3⟩ else if j<0∨8≤j then ⟨A,.no,.no,3⟩ else if (A.gl j.toNat).nz=false then ⟨A,.no,.no,5⟩ else A.pushR m.toNat (A.gl j.toNat):=rfl
 have HE:=hid hE
 obtain⟨r0,r1,rf,rl⟩:=cells2 D.out.q
 have rf0:=rf 0;have rf1:=rf 1
 by_cases hm:m<0∨(A.many:Int)≤m
 ·rw [show A.mutE m=3 by unfold Ar.mutE;rw [if_pos hm]] at HMU
  have HR:=hid (show A.getR m j=⟨A,.no,.no,3⟩ by rw [HE.out,if_pos hm])
  rw [HR.out]
  clear h hwb hE hm rf
  simp only [Rf.val,Rf.no]
  go_enter Tryz.func133,Tryz.ntmps133
  go_upto_region 1 with (fail)
  rw [HW.out]
  go_wp2_with fail
  refine (HMU.out).mono ?_
  rintro e w' ⟨rfl,h'⟩
  obtain rfl:=h'.symm
  go_wp2_with fail
  refine bodyPost_ret_by (v:=.tuple #[.agg #[.int .i64 0,.int .u32 0],.int .i64 3]) (by simp [results,Tryz.results133,go_sem, *]) rfl ⟨rfl,D.out.fin (Keeps.refl _ _) _ _⟩
 ·rw [show A.mutE m=0 by unfold Ar.mutE;rw [if_neg hm]] at HMU
  have hj:j<0∨(0≤j∧8≤j)∨(0≤j∧j<8):=by omega
  rcases hj with h1 | ⟨h1,h2⟩ | ⟨h1,h2⟩
  ·have HR:=hid (show A.getR m j=⟨A,.no,.no,3⟩ by rw [HE.out,if_neg hm,if_pos (by omega)])
   rw [HR.out]
   clear h hwb hE hm rf
   simp only [Rf.val,Rf.no]
   go_enter Tryz.func133,Tryz.ntmps133
   go_upto_region 1 with (fail)
   rw [HW.out]
   go_wp2_with fail
   refine (HMU.out).mono ?_
   rintro e w' ⟨rfl,h'⟩
   obtain rfl:=h'.symm
   go_wp2_with fail
   refine bodyPost_ret_by (v:=.tuple #[.agg #[.int .i64 0,.int .u32 0],.int .i64 3]) (by simp [results,Tryz.results133,go_sem, *]) rfl ⟨rfl,D.out.fin (Keeps.refl _ _) _ _⟩
  ·have HR:=hid (show A.getR m j=⟨A,.no,.no,3⟩ by rw [HE.out,if_neg hm,if_pos (by omega)])
   rw [HR.out]
   clear h hwb hE hm rf
   simp only [Rf.val,Rf.no]
   go_enter Tryz.func133,Tryz.ntmps133
   go_upto_region 1 with (fail)
   rw [HW.out]
   go_wp2_with fail
   refine (HMU.out).mono ?_
   rintro e w' ⟨rfl,h'⟩
   obtain rfl:=h'.symm
   go_wp2_with fail
   refine bodyPost_ret_by (v:=.tuple #[.agg #[.int .i64 0,.int .u32 0],.int .i64 3]) (by simp [results,Tryz.results133,go_sem, *]) rfl ⟨rfl,D.out.fin (Keeps.refl _ _) _ _⟩
  ·obtain⟨i,rfl⟩:∃ i:Nat,j=i:=⟨j.toNat,by omega⟩
   obtain⟨k,rfl⟩:∃ k:Nat,m=k:=⟨m.toNat,by omega⟩
   have hkm:k<A.many:=by omega
   have hi8:i<8:=by omega
   obtain⟨g0,g1⟩:=D.out.at'.gl hi8
   have HF:=hid (h.ok.gl i hi8)
   have hlx:=D.out.at'.lt.1
   have e0:A.getR k i=if (A.gl i).nz=false then ⟨A,.no,.no,5⟩ else A.pushR k (A.gl i):=by rw [HE.out,if_neg hm,if_neg (by omega),Int.toNat_natCast,Int.toNat_natCast]
   obtain⟨v,hv⟩:∃ v,A.gl i=v:=⟨_,rfl⟩
   rw [hv] at g0 g1 HF e0
   have HFU:=hid (fun W (hk:Keeps (fun _=>False) wb W)=>full18 k (D.out.r hk) hkm)
   have hql:=fun W=>eql_no v W
   have HQV:=hid (alloc_new (w:=wb) (o:=.cells #[.int .i64 v.s,.int .u32 v.g] 34))
   have KV:=hid ((Keeps.refl (fun _=>False) wb).alloc (.cells #[.int .i64 v.s,.int .u32 v.g] 34))
   have HKM:=hid hkm
   have HE0:=hid e0
   obtain⟨R,hR⟩:∃ R,A.getR k i=R:=⟨_,rfl⟩
   rw [hR] at HE0 ⊢
   clear h hwb hE hm rf hv e0 HE hkm hR
   rcases hz:v.nz with _ | _
   ·have HR:=hid (show R=⟨A,.no,.no,5⟩ by rw [HE0.out,if_pos hz])
    rw [hz] at hql
    clear hz
    simp only [Rf.val]
    go_enter Tryz.func133,Tryz.ntmps133
    go_upto_region 1 with (fail)
    rw [HW.out]
    go_wp2_with fail
    refine (HMU.out).mono ?_
    rintro e w' ⟨rfl,h'⟩
    obtain rfl:=h'.symm
    go_wp2_with fail
    refine bodyPost_ret_by (v:=.tuple #[.agg #[.int .i64 0,.int .u32 0],.int .i64 5]) (by simp [results,Tryz.results133,go_sem, *]) rfl ⟨by rw [HR.out];rfl,by rw [HR.out];exact (D.out.fin (Keeps.refl _ _) _ _).then' ((Keeps.refl _ _).alloc _)⟩
   ·by_cases h3:32≤(A.rt k).n
    ·have HR:=hid (show R=⟨A,.no,.no,4⟩ by rw [HE0.out,if_neg (by rw [hz];simp),pushR_full h3])
     have HFX:=hid (HFU.out _ KV.out)
     rw [show decide (32≤(A.rt k).n)=true from by simpa using h3] at HFX
     rw [hz] at hql
     clear hz h3
     simp only [Rf.val]
     go_enter Tryz.func133,Tryz.ntmps133
     go_upto_region 1 with (fail)
     rw [HW.out]
     go_wp2_with fail
     refine (HMU.out).mono ?_
     rintro e w' ⟨rfl,h'⟩
     obtain rfl:=h'.symm
     go_wp2_with fail
     refine (HFX.out).mono ?_
     rintro e w' ⟨rfl,h'⟩
     obtain rfl:=h'.symm
     go_wp2_with fail
     refine bodyPost_ret_by (v:=.tuple #[.agg #[.int .i64 0,.int .u32 0],.int .i64 4]) (by simp [results,Tryz.results133,go_sem, *]) rfl ⟨by rw [HR.out];rfl,by rw [HR.out];exact (D.out.fin (Keeps.refl _ _) _ _).then' ((Keeps.refl _ _).alloc _)⟩
    ·have HR:=hid (show R=⟨A.setRt k ((A.rt k).push v),.no,v,0⟩ by rw [HE0.out,if_neg (by rw [hz];simp),pushR_room h3])
     have HFX:=hid (HFU.out _ KV.out)
     rw [show decide (32≤(A.rt k).n)=false from by simpa using h3] at HFX
     have HGV:=hid (D.out.give KV.out k v HKM.out h3 (HF.out.ok hz) _ HQV.out)
     rw [hz] at hql
     clear hz h3
     simp only [Rf.val]
     go_enter Tryz.func133,Tryz.ntmps133
     go_upto_region 1 with (fail)
     rw [HW.out]
     go_wp2_with fail
     refine (HMU.out).mono ?_
     rintro e w' ⟨rfl,h'⟩
     obtain rfl:=h'.symm
     go_wp2_with fail
     refine (HFX.out).mono ?_
     rintro e w' ⟨rfl,h'⟩
     obtain rfl:=h'.symm
     go_wp2_with fail
     refine HGV.out.mono ?_
     rintro e w3 ⟨rfl,q3,qb3,hu3⟩
     have HU:=hid hu3
     clear hu3 r0 r1 rf0 rf1 rl g0 g1 hql
     obtain⟨r0,r1,rf,rl⟩:=cells2 q3
     have rf0:=rf 0;have rf1:=rf 1
     obtain⟨v0,v1,_,vl⟩:=cells2 qb3
     clear rf q3 qb3
     go_wp2_with fail
     refine bodyPost_ret_by (v:=.tuple #[.agg #[.int .i64 v.s,.int .u32 v.g],.int .i64 0]) (by simp [results,Tryz.results133,go_sem, *]) rfl ⟨by rw [HR.out],by rw [HR.out];exact HU.out _ _⟩
structure Hd2 (w wb:World) (x:Nat) (L:L18) (A:Ar):Prop where
 h:R18 w x L A
 k:Keeps (fun _=>False) w wb
 q:wb.heap[w.heap.size]?=some (.cells #[.int .i64 0,.int .u32 0] 34)
 p:wb.heap[w.heap.size+1]?=some (.cells #[.int .i64 0,.int .u32 0] 34)
 sz:wb.heap.size=w.heap.size+1+1
theorem Hd2.mk0 (h:R18 w x L A):Hd2 w ((w.alloc (.cells #[.int .i64 0,.int .u32 0] 34)).alloc (.cells #[.int .i64 0,.int .u32 0] 34)) x L A:=
 ⟨h,((Keeps.refl _ _).alloc _).alloc _,alloc_old alloc_new,alloc_new' (by simp),by simp⟩
theorem Hd2.r {wb W:World} (d:Hd2 w wb x L A) (hk:Keeps (fun _=>False) wb W):R18 W x L A:=d.h.k0 (d.k.trans hk)
theorem Hd2.ne {wb:World} (d:Hd2 w wb x L A):(w.heap.size≠x∧w.heap.size≠L.hb)∧(w.heap.size+1≠x∧w.heap.size+1≠L.hb):=by
 have h1:=d.h.lt.1;have h2:=d.h.heap.lt.1
 exact⟨⟨by omega,by omega⟩,by omega,by omega⟩
theorem Up18.fin2 {W wb:World} (h:Up18 x N L A' w W) (d:Hd2 w wb x L A) (hm:A'.many=A.many) (hN:w.heap.size+1<N) (hq:∃ cs,W.heap[w.heap.size]?=some (.cells cs 34)) (hp:∃ cs,W.heap[w.heap.size+1]?=some (.cells cs 34)) (u v s t:Value):
 Up18 x w.heap.size L A' w ((((W.setCell ⟨w.heap.size,0,none⟩ u).setCell ⟨w.heap.size,1,none⟩ v).setCell ⟨w.heap.size+1,0,none⟩ s).setCell ⟨w.heap.size+1,1,none⟩ t):=by
 obtain⟨cq,hq⟩:=hq
 obtain⟨cp,hp⟩:=hp
 have h1:=h.fin d.h hm (Nat.le_refl _) (by omega) hq u v
 have hp2:((W.setCell ⟨w.heap.size,0,none⟩ u).setCell ⟨w.heap.size,1,none⟩ v).heap[w.heap.size+1]?=some (.cells cp 34):=block_keep hp (keeps_two _ _ _ _) (by omega)
 exact (h1.fin d.h hm (by omega) hN hp2 s t).lower (by omega)
theorem Hd2.fin {wb W:World} (d:Hd2 w wb x L A) (hk:Keeps (fun _=>False) wb W) (u v s t:Value):Up18 x w.heap.size L A w ((((W.setCell ⟨w.heap.size,0,none⟩ u).setCell ⟨w.heap.size,1,none⟩ v).setCell ⟨w.heap.size+1,0,none⟩ s).setCell ⟨w.heap.size+1,1,none⟩ t):=
 (Up18.stay (N:=w.heap.size+2) d.h (d.k.trans hk)).fin2 d rfl (by omega) ⟨_,block_keep d.q hk (fun h=>h)⟩ ⟨_,block_keep d.p hk (fun h=>h)⟩ u v s t
theorem R18.setG (h:R18 w x L A) {k:Nat} (hk:k<8) (v:Rf) (hok:({ A with gl:=updf A.gl k v }:Ar).Ok):Up18 x N L { A with gl:=updf A.gl k v } w ((w.setCell ⟨x,4+k * 2,none⟩ (.int .i64 v.s)).setCell ⟨x,4+k * 2+1,none⟩ (.int .u32 v.g)):=by
 obtain⟨c,cap,h1,h2,h3,h4,h5,h6,h7,h8⟩:=h.own
 obtain⟨cr,r1,r2⟩:=h.row
 obtain⟨_,_,_,a1⟩:=h.heap.own
 obtain⟨_,a2,_⟩:=h.heap.row
 obtain⟨W,hW⟩:∃ W,(w.setCell ⟨x,4+k * 2,none⟩ (.int .i64 v.s)).setCell ⟨x,4+k * 2+1,none⟩ (.int .u32 v.g)=W:=⟨_,rfl⟩
 have kW:Keeps (fun y=>y=x) w W:=by
  rw [← hW]
  exact Keeps.setCell (S:=fun y=>y=x) (p:=⟨x,4+k * 2+1,none⟩) (Keeps.setCell (S:=fun y=>y=x) (p:=⟨x,4+k * 2,none⟩) (Keeps.refl _ _) (.inl rfl) _) (.inl rfl) _
 have q:W.heap[x]?=some (.cells ((c.setIfInBounds (4+k * 2) (.int .i64 v.s)).setIfInBounds (4+k * 2+1) (.int .u32 v.g)) 149):=by rw [← hW];exact set_block (set_block h1 _ _) _ _
 rw [hW]
 have g:∀ i,i<4→((c.setIfInBounds (4+k * 2) (.int .i64 v.s)).setIfInBounds (4+k * 2+1) (.int .u32 v.g))[i]?=c[i]?:=fun i hi=>by
  rw [Array.getElem?_setIfInBounds_ne (by omega),Array.getElem?_setIfInBounds_ne (by omega)]
 refine⟨kW.mono (fun _ _ h=>.inl h),L,rfl,⟨⟨_,cap,q,by simpa using h2,by rw [g 0 (by omega)];exact h3,by rw [g 1 (by omega)];exact h4,by rw [g 2 (by omega)];exact h5,by rw [g 3 (by omega)];exact h6,h7.set k hk (by omega) v,h8⟩,h.heap.keeps kW (type_ne a1 h1 (by decide)) (type_ne a2 h1 (by decide)),⟨cr,block_keep r1 kW (type_ne r1 h1 (by decide)),r2⟩,fun m hm=>(h.st m hm).keeps kW (fun y hy e=>?_),hok⟩,fun m y hm hy=>.inl ⟨m,hm,hy⟩⟩
 rcases (h.st m hm).r with⟨e',_⟩ | ⟨g,cap,cur,e',hg,_⟩
 ·rw [e'] at hy;cases hy
 ·rw [e'] at hy
  obtain rfl:g=y:=Option.some.inj hy
  exact type_ne hg h1 (by decide) e
theorem put18 (m i j:Int) (h:R18 w x L A):
 Calls Tryz.prog 131 #[.pointer (some ⟨x,0,none⟩),.int .i64 m,.int .i64 i,.int .i64 j] w
  fun e w'=>e = .returned (.tuple #[(A.putR m i j).was.val,(A.putR m i j).now.val,.int .i64 (A.putR m i j).e])∧Up18 x w.heap.size L (A.putR m i j).A w w':=by
 obtain⟨wb,hwb⟩:∃ wb,(w.alloc (.cells #[.int .i64 0,.int .u32 0] 34)).alloc (.cells #[.int .i64 0,.int .u32 0] 34)=wb:=⟨_,rfl⟩
 have D:=hid (show Hd2 w wb x L A from by rw [← hwb];exact Hd2.mk0 h)
 have HVA:=hid (value18 m i (D.out.r (Keeps.refl _ _)))
 have HW:=hid hwb
 have HE:=hid (show A.putR m i j=if (A.valueR m i).2≠0 then ⟨A,.no,.no,(A.valueR m i).2⟩ else if j<0∨8≤j then ⟨A,.no,.no,3⟩ else ⟨{ A with gl:=updf A.gl j.toNat (A.valueR m i).1 },A.gl j.toNat,(A.valueR m i).1,0⟩ from rfl)
 have HOK:=hid (h.ok.putR m i j)
 obtain⟨⟨v,ve⟩,hv⟩:∃ v,A.valueR m i=v:=⟨_,rfl⟩
 rw [hv] at HVA HE
 dsimp only at HVA HE
 obtain⟨R,hR⟩:∃ R,A.putR m i j=R:=⟨_,rfl⟩
 rw [hR] at HE HOK ⊢
 have hcase:ve≠0∨(ve=0∧j<0)∨(ve=0∧0≤j∧8≤j)∨(ve=0∧0≤j∧j<8):=by omega
 have HSZ:=hid D.out.sz
 clear h hwb hv hR
 simp only [Rf.val] at HVA ⊢
 go_enter Tryz.func131,Tryz.ntmps131
 go_upto_region 1 with (fail)
 rw [HW.out]
 go_wp2_with fail
 refine HVA.out.mono ?_
 rintro e w1 ⟨rfl,k1⟩
 have K1:=hid k1
 have KV:=hid (k1.alloc (.cells #[.int .i64 v.s,.int .u32 v.g] 34))
 have QV:=hid (alloc_new (w:=w1) (o:=.cells #[.int .i64 v.s,.int .u32 v.g] 34))
 obtain⟨q0,q1,qf,ql⟩:=cells2 (block_keep D.out.q k1 (fun h=>h))
 obtain⟨p0,p1,pf,pl⟩:=cells2 (block_keep D.out.p k1 (fun h=>h))
 have qf0:=qf 0;have qf1:=qf 1;have pf0:=pf 0;have pf1:=pf 1
 have HFI:=hid (fun a b c d=>(D.out.fin K1.out a b c d).then' ((Keeps.refl _ _).alloc (.cells #[.int .i64 v.s,.int .u32 v.g] 34)))
 clear k1 qf pf
 rcases hcase with h1 | ⟨rfl,h1⟩ | ⟨rfl,h1,h2⟩ | ⟨rfl,h1,h2⟩
 ·have hne:(ve != 0)=true:=by simpa using h1
  have HR:=hid (show R=⟨A,.no,.no,ve⟩ by rw [HE.out,if_pos h1])
  clear h1
  go_wp2_with fail
  refine bodyPost_ret_by (v:=.tuple #[.agg #[.int .i64 0,.int .u32 0],.agg #[.int .i64 0,.int .u32 0],.int .i64 ve]) (by simp [results,Tryz.results131,go_sem, *]) rfl ⟨by rw [HR.out];rfl,by rw [HR.out];exact HFI.out _ _ _ _⟩
 ·have HR:=hid (show R=⟨A,.no,.no,3⟩ by rw [HE.out,if_neg (by simp),if_pos (.inl h1)])
  go_wp2_with fail
  refine bodyPost_ret_by (v:=.tuple #[.agg #[.int .i64 0,.int .u32 0],.agg #[.int .i64 0,.int .u32 0],.int .i64 3]) (by simp [results,Tryz.results131,go_sem, *]) rfl ⟨by rw [HR.out];rfl,by rw [HR.out];exact HFI.out _ _ _ _⟩
 ·have HR:=hid (show R=⟨A,.no,.no,3⟩ by rw [HE.out,if_neg (by simp),if_pos (.inr h2)])
  go_wp2_with fail
  refine bodyPost_ret_by (v:=.tuple #[.agg #[.int .i64 0,.int .u32 0],.agg #[.int .i64 0,.int .u32 0],.int .i64 3]) (by simp [results,Tryz.results131,go_sem, *]) rfl ⟨by rw [HR.out];rfl,by rw [HR.out];exact HFI.out _ _ _ _⟩
 ·obtain⟨k,rfl⟩:∃ k:Nat,j=k:=⟨j.toNat,by omega⟩
  have hk8:k<8:=by omega
  have HR:=hid (show R=⟨{ A with gl:=updf A.gl k v },A.gl k,v,0⟩ by rw [HE.out,if_neg (by simp),if_neg (by omega),Int.toNat_natCast])
  rw [HR.out] at HOK
  dsimp only at HOK
  obtain⟨g0,g1⟩:=(D.out.r K1.out).gl hk8
  obtain⟨u,hu⟩:∃ u,A.gl k=u:=⟨_,rfl⟩
  rw [hu] at g0 g1 HR
  have hlx:=(D.out.r K1.out).lt.1
  obtain⟨wc,hwc⟩:∃ wc,(w1.alloc (.cells #[.int .i64 v.s,.int .u32 v.g] 34)).alloc (.cells #[.int .i64 u.s,.int .u32 u.g] 34)=wc:=⟨_,rfl⟩
  have KC:=hid (show Keeps (fun _=>False) wb wc from by rw [← hwc];exact KV.out.alloc _)
  have QC:=hid (show wc.heap[w1.heap.size]?=some (.cells #[.int .i64 v.s,.int .u32 v.g] 34) from by rw [← hwc];exact alloc_old QV.out)
  have QU:=hid (show wc.heap[w1.heap.size+1]?=some (.cells #[.int .i64 u.s,.int .u32 u.g] 34) from by rw [← hwc];exact alloc_new' (by simp))
  have HWC:=hid hwc
  clear hu hwc
  go_upto_region 7 with (fail)
  rw [HWC.out]
  clear g0 g1 q0 q1 ql p0 p1 pl qf0 qf1 pf0 pf1 hlx
  obtain⟨v0,v1,_,vl⟩:=cells2 QC.out
  have hRc:=D.out.r KC.out
  obtain⟨g0,g1⟩:=hRc.gl hk8
  obtain⟨cx,capx,x1,_⟩:=hRc.own
  have xf0:=frozen_block x1 (4+k * 2);have xf1:=frozen_block x1 (4+k * 2+1)
  have xl:=lt_block x1
  have HUP:=hid (fun (W:World) (hk:Keeps (fun _=>False) wc W)=>(R18.setG (N:=w.heap.size+2) (hRc.k0 hk) hk8 v HOK.out))
  obtain⟨a1,a2⟩:=D.out.ne
  have HXT:=hid x1
  clear x1 hRc
  go_still_tail 6,(by kernel_rfl)
  change wpList _ _ _ _ _ (World.drew _)
  go_upto_region 8 with (fail)
  have hu9:=HUP.out wc.drew ((Keeps.refl _ _).drew)
  obtain⟨wd,hwd⟩:∃ wd,((wc.setCell ⟨x,4+k * 2,none⟩ (.int .i64 v.s)).setCell ⟨x,4+k * 2+1,none⟩ (.int .u32 v.g)).drew=wd:=⟨_,rfl⟩
  have hux:Up18 x (w.heap.size+2) L { A with gl:=updf A.gl k v } wc.drew wd:=by rw [← hwd];exact hu9
  rw [hwd]
  have kd:Keeps (fun y=>y=x∨y=L.hb) wc wd:=(Keeps.refl (fun y=>y=x∨y=L.hb) wc).drew.trans hux.1
  have HUX:=hid (hux.from' ((D.out.k.trans KC.out).up.trans (Keeps.refl _ _).drew))
  have hb0:w1.heap.size≠L.hb:=by
   have:=(D.out.r K1.out).heap.lt.1;omega
  have hx0:w1.heap.size≠x:=by
   have:=(D.out.r K1.out).lt.1;omega
  have QD:=hid (block_keep QC.out kd (fun h=>h.elim hx0 hb0))
  have QE:=hid (block_keep QU.out kd (fun h=>h.elim (by have:=(D.out.r K1.out).lt.1;omega) (by have:=(D.out.r K1.out).heap.lt.1;omega)))
  have Q0:=hid (block_keep (block_keep D.out.q KC.out (fun h=>h)) kd (fun h=>h.elim a1.1 a1.2))
  have P0:=hid (block_keep (block_keep D.out.p KC.out (fun h=>h)) kd (fun h=>h.elim a2.1 a2.2))
  clear hwd hux hu9 kd v0 v1 vl g0 g1 xf0 xf1 xl a1 a2 hb0 hx0
  obtain⟨v0,v1,_,vl⟩:=cells2 QD.out
  obtain⟨u0,u1,_,ul⟩:=cells2 QE.out
  obtain⟨q0,q1,qf,ql⟩:=cells2 Q0.out
  obtain⟨p0,p1,pf,pl⟩:=cells2 P0.out
  have qf0:=qf 0;have qf1:=qf 1;have pf0:=pf 0;have pf1:=pf 1
  have hlt1:w.heap.size+1<w1.heap.size:=by
   have:=lt_block (block_keep D.out.p K1.out (fun h=>h));omega
  have hlt0:w.heap.size<w1.heap.size:=by omega
  have HFN:=hid (fun a b c d=>(HUX.out.fin2 D.out rfl (by omega) ⟨_,Q0.out⟩ ⟨_,P0.out⟩ a b c d).then' ((Keeps.refl _ _).drew))
  clear qf pf
  go_region
  go_wp2_with fail
  refine bodyPost_ret_by (v:=.tuple #[.agg #[.int .i64 u.s,.int .u32 u.g],.agg #[.int .i64 v.s,.int .u32 v.g],.int .i64 0]) (by simp [results,Tryz.results131,go_sem, *]) rfl ⟨by rw [HR.out],by rw [HR.out];exact HFN.out _ _ _ _⟩
end
end Go.Proofs.YtnlkfbndlngjaaaGreat
namespace Go.Proofs.YtnlkfbndlngjaaaGreat
open Go.RowKit
set_option linter.unusedVariables false
set_option linter.unusedSimpArgs false
section
variable {w w':World} {x N:Nat} {L:L18} {A A':Ar}
theorem store18 (m i f j:Int) (h:R18 w x L A):
 Calls Tryz.prog 128 #[.pointer (some ⟨x,0,none⟩),.int .i64 m,.int .i64 i,.int .i64 f,.int .i64 j] w
  fun e w'=>e = .returned (.tuple #[(A.storeR m i f j).was.val,(A.storeR m i f j).now.val,.int .i64 (A.storeR m i f j).e])∧Up18 x w.heap.size L (A.storeR m i f j).A w w':=by
 obtain⟨wb,hwb⟩:∃ wb,(w.alloc (.cells #[.int .i64 0,.int .u32 0] 34)).alloc (.cells #[.int .i64 0,.int .u32 0] 34)=wb:=⟨_,rfl⟩
 have D:=hid (show Hd2 w wb x L A from by rw [← hwb];exact Hd2.mk0 h)
 have HRO:=hid (root18 m i (D.out.r (Keeps.refl _ _)))
 have HVA:=hid (fun W (hk:Keeps (fun _=>False) wb W)=>value18 m j (D.out.r hk))
 have HW:=hid hwb
 have HE:=hid (show A.storeR m i f j=if (A.rootR m i).2≠0 then ⟨A,.no,.no,(A.rootR m i).2⟩ else if (A.valueR m j).2≠0 then ⟨A,.no,.no,(A.valueR m j).2⟩ else
  if (A.H.storeR (A.rootR m i).1 f (A.valueR m j).1).2.2≠0 then ⟨A,.no,.no,(A.H.storeR (A.rootR m i).1 f (A.valueR m j).1).2.2⟩ else
  ⟨{ A with H:=(A.H.storeR (A.rootR m i).1 f (A.valueR m j).1).1 },(A.H.storeR (A.rootR m i).1 f (A.valueR m j).1).2.1,(A.valueR m j).1,0⟩ from rfl)
 have HOK:=hid (h.ok.storeR m i f j)
 have hvf:=h.ok.value m j
 have HT:=hid (Hp.storeR_T A.H (A.rootR m i).1 f (A.valueR m j).1)
 have HST:=hid (fun W (hk:Keeps (fun _=>False) wb W)=>store14 (A.rootR m i).1 f (A.valueR m j).1 (D.out.r hk).heap hvf.bad hvf.wf)
 obtain⟨⟨r,re⟩,hr⟩:∃ r,A.rootR m i=r:=⟨_,rfl⟩
 obtain⟨⟨v,ve⟩,hv⟩:∃ v,A.valueR m j=v:=⟨_,rfl⟩
 rw [hr,hv] at HE HT HST
 rw [hr] at HRO
 rw [hv] at HVA
 dsimp only at HE HT HST HRO HVA
 obtain⟨⟨H',u,se⟩,hs⟩:∃ s,A.H.storeR r f v=s:=⟨_,rfl⟩
 rw [hs] at HE HT HST
 dsimp only at HE HT HST
 obtain⟨R,hR⟩:∃ R,A.storeR m i f j=R:=⟨_,rfl⟩
 rw [hR] at HE HOK ⊢
 have hsz:=D.out.sz
 have herr:=Hp.storeR_err (H:=A.H) (r:=r) (i:=f) (v:=v)
 rw [hs] at herr
 have HERR:=hid herr
 have hcase:re≠0∨(re=0∧ve≠0)∨(re=0∧ve=0):=by omega
 clear h hwb hr hv hs hR hvf herr
 simp only [Rf.val] at HRO HVA HST ⊢
 rcases hcase with h1 | ⟨rfl,h1⟩ | ⟨rfl,rfl⟩
 ·have hne:(re != 0)=true:=by simpa using h1
  have HR:=hid (show R=⟨A,.no,.no,re⟩ by rw [HE.out,if_pos h1])
  clear h1
  go_enter Tryz.func128,Tryz.ntmps128
  go_upto_region 1 with (fail)
  rw [HW.out]
  go_wp2_with fail
  refine HRO.out.mono ?_
  rintro e w1 ⟨rfl,k1⟩
  have K1:=hid k1
  obtain⟨q0,q1,qf,ql⟩:=cells2 (block_keep D.out.q k1 (fun h=>h))
  obtain⟨p0,p1,pf,pl⟩:=cells2 (block_keep D.out.p k1 (fun h=>h))
  have qf0:=qf 0;have qf1:=qf 1;have pf0:=pf 0;have pf1:=pf 1
  have HFI:=hid (fun a b c d=>(D.out.fin K1.out a b c d).then' ((Keeps.refl _ _).alloc (.cells #[.int .i64 r.s,.int .u32 r.g] 34)))
  clear k1 qf pf
  go_wp2_with fail
  refine bodyPost_ret_by (v:=.tuple #[.agg #[.int .i64 0,.int .u32 0],.agg #[.int .i64 0,.int .u32 0],.int .i64 re]) (by simp [results,Tryz.results128,go_sem, *]) rfl ⟨by rw [HR.out];rfl,by rw [HR.out];exact HFI.out _ _ _ _⟩
 ·have hne:(ve != 0)=true:=by simpa using h1
  have HR:=hid (show R=⟨A,.no,.no,ve⟩ by rw [HE.out,if_neg (by simp),if_pos h1])
  clear h1
  go_enter Tryz.func128,Tryz.ntmps128
  go_upto_region 1 with (fail)
  rw [HW.out]
  go_wp2_with fail
  refine HRO.out.mono ?_
  rintro e w1 ⟨rfl,k1⟩
  have K1:=hid k1
  clear k1
  go_wp2_with fail
  refine (HVA.out _ (K1.out.alloc _)).mono ?_
  rintro e w2 ⟨rfl,k2⟩
  have K2:=hid ((K1.out.alloc _).trans k2)
  obtain⟨q0,q1,qf,ql⟩:=cells2 (block_keep D.out.q K2.out (fun h=>h))
  obtain⟨p0,p1,pf,pl⟩:=cells2 (block_keep D.out.p K2.out (fun h=>h))
  have qf0:=qf 0;have qf1:=qf 1;have pf0:=pf 0;have pf1:=pf 1
  have HFI:=hid (fun a b c d=>(D.out.fin K2.out a b c d).then' ((Keeps.refl _ _).alloc (.cells #[.int .i64 v.s,.int .u32 v.g] 34)))
  clear k2 qf pf
  go_wp2_with fail
  refine bodyPost_ret_by (v:=.tuple #[.agg #[.int .i64 0,.int .u32 0],.agg #[.int .i64 0,.int .u32 0],.int .i64 ve]) (by simp [results,Tryz.results128,go_sem, *]) rfl ⟨by rw [HR.out];rfl,by rw [HR.out];exact HFI.out _ _ _ _⟩
 ·have HE2:=hid (show R=if se≠0 then ⟨A,.no,.no,se⟩ else ⟨{ A with H:=H' },u,v,0⟩ by rw [HE.out,if_neg (by simp),if_neg (by simp)])
  clear HE
  go_enter Tryz.func128,Tryz.ntmps128
  go_upto_region 1 with (fail)
  rw [HW.out]
  go_wp2_with fail
  refine HRO.out.mono ?_
  rintro e w1 ⟨rfl,k1⟩
  have K1:=hid k1
  clear k1
  go_wp2_with fail
  refine (HVA.out _ (K1.out.alloc _)).mono ?_
  rintro e w2 ⟨rfl,k2⟩
  have K2:=hid ((K1.out.alloc _).trans k2)
  have Q1:=hid (block_keep (alloc_new (w:=w1)) k2 (fun h=>h))
  have hl12:=k2.size
  simp only [World.size_alloc] at hl12
  clear k2
  go_upto_region 7 with (fail)
  obtain⟨wd,hwc⟩:∃ wd,w2.alloc (.cells #[.int .i64 v.s,.int .u32 v.g] 34)=wd:=⟨_,rfl⟩
  have KC:=hid (show Keeps (fun _=>False) wb wd from by rw [← hwc];exact K2.out.alloc _)
  have QR:=hid (show wd.heap[w1.heap.size]?=some (.cells #[.int .i64 r.s,.int .u32 r.g] 34) from by rw [← hwc];exact alloc_old Q1.out)
  have QV:=hid (show wd.heap[w2.heap.size]?=some (.cells #[.int .i64 v.s,.int .u32 v.g] 34) from by rw [← hwc];exact alloc_new)
  rw [hwc]
  clear hwc Q1
  have hk1s:=K1.out.size
  have hszc:=lt_block QV.out
  have hbl:=(D.out.r (Keeps.refl _ _)).heap.lt.1
  have hxl:=(D.out.r (Keeps.refl _ _)).lt.1
  have hrl:=(D.out.r (Keeps.refl _ _)).heap.lt.2
  have HPS:=hid (fun W (hk:Keeps (fun y=>y=L.hb∨wd.heap.size≤y) wd W)=>show W.cell? ⟨x,2,none⟩=some (.pointer (some ⟨L.hb,0,none⟩))∧W.cell? ⟨w1.heap.size,0,none⟩=some (.int .i64 r.s)∧W.cell? ⟨w1.heap.size,1,none⟩=some (.int .u32 r.g)∧W.cell? ⟨w2.heap.size,0,none⟩=some (.int .i64 v.s)∧W.cell? ⟨w2.heap.size,1,none⟩=some (.int .u32 v.g) from by
   obtain⟨cx,capx,x1,_,_,_,x2,_⟩:=(D.out.r KC.out).own
   obtain⟨_,_,_,a1⟩:=(D.out.r KC.out).heap.own
   have qx:=block_keep x1 hk (fun h=>h.elim (fun e=>type_ne x1 a1 (by decide) e) (fun e=>by have:=lt_block x1;omega))
   have qr:=block_keep QR.out hk (fun h=>h.elim (fun e=>by omega) (fun e=>by have:=lt_block QR.out;omega))
   have qv:=block_keep QV.out hk (fun h=>h.elim (fun e=>by omega) (fun e=>by have:=lt_block QV.out;omega))
   exact⟨cell_at qx x2,cell_at qr rfl,cell_at qr rfl,cell_at qv rfl,cell_at qv rfl⟩)
  obtain⟨c2,b0,b1,d0,d1⟩:=HPS.out wd (Keeps.refl _ _)
  go_cut [17,18] (fun s17 s18 wx=>∃ B r',s17 = .pointer (some ⟨B,0,none⟩)∧s18 = .int .i64 se∧wx.heap[B]?=some (.cells #[.int .i64 u.s,.int .u32 u.g] 34)∧wd.heap.size≤B∧Keeps (fun y=>y=L.hb) wd wx∧R14 wx L.hb r' H')
  case first=>
   go_region_held3 (fun W=>W.cell? ⟨x,2,none⟩=some (.pointer (some ⟨L.hb,0,none⟩))∧W.cell? ⟨w1.heap.size,0,none⟩=some (.int .i64 r.s)∧W.cell? ⟨w1.heap.size,1,none⟩=some (.int .u32 r.g)∧W.cell? ⟨w2.heap.size,0,none⟩=some (.int .i64 v.s)∧W.cell? ⟨w2.heap.size,1,none⟩=some (.int .u32 v.g))
    ((refine HPS.out _ ?_;(repeat (first | with_reducible exact Keeps.refl _ _ | with_reducible refine Keeps.alloc ?_ _ | with_reducible refine Keeps.drew ?_ | with_reducible refine Keeps.setCell ?_ (.inr (Nat.le_refl _)) _ | with_reducible refine Keeps.trans ?_ (by with_reducible assumption)))))
    (first | (go_at_call 207;refine (HST.out _ (KC.out.trans (by repeat (first | with_reducible exact Keeps.refl _ _ | with_reducible refine Keeps.alloc ?_ _ | with_reducible refine Keeps.drew ?_)))).mono ?_;rintro e w3 ⟨rfl,k3,r',hr',h3⟩;have hk3:Keeps (fun y=>y=L.hb∨wd.heap.size≤y) wd w3:=Keeps.trans (by (repeat (first | with_reducible exact Keeps.refl _ _ | with_reducible refine Keeps.alloc ?_ _ | with_reducible refine Keeps.drew ?_))) (k3.mono (fun y _ h=>Or.inl h));(first | (have nb:=block_keep (show (World.drew (wd.alloc (.cells #[.int .i64 0,.int .u32 0] 34))).heap[wd.heap.size]?=_ from alloc_new) k3 (by omega);have nx:=cells2 nb;obtain⟨n0,n1,nf,nl⟩:=nx;have nf0:=nf 0;have nf1:=nf 1) | skip)))
   all_goals
    go_wp2_with fail
    go_meet
    first
     | exact⟨w3.heap.size,r',rfl,rfl,alloc_new,hk3.size,(by first | exact (Keeps.alloc (Keeps.trans (by (repeat (first | with_reducible exact Keeps.refl _ _ | with_reducible refine Keeps.drew ?_))) k3) _)),h3.keeps (S:=fun _=>False) ((Keeps.refl _ _).alloc _) (fun h=>h) (fun h=>h)⟩
     | (refine⟨wd.heap.size,r',rfl,rfl,fin2 nb,Nat.le_refl _,?_,h3.keeps (keeps_two _ _ _ _) (by omega) ?_⟩
        ·exact Keeps.mono (((Keeps.refl (fun y=>y=L.hb∨wd.heap.size≤y) wd).alloc _).drew.trans' (k3.trans' (keeps_two _ _ _ _) (U:=fun y=>y=L.hb∨wd.heap.size≤y) (fun _ _ h=>.inl h) (fun _ _ h=>.inr (by omega))) (fun _ _ h=>h) (fun _ _ h=>h)) (fun y hy h=>h.elim id (fun e=>by omega))
        ·rcases hr' with rfl | hr'
         ·omega
         ·simp only [World.size_drew,World.size_alloc] at hr';omega)
  case rest=>
  obtain⟨B,r',rfl,rfl,hB,lB,kx,h14⟩:=hcut
  have hup:Up18 x (w.heap.size+2) L { A with H:=H' } w wc:=⟨(D.out.k.trans KC.out).up.trans (kx.mono (fun _ _ h=>.inr h)),{ L with hr:=r' },rfl,(D.out.r KC.out).setH kx h14 (by rw [HT.out]) (D.out.h.ok.setHok (by show H'.T.n=_;rw [HT.out]) h14.gn h14.good),fun m k hm hk=>.inl ⟨m,hm,hk⟩⟩
  have HUP:=hid hup
  obtain⟨a1,a2⟩:=D.out.ne
  have Q0:=hid (block_keep (block_keep D.out.q KC.out (fun h=>h)) kx a1.2)
  have P0:=hid (block_keep (block_keep D.out.p KC.out (fun h=>h)) kx a2.2)
  have QV2:=hid (block_keep QV.out kx (by omega))
  have QB:=hid hB
  have HFN:=hid (fun a b c d=>HUP.out.fin2 D.out rfl (by omega) ⟨_,Q0.out⟩ ⟨_,P0.out⟩ a b c d)
  have n1:w.heap.size+1<B:=by omega
  have n2:w.heap.size<B:=by omega
  have n3:w.heap.size+1<w2.heap.size:=by omega
  have n4:w.heap.size<w2.heap.size:=by omega
  clear hup kx h14 hB c2 b0 b1 d0 d1 a1 a2 lB hk1s hszc hbl hxl hl12 hrl
  obtain⟨q0,q1,qf,ql⟩:=cells2 Q0.out
  obtain⟨p0,p1,pf,pl⟩:=cells2 P0.out
  obtain⟨v0,v1,_,vl⟩:=cells2 QV2.out
  obtain⟨u0,u1,_,ul⟩:=cells2 QB.out
  have qf0:=qf 0;have qf1:=qf 1;have pf0:=pf 0;have pf1:=pf 1
  clear qf pf
  by_cases h1:se=0
  ·subst h1
   have HR:=hid (show R=⟨{ A with H:=H' },u,v,0⟩ by rw [HE2.out,if_neg (by simp)])
   have HFD:=hid (fun a b c d=>(HFN.out a b c d).then' ((Keeps.refl _ _).drew))
   go_wp2_with fail
   go_region
   go_wp2_with fail
   refine bodyPost_ret_by (v:=.tuple #[.agg #[.int .i64 u.s,.int .u32 u.g],.agg #[.int .i64 v.s,.int .u32 v.g],.int .i64 0]) (by simp [results,Tryz.results128,go_sem, *]) rfl ⟨by rw [HR.out],by rw [HR.out];exact HFD.out _ _ _ _⟩
  ·have hne:(se != 0)=true:=by simpa using h1
   have HR:=hid (show R=⟨A,.no,.no,se⟩ by rw [HE2.out,if_pos h1])
   have HHH:=hid (show ({ A with H:=H' }:Ar)=A by rw [HERR.out h1])
   clear h1
   go_wp2_with fail
   refine bodyPost_ret_by (v:=.tuple #[.agg #[.int .i64 0,.int .u32 0],.agg #[.int .i64 0,.int .u32 0],.int .i64 se]) (by simp [results,Tryz.results128,go_sem, *]) rfl ⟨by rw [HR.out];rfl,by rw [HR.out];have:=HFN.out;rw [HHH.out] at this;exact this _ _ _ _⟩
end
end Go.Proofs.YtnlkfbndlngjaaaGreat
namespace Go.Proofs.YtnlkfbndlngjaaaGreat
open Go.RowKit
set_option linter.unusedVariables false
set_option linter.unusedSimpArgs false
theorem Sk.drop_l (S:Sk) {i:Nat} (hi:i<S.n):(S.drop i).l=S.l.take i ++ S.l.drop (i+1):=by
 unfold Sk.l Sk.drop
 apply List.ext_getElem
 ·simp;omega
 ·intro k h1 h2
  simp at h1
  by_cases hk:k<i
  ·rw [List.getElem_append_left (by simp;omega)]
   simp;omega
  ·rw [List.getElem_append_right (by simp;omega)]
   simp only [List.getElem_map,List.getElem_range,List.getElem_drop,List.length_take,List.length_map,List.length_range]
   rw [if_pos (by omega)]
   congr 1;omega
theorem refsO_take {w:World} {p:Option Addr} {n c i:Nat} {l:List Rf} (h:RefsC w (.slice p n c) l) (hn:l.length=n) (hi:i≤n):RefsO w (.slice p i c) (l.take i):=by
 rcases h.r with⟨e,rfl⟩ | ⟨g,cap,cur,e,hg,hc⟩
 ·cases e
  obtain rfl:i=0:=by omega
  exact .inl ⟨0,rfl,rfl⟩
 ·cases e
  have hl:(l.take i).length=i:=by rw [List.length_take];omega
  refine .inr ⟨g,0,c,cur,by rw [hl],hg,fun j r hj=>?_⟩
  rw [Nat.zero_add,Nat.zero_add]
  refine hc j r ?_
  rw [List.getElem?_take] at hj
  split at hj
  ·exact hj
  ·cases hj
theorem refsO_drop {w:World} {p:Option Addr} {n c i:Nat} {l:List Rf} (h:RefsC w (.slice p n c) l) (hn:l.length=n) (hi:i≤n) (h0:0<i):RefsO w (sliced p i n c 2) (l.drop i):=by
 have hc0:=h.le
 rcases h.r with⟨e,rfl⟩ | ⟨g,cap,cur,e,hg,hc⟩
 ·cases e;omega
 ·cases e
  have hl:(l.drop i).length=l.length - i:=by rw [List.length_drop]
  unfold sliced
  by_cases e:c=i
  ·rw [if_pos e]
   have:l.drop i=[]:=List.drop_eq_nil_of_le (by omega)
   rw [this]
   refine .inr ⟨g,0,c - i,cur,?_,hg,fun j r hj=>by cases hj⟩
   rw [show l.length - i=([]:List Rf).length by simp;omega]
  ·rw [if_neg e]
   refine .inr ⟨g,i * 2,c - i,cur,?_,hg,fun j r hj=>?_⟩
   ·rw [hl,Option.map_some,Addr.add_mid,Nat.zero_add]
   ·rw [List.getElem?_drop] at hj
    obtain⟨a,b⟩:=hc _ r hj
    exact⟨by rw [← a];congr 1;omega,by rw [← b];congr 1;omega⟩
section
variable {w w':World} {x N:Nat} {L:L18} {A A':Ar}
theorem drop18 (m i:Int) (h:R18 w x L A):
 Calls Tryz.prog 129 #[.pointer (some ⟨x,0,none⟩),.int .i64 m,.int .i64 i] w
  fun e w'=>e = .returned (.tuple #[(A.dropR m i).now.val,.int .i64 (A.dropR m i).e])∧Up18 x w.heap.size L (A.dropR m i).A w w':=by
 obtain⟨wb,hwb⟩:∃ wb,w.alloc (.cells #[.int .i64 0,.int .u32 0] 34)=wb:=⟨_,rfl⟩
 have D:=hid (show Hd18 w wb x L A from by rw [← hwb];exact Hd18.mk0 h)
 have HRO:=hid (root18 m i (D.out.r (Keeps.refl _ _)))
 have HW:=hid hwb
 have hE:A.dropR m i=if m<0∨(A.many:Int)≤m then ⟨A,.no,.no,3⟩ else if i<0∨((A.rt m.toNat).n:Int)≤i then ⟨A,.no,.no,3⟩ else ⟨A.setRt m.toNat ((A.rt m.toNat).drop i.toNat),.no,(A.rt m.toNat).f i.toNat,0⟩:=rfl
 have hE2:A.rootR m i=if m<0∨(A.many:Int)≤m then (.no,3) else if i<0∨((A.rt m.toNat).n:Int)≤i then (.no,3) else ((A.rt m.toNat).f i.toNat,0):=rfl
 have HOK:=hid (h.ok.dropR m i)
 by_cases hb:(m<0∨(A.many:Int)≤m)∨(i<0∨((A.rt m.toNat).n:Int)≤i)
 ·have HR:=hid (show A.dropR m i=⟨A,.no,.no,3⟩ by
   rw [hE]
   by_cases h1:m<0∨(A.many:Int)≤m
   ·rw [if_pos h1]
   ·rw [if_neg h1,if_pos (by omega)])
  rw [show A.rootR m i=(.no,3) by
   rw [hE2]
   by_cases h1:m<0∨(A.many:Int)≤m
   ·rw [if_pos h1]
   ·rw [if_neg h1,if_pos (by omega)]] at HRO
  rw [HR.out]
  clear h hwb hE hE2 hb HOK
  simp only [Rf.val,Rf.no] at HRO ⊢
  go_enter Tryz.func129,Tryz.ntmps129
  go_upto_region 1 with (fail)
  rw [HW.out]
  go_wp2_with fail
  refine HRO.out.mono ?_
  rintro e w1 ⟨rfl,k1⟩
  have K1:=hid k1
  obtain⟨q0,q1,qf,ql⟩:=cells2 (block_keep D.out.q k1 (fun h=>h))
  have qf0:=qf 0;have qf1:=qf 1
  have HFI:=hid (fun a b=>(D.out.fin K1.out a b).then' ((Keeps.refl _ _).alloc (.cells #[.int .i64 0,.int .u32 0] 34)))
  clear k1 qf
  go_wp2_with fail
  refine bodyPost_ret_by (v:=.tuple #[.agg #[.int .i64 0,.int .u32 0],.int .i64 3]) (by simp [results,Tryz.results129,go_sem, *]) rfl ⟨rfl,HFI.out _ _⟩
 ·obtain⟨k,rfl⟩:∃ k:Nat,m=k:=⟨m.toNat,by omega⟩
  rw [Int.toNat_natCast] at hb hE hE2
  obtain⟨j,rfl⟩:∃ j:Nat,i=j:=⟨i.toNat,by omega⟩
  rw [Int.toNat_natCast] at hE hE2
  have hkm:k<A.many:=by omega
  have hjn:j<(A.rt k).n:=by omega
  rw [if_neg (by omega),if_neg (by omega)] at hE hE2
  have HR:=hid hE
  rw [hE] at HOK
  rw [hE2] at HRO
  rw [HR.out]
  dsimp only at HOK HRO ⊢
  have hdl:=Sk.drop_l (A.rt k) hjn
  obtain⟨p,c,e,h32⟩:=h.sl hkm
  have hstw:=h.st k hkm
  have hst:=fun W (hk:Keeps (fun _=>False) w W)=>hstw.keeps hk (fun _ _ h=>h)
  rw [e] at hst
  have hsc:=fun W (hk:Keeps (fun _=>False) w W)=>(h.k0 hk).sc hkm
  rw [e] at hsc
  have hc3:=fun W (hk:Keeps (fun _=>False) w W)=>(h.k0 hk).c3
  obtain⟨cap,m1,m2,c3⟩:=h.c3
  have hsx:=fun W (hk:Keeps (fun _=>False) w W)=>show W.cell? ⟨x,3,none⟩=some (.slice (some ⟨L.sr,0,none⟩) A.many cap) from by rw [World.cell?_of_block (hk.block x h.lt.1 (fun h=>h))];exact c3
  have hll:(A.rt k).l.length=(A.rt k).n:=rt_len A k
  have hcap:=(hst w (Keeps.refl _ _)).le
  have HT:=hid (fun W (hk:Keeps (fun _=>False) w W)=>refsO_take (i:=j) (hst W hk) hll (by omega))
  have HD:=hid (fun W (hk:Keeps (fun _=>False) w W)=>refsO_drop (i:=j+1) (hst W hk) hll (by omega) (by omega))
  have HSET:=hid (fun W v N (hk:Keeps (fun _=>False) w W) (hv:RefsC W v ((A.rt k).drop j).l) (hvb:∀ k,v.ownBlock=some k→N≤k)=>set18 k N v ((A.rt k).drop j) (h.k0 hk) hkm hv hvb HOK.out)
  rw [hdl] at HSET
  have HX:=hid (And.intro h.lt.1 (And.intro h.lt.2 h.heap.lt.1))
  have HUP:=hid h
  have HMY:=hid (show (A.setRt k ((A.rt k).drop j)).many=A.many from rfl)
  obtain⟨r,hr⟩:∃ r,(A.rt k).f j=r:=⟨_,rfl⟩
  obtain⟨T,hT⟩:∃ T,A.setRt k ((A.rt k).drop j)=T:=⟨_,rfl⟩
  obtain⟨l,hl⟩:∃ l,(A.rt k).l=l:=⟨_,rfl⟩
  obtain⟨n,hn⟩:∃ n,(A.rt k).n=n:=⟨_,rfl⟩
  rw [hr] at HRO ⊢
  rw [hT] at HSET HMY ⊢
  rw [hl] at HT HD HSET hll
  rw [hn] at HD hsc hll hjn hcap h32
  have hlt1:(l.take j).length=j:=by rw [List.length_take];omega
  have hlt2:(l.drop (j+1)).length=n - (j+1):=by rw [List.length_drop,hll]
  obtain⟨la,hla⟩:∃ la,l.take j=la:=⟨_,rfl⟩
  obtain⟨lb,hlb⟩:∃ lb,l.drop (j+1)=lb:=⟨_,rfl⟩
  rw [hla] at HT HSET hlt1
  rw [hlb] at HD HSET hlt2
  have hrun1:∀ W,(Instr.sliceAt 46 (.slice p n c) none (some (.int .i64 j)) none).run Tryz.prog W = .ok (.slice p j c) W:=fun W=>by
   rw [run_sliceAt_slice W _ _ _ _ _ (by rfl),run_slice_h W _ _ _ _ (by rfl) .i64 j (by omega) (by omega)]
   have hs:sliced p 0 (j:Int).toNat c 2 = .slice p j c:=by
    unfold sliced
    rw [Int.toNat_natCast,Nat.sub_zero,Nat.sub_zero]
    split
    ·rfl
    ·congr 1
     rcases p with _ | a
     ·rfl
     ·rw [Option.map_some,Nat.zero_mul]
      unfold Addr.add;split <;> simp_all
   go_simp
   done
  obtain⟨u2,hu2⟩:∃ u2,sliced p (j+1) n c 2=u2:=⟨_,rfl⟩
  have hrun2:∀ W,(Instr.sliceAt 46 (.slice p n c) (some (.int .i64 (j+1))) none none).run Tryz.prog W = .ok u2 W:=fun W=>by
   rw [run_sliceAt_slice W _ _ _ _ _ (by rfl),run_slice_l W _ _ _ _ (by rfl) .i64 (j+1) (by omega) (by omega)]
   go_simp
   rw [← hu2];rfl
  rw [hu2] at HD
  have hm0:(0:Int)≤(k:Int):=by omega
  have hmn:(k:Int)<A.many:=by omega
  have hwr:IntKind.i64.wrap ((j:Int)+1)=(j:Int)+1:=IntWalk.i64_in _ (by omega)
  have hj0:(0:Int)≤(j:Int):=by omega
  have hjc:(j:Int)≤c:=by omega
  obtain⟨many,hmy⟩:∃ many,A.many=many:=⟨_,rfl⟩
  rw [hmy] at hmn hsx m1
  unfold maxLen at m2
  have HSX:=hid hsx;have HSC:=hid hsc
  have HLA:=hid hlt1;have HLB:=hid hlt2;have HJN:=hid (And.intro hjn h32)
  clear h hwb hE hE2 hb HOK hdl e h32 hstw hst hsc hc3 c3 hsx hll hcap hr hT hl hn hlt1 hlt2 hla hlb hu2 hkm hmy
  simp only [Rf.val] at HRO ⊢
  go_enter Tryz.func129,Tryz.ntmps129
  go_upto_region 1 with (fail)
  rw [HW.out]
  go_wp2_with fail
  refine HRO.out.mono ?_
  rintro e w1 ⟨rfl,k1⟩
  have K1:=hid k1
  clear k1
  go_upto_region 4 with (fail)
  obtain⟨wd,hwd⟩:∃ wd,w1.alloc (.cells #[.int .i64 r.s,.int .u32 r.g] 34)=wd:=⟨_,rfl⟩
  have KD:=hid (show Keeps (fun _=>False) wb wd from by rw [← hwd];exact K1.out.alloc _)
  have KW:=hid (D.out.k.trans KD.out)
  have QR:=hid (show wd.heap[w1.heap.size]?=some (.cells #[.int .i64 r.s,.int .u32 r.g] 34) from by rw [← hwd];exact alloc_new)
  rw [hwd]
  clear hwd
  have up:∀ {W:World},Keeps (fun y=>wd.heap.size≤y) wd W→Keeps (fun _=>False) w W:=fun hk=>Keeps.fresh (KW.out.up.trans (hk.mono (fun y _ hy=>by have:=KW.out.size;omega)))
  have HPS:=hid (fun W (hk:Keeps (fun y=>wd.heap.size≤y) wd W)=>And.intro (HSX.out W (up hk)) (HSC.out W (up hk)))
  have HTA:=hid (fun W (hk:Keeps (fun y=>wd.heap.size≤y) wd W)=>HT.out W (up hk))
  have HDA:=hid (fun W (hk:Keeps (fun y=>wd.heap.size≤y) wd W)=>HD.out W (up hk))
  have HST:=hid (fun W v (hk:Keeps (fun y=>wd.heap.size≤y) wd W) (hv:RefsC W v (la ++ lb)) (hvb:∀ k,v.ownBlock=some k→wd.heap.size≤k)=>(HSET.out W v wd.heap.size (up hk) hv hvb).mono (fun e w' (hu:e = .returned (.tuple #[])∧Up18 x wd.heap.size L T W w')=>show e = .returned (.tuple #[])∧Up18 x wd.heap.size L T w w'∧Keeps (fun y=>(y=x∨y=L.hb)∨wd.heap.size≤y) wd w' from⟨hu.1,hu.2.from' (up hk).up,(hk.mono (fun _ _ h=>.inr h)).trans (hu.2.1.mono (fun _ _ h=>.inl h))⟩))
  obtain⟨hlx,hls,hlh⟩:=HX.out
  have hszw:=KW.out.size
  obtain⟨c3,sc⟩:=HPS.out wd (Keeps.refl _ _)
  clear up
  refine wp_region_last 24 (fun W=>W.cell? ⟨x,3,none⟩=some (.slice (some ⟨L.sr,0,none⟩) many cap)∧W.cell? ⟨L.sr,k,none⟩=some (.slice p n c)) (by kernel_rfl) (HPS.out _ (Keeps.refl _ _).drew) (fun hS=>?_)
  refine wpAnyT_take (i:=0) (v:=?_) rfl (by kernel_rfl) (by kernel_rfl) (by kernel_rfl) (by kernel_rfl) (fun _ _ _ h=>h) (Or.inl ⟨by rfl,?_⟩) (by assumption) ?_
  rotate_left
  ·(intro w hSw;(try dsimp only at hSw);simp only [List.getElem_toArray,List.getElem_cons_zero,List.getElem_cons_succ];go_simp;(first | done | with_reducible rfl))
  simp only [List.getElem_toArray,List.getElem_cons_zero,List.getElem_cons_succ,Act.put,List.setIfInBounds_toArray,List.set_cons_zero,List.set_cons_succ]
  refine wpAnyT_take (i:=1) (v:=?_) rfl (by kernel_rfl) (by kernel_rfl) (by kernel_rfl) (by kernel_rfl) (fun _ _ _ h=>h) (Or.inl ⟨by rfl,?_⟩) (by assumption) ?_
  rotate_left
  ·(intro w hSw;(try dsimp only at hSw);simp only [List.getElem_toArray,List.getElem_cons_zero,List.getElem_cons_succ];go_simp;(first | done | with_reducible rfl))
  simp only [List.getElem_toArray,List.getElem_cons_zero,List.getElem_cons_succ,Act.put,List.setIfInBounds_toArray,List.set_cons_zero,List.set_cons_succ]
  refine wpAnyT_take (i:=3) (v:=?_) rfl (by kernel_rfl) (by kernel_rfl) (by kernel_rfl) (by kernel_rfl) (fun _ _ _ h=>h) (Or.inl ⟨by rfl,?_⟩) (by assumption) ?_
  rotate_left
  ·(intro w hSw;(try dsimp only at hSw);simp only [List.getElem_toArray,List.getElem_cons_zero,List.getElem_cons_succ];go_simp;(first | done | with_reducible rfl))
  simp only [List.getElem_toArray,List.getElem_cons_zero,List.getElem_cons_succ,Act.put,List.setIfInBounds_toArray,List.set_cons_zero,List.set_cons_succ]
  refine wpAnyT_take (i:=4) (v:=?_) rfl (by kernel_rfl) (by kernel_rfl) (by kernel_rfl) (by kernel_rfl) (fun _ _ _ h=>h) (Or.inl ⟨by rfl,?_⟩) (by assumption) ?_
  rotate_left
  ·(intro w hSw;(try dsimp only at hSw);simp only [List.getElem_toArray,List.getElem_cons_zero,List.getElem_cons_succ];go_simp;(first | done | with_reducible rfl))
  simp only [List.getElem_toArray,List.getElem_cons_zero,List.getElem_cons_succ,Act.put,List.setIfInBounds_toArray,List.set_cons_zero,List.set_cons_succ]
  refine wpAnyT_take (i:=5) (v:=?_) rfl (by kernel_rfl) (by kernel_rfl) (by kernel_rfl) (by kernel_rfl) (fun _ _ _ h=>h) (Or.inl ⟨by rfl,?_⟩) (by assumption) ?_
  rotate_left
  ·(intro w hSw;(try dsimp only at hSw);simp only [List.getElem_toArray,List.getElem_cons_zero,List.getElem_cons_succ];go_simp;(first | done | with_reducible rfl))
  simp only [List.getElem_toArray,List.getElem_cons_zero,List.getElem_cons_succ,Act.put,List.setIfInBounds_toArray,List.set_cons_zero,List.set_cons_succ]
  refine wpAnyT_take (i:=6) (v:=?_) rfl (by kernel_rfl) (by kernel_rfl) (by kernel_rfl) (by kernel_rfl) (fun _ _ _ h=>h) (Or.inl ⟨by rfl,?_⟩) (by assumption) ?_
  rotate_left
  ·(intro w hSw;(try dsimp only at hSw);simp only [List.getElem_toArray,List.getElem_cons_zero,List.getElem_cons_succ];go_simp;(first | done | with_reducible rfl))
  simp only [List.getElem_toArray,List.getElem_cons_zero,List.getElem_cons_succ,Act.put,List.setIfInBounds_toArray,List.set_cons_zero,List.set_cons_succ]
  refine wpAnyT_take (i:=7) (v:=?_) rfl (by kernel_rfl) (by kernel_rfl) (by kernel_rfl) (by kernel_rfl) (fun _ _ _ h=>h) (Or.inl ⟨by rfl,?_⟩) (by assumption) ?_
  rotate_left
  ·(intro w hSw;(try dsimp only at hSw);simp only [List.getElem_toArray,List.getElem_cons_zero,List.getElem_cons_succ];go_simp;(first | done | with_reducible rfl))
  simp only [List.getElem_toArray,List.getElem_cons_zero,List.getElem_cons_succ,Act.put,List.setIfInBounds_toArray,List.set_cons_zero,List.set_cons_succ]
  refine wpAnyT_take (i:=8) (v:=?_) rfl (by kernel_rfl) (by kernel_rfl) (by kernel_rfl) (by kernel_rfl) (fun _ _ _ h=>h) (Or.inl ⟨by rfl,?_⟩) (by assumption) ?_
  rotate_left
  ·(intro w hSw;(try dsimp only at hSw);simp only [List.getElem_toArray,List.getElem_cons_zero,List.getElem_cons_succ];go_simp;(first | done | with_reducible rfl))
  simp only [List.getElem_toArray,List.getElem_cons_zero,List.getElem_cons_succ,Act.put,List.setIfInBounds_toArray,List.set_cons_zero,List.set_cons_succ]
  refine wpAnyT_take (i:=9) (v:=?_) rfl (by kernel_rfl) (by kernel_rfl) (by kernel_rfl) (by kernel_rfl) (fun _ _ _ h=>h) (Or.inl ⟨by rfl,?_⟩) (by assumption) ?_
  rotate_left
  ·(intro w hSw;(try dsimp only at hSw);simp only [List.getElem_toArray,List.getElem_cons_zero,List.getElem_cons_succ];go_simp;(first | done | with_reducible rfl))
  simp only [List.getElem_toArray,List.getElem_cons_zero,List.getElem_cons_succ,Act.put,List.setIfInBounds_toArray,List.set_cons_zero,List.set_cons_succ]
  refine wpAnyT_take (i:=10) (v:=?_) rfl (by kernel_rfl) (by kernel_rfl) (by kernel_rfl) (by kernel_rfl) (fun _ _ _ h=>h) (Or.inl ⟨by rfl,?_⟩) (by assumption) ?_
  rotate_left
  ·(intro w hSw;(try dsimp only at hSw);simp only [List.getElem_toArray,List.getElem_cons_zero,List.getElem_cons_succ];go_simp;(first | done | with_reducible rfl))
  simp only [List.getElem_toArray,List.getElem_cons_zero,List.getElem_cons_succ,Act.put,List.setIfInBounds_toArray,List.set_cons_zero,List.set_cons_succ]
  refine wpAnyT_take (i:=11) (v:=?_) rfl (by kernel_rfl) (by kernel_rfl) (by kernel_rfl) (by kernel_rfl) (fun _ _ _ h=>h) (Or.inl ⟨by rfl,?_⟩) (by assumption) ?_
  rotate_left
  ·(intro w hSw;(try dsimp only at hSw);simp only [List.getElem_toArray,List.getElem_cons_zero,List.getElem_cons_succ];go_simp;(first | done | with_reducible rfl))
  simp only [List.getElem_toArray,List.getElem_cons_zero,List.getElem_cons_succ,Act.put,List.setIfInBounds_toArray,List.set_cons_zero,List.set_cons_succ]
  refine wpAnyT_take (i:=13) (v:=?_) rfl (by kernel_rfl) (by kernel_rfl) (by kernel_rfl) (by kernel_rfl) (fun _ _ _ h=>h) (Or.inl ⟨by rfl,?_⟩) (by assumption) ?_
  rotate_left
  ·(intro w hSw;(try dsimp only at hSw);simp only [List.getElem_toArray,List.getElem_cons_zero,List.getElem_cons_succ];go_simp;(first | done | with_reducible rfl))
  simp only [List.getElem_toArray,List.getElem_cons_zero,List.getElem_cons_succ,Act.put,List.setIfInBounds_toArray,List.set_cons_zero,List.set_cons_succ]
  refine wpAnyT_take (i:=14) (v:=?_) rfl (by kernel_rfl) (by kernel_rfl) (by kernel_rfl) (by kernel_rfl) (fun _ _ _ h=>h) (Or.inl ⟨by rfl,?_⟩) (by assumption) ?_
  rotate_left
  ·(intro w hSw;(try dsimp only at hSw);simp only [List.getElem_toArray,List.getElem_cons_zero,List.getElem_cons_succ];go_simp;(first | done | with_reducible rfl))
  simp only [List.getElem_toArray,List.getElem_cons_zero,List.getElem_cons_succ,Act.put,List.setIfInBounds_toArray,List.set_cons_zero,List.set_cons_succ]
  refine wpAnyT_take (i:=15) (v:=?_) rfl (by kernel_rfl) (by kernel_rfl) (by kernel_rfl) (by kernel_rfl) (fun _ _ _ h=>h) (Or.inl ⟨by rfl,?_⟩) (by assumption) ?_
  rotate_left
  ·(intro w hSw;(try dsimp only at hSw);simp only [List.getElem_toArray,List.getElem_cons_zero,List.getElem_cons_succ];go_simp;(first | done | with_reducible rfl))
  simp only [List.getElem_toArray,List.getElem_cons_zero,List.getElem_cons_succ,Act.put,List.setIfInBounds_toArray,List.set_cons_zero,List.set_cons_succ]
  refine wpAnyT_take (i:=16) (v:=?_) rfl (by kernel_rfl) (by kernel_rfl) (by kernel_rfl) (by kernel_rfl) (fun _ _ _ h=>h) (Or.inl ⟨by rfl,?_⟩) (by assumption) ?_
  rotate_left
  ·(intro w hSw;(try dsimp only at hSw);simp only [List.getElem_toArray,List.getElem_cons_zero,List.getElem_cons_succ];go_simp;(first | done | with_reducible rfl))
  simp only [List.getElem_toArray,List.getElem_cons_zero,List.getElem_cons_succ,Act.put,List.setIfInBounds_toArray,List.set_cons_zero,List.set_cons_succ]
  refine wpAnyT_take (i:=17) (v:=?_) rfl (by kernel_rfl) (by kernel_rfl) (by kernel_rfl) (by kernel_rfl) (fun _ _ _ h=>h) (Or.inl ⟨by rfl,?_⟩) (by assumption) ?_
  rotate_left
  ·(intro w hSw;(try dsimp only at hSw);simp only [List.getElem_toArray,List.getElem_cons_zero,List.getElem_cons_succ];go_simp;(first | done | with_reducible rfl))
  simp only [List.getElem_toArray,List.getElem_cons_zero,List.getElem_cons_succ,Act.put,List.setIfInBounds_toArray,List.set_cons_zero,List.set_cons_succ]
  refine wpAnyT_take (i:=18) (v:=?_) rfl (by kernel_rfl) (by kernel_rfl) (by kernel_rfl) (by kernel_rfl) (fun _ _ _ h=>h) (Or.inl ⟨by rfl,?_⟩) (by assumption) ?_
  rotate_left
  ·(intro w hSw;(try dsimp only at hSw);simp only [List.getElem_toArray,List.getElem_cons_zero,List.getElem_cons_succ];go_simp;(first | done | with_reducible rfl))
  simp only [List.getElem_toArray,List.getElem_cons_zero,List.getElem_cons_succ,Act.put,List.setIfInBounds_toArray,List.set_cons_zero,List.set_cons_succ]
  refine wpAnyT_take (i:=19) (v:=?_) rfl (by kernel_rfl) (by kernel_rfl) (by kernel_rfl) (by kernel_rfl) (fun _ _ _ h=>h) (Or.inl ⟨by rfl,?_⟩) (by assumption) ?_
  rotate_left
  ·(intro w hSw;(try dsimp only at hSw);simp only [List.getElem_toArray,List.getElem_cons_zero,List.getElem_cons_succ];go_simp;(first | done | with_reducible rfl))
  simp only [List.getElem_toArray,List.getElem_cons_zero,List.getElem_cons_succ,Act.put,List.setIfInBounds_toArray,List.set_cons_zero,List.set_cons_succ]
  refine wpAnyT_take (i:=20) (v:=?_) rfl (by kernel_rfl) (by kernel_rfl) (by kernel_rfl) (by kernel_rfl) (fun _ _ _ h=>h) (Or.inl ⟨by rfl,?_⟩) (by assumption) ?_
  rotate_left
  ·(intro w hSw;(try dsimp only at hSw);simp only [List.getElem_toArray,List.getElem_cons_zero,List.getElem_cons_succ];go_simp;(first | done | with_reducible rfl))
  simp only [List.getElem_toArray,List.getElem_cons_zero,List.getElem_cons_succ,Act.put,List.setIfInBounds_toArray,List.set_cons_zero,List.set_cons_succ]
  refine wpAnyT_take (i:=21) (v:=?_) rfl (by kernel_rfl) (by kernel_rfl) (by kernel_rfl) (by kernel_rfl) (fun _ _ _ h=>h) (Or.inl ⟨by rfl,?_⟩) (by assumption) ?_
  rotate_left
  ·(intro w hSw;(try dsimp only at hSw);simp only [List.getElem_toArray,List.getElem_cons_zero,List.getElem_cons_succ];go_simp;(first | done | with_reducible rfl))
  simp only [List.getElem_toArray,List.getElem_cons_zero,List.getElem_cons_succ,Act.put,List.setIfInBounds_toArray,List.set_cons_zero,List.set_cons_succ]
  refine wpAnyT_take (i:=22) (v:=?_) rfl (by kernel_rfl) (by kernel_rfl) (by kernel_rfl) (by kernel_rfl) (fun _ _ _ h=>h) (Or.inl ⟨by rfl,?_⟩) (by assumption) ?_
  rotate_left
  ·(intro w hSw;(try dsimp only at hSw);simp only [List.getElem_toArray,List.getElem_cons_zero,List.getElem_cons_succ];go_simp;(first | done | with_reducible rfl))
  simp only [List.getElem_toArray,List.getElem_cons_zero,List.getElem_cons_succ,Act.put,List.setIfInBounds_toArray,List.set_cons_zero,List.set_cons_succ]
  refine wpAnyT_ready (rs:=[2]) (by kernel_rfl) (by simp) ?_
  refine AllReadyT.cons rfl rfl (fun K hK=>?_) AllReadyT.nil
  go_simp
  refine hK.out _ _ ?_ (fun hHeld=>?_)
  ·exact HPS.out _ (by repeat (first | with_reducible exact Keeps.refl _ _ | with_reducible refine Keeps.alloc ?_ _ | with_reducible refine Keeps.drew ?_ | with_reducible refine Keeps.trans ?_ (by with_reducible assumption)))
  clear hK K
  try dsimp only [Act.put,List.setIfInBounds_toArray,List.set_cons_zero,List.set_cons_succ]
  refine wpAnyT_ready (rs:=[12]) (by kernel_rfl) (by simp) ?_
  refine AllReadyT.cons rfl rfl (fun K hK=>?_) AllReadyT.nil
  refine step_append_refsO _ (by rfl) _ _ (by rfl) wd.heap.size (.slice (some ⟨_,0,none⟩) 0 0) (.slice p j c) [] la (by rfl) (by rfl) (row_empty (by first | exact alloc_new | exact alloc_old alloc_new | exact alloc_new' (by simp)) (by first | omega | (simp;done))) (HTA.out _ (by repeat (first | with_reducible exact Keeps.refl _ _ | with_reducible refine Keeps.alloc ?_ _ | with_reducible refine Keeps.drew ?_ | with_reducible refine Keeps.trans ?_ (by with_reducible assumption)))) (by rw [HLA.out];have:=HJN.out;simp;omega) (by first | omega | (simp;done) | (simp;omega)) ?_
  intro v5 w5 hr5 hk5 ho5
  rw [List.nil_append] at hr5
  have hk5':Keeps (fun y=>wd.heap.size≤y) _ w5:=hk5.mono (fun y _ hy=>by simp [Value.ownBlock] at hy;omega)
  have hs5:=hk5.size
  simp only [World.size_alloc,World.size_drew] at hs5
  clear ho5
  refine hK.out _ _ ?_ (fun hHeld=>?_)
  ·exact HPS.out _ (by repeat (first | with_reducible exact Keeps.refl _ _ | with_reducible refine Keeps.alloc ?_ _ | with_reducible refine Keeps.drew ?_ | with_reducible refine Keeps.trans ?_ (by with_reducible assumption)))
  clear hK K
  try dsimp only [Act.put,List.setIfInBounds_toArray,List.set_cons_zero,List.set_cons_succ]
  refine wpAnyT_ready (rs:=[23]) (by kernel_rfl) (by simp) ?_
  refine AllReadyT.cons rfl rfl (fun K hK=>?_) AllReadyT.nil
  refine step_append_refsO _ (by rfl) _ _ (by rfl) wd.heap.size _ u2 la lb (by rfl) (by rfl) hr5 (HDA.out _ (by repeat (first | with_reducible exact Keeps.refl _ _ | with_reducible refine Keeps.alloc ?_ _ | with_reducible refine Keeps.drew ?_ | with_reducible refine Keeps.trans ?_ (by with_reducible assumption)))) (by rw [HLA.out,HLB.out];have:=HJN.out;omega) (by first | omega | (simp;done) | (simp;omega)) ?_
  intro v6 w6 hr6 hk6 ho6
  have hk6':Keeps (fun y=>wd.heap.size≤y) _ w6:=hk6.mono (fun y _ hy=>(hr5.lt y hy).1)
  clear ho6
  refine hK.out _ _ ?_ (fun hHeld=>?_)
  ·exact HPS.out _ (by repeat (first | with_reducible exact Keeps.refl _ _ | with_reducible refine Keeps.alloc ?_ _ | with_reducible refine Keeps.drew ?_ | with_reducible refine Keeps.trans ?_ (by with_reducible assumption)))
  clear hK K
  try dsimp only [Act.put,List.setIfInBounds_toArray,List.set_cons_zero,List.set_cons_succ]
  refine wpAnyT_ready (rs:=[24]) (by kernel_rfl) (by simp) ?_
  refine AllReadyT.last rfl (by kernel_rfl) (fun K hK=>?_)
  go_simp
  go_at_call 208
  refine (HST.out _ _ (by repeat (first | with_reducible exact Keeps.refl _ _ | with_reducible refine Keeps.alloc ?_ _ | with_reducible refine Keeps.drew ?_ | with_reducible refine Keeps.trans ?_ (by with_reducible assumption))) hr6.refsC (fun k hk=>(hr6.lt k hk).1)).mono ?_
  rintro e w7 ⟨rfl,hu7,hk7⟩
  refine hK.out _ _ ?_
  refine NoPanic.normal ?_
  have hw0:w.heap.size<wd.heap.size:=by have:=lt_block (block_keep D.out.q KD.out (fun h=>h));omega
  have hw1:w1.heap.size<wd.heap.size:=lt_block QR.out
  have hb1:w.heap.size<wb.heap.size:=lt_block D.out.q
  have hb2:=K1.out.size
  have q7:=block_keep (block_keep D.out.q KD.out (fun h=>h)) hk7 (by omega)
  have p7:=block_keep QR.out hk7 (by omega)
  have HFN:=hid (fun u v=>(hu7.fin HUP.out HMY.out (Nat.le_refl _) hw0 q7 u v).lower (by omega))
  obtain⟨q0,q1,qf,ql⟩:=cells2 q7
  obtain⟨p0,p1,_,pl⟩:=cells2 p7
  have qf0:=qf 0;have qf1:=qf 1
  clear qf q7 p7 hu7 hk7 hS hr5 hr6 hk5 hk6 hk5' hk6'
  go_wp2_with fail
  refine bodyPost_ret_by (v:=.tuple #[.agg #[.int .i64 r.s,.int .u32 r.g],.int .i64 0]) (by simp [results,Tryz.results129,go_sem, *]) rfl ⟨rfl,HFN.out _ _⟩
end
end Go.Proofs.YtnlkfbndlngjaaaGreat
namespace Go.Proofs.YtnlkfbndlngjaaaGreat
open Go.RowKit
set_option linter.unusedVariables false
set_option linter.unusedSimpArgs false
theorem made_rows {m:Nat} (h1:1≤m) (h4:m≤4):∃ C:Array Value,(∀ W:World,(Instr.makeSlice 146 (.int .i64 m) (.int .i64 m)).run Tryz.prog W = .ok (.slice (some ⟨W.heap.size,0,none⟩) m m) (W.alloc (.cells C 46)))∧∀ j,j<m→C[j]?=some (.slice none 0 0):=by
 obtain⟨ri,hi1,hi2,hi3,hi4⟩:=rows_info
 refine⟨madeCells (Value.slice none 0 0).cells (m * 1),fun W=>?_,?_⟩
 ·have:=run_makeSlice (P:=Tryz.prog) W 146 46 ri (.slice none 0 0) Tryz.underlying146 hi1 hi2 .i64 .i64 m m (by omega) (by omega) (by rw [hi3,Int.toNat_natCast];omega) (by rw [hi4];omega) (by omega)
  rw [hi3,Int.toNat_natCast] at this
  exact this
 ·intro j hj
  rw [← Array.getElem?_toList]
  show (madeCells #[Value.slice none 0 0] (m * 1)).toList[j]?=_
  rw [toList_madeCells_one,List.getElem?_replicate,if_pos (by omega)]
section
variable {w w':World} {x N:Nat} {L:L18} {A A':Ar}
theorem new18_bad (n m g:Int) (hb:(n<1∨256<n∨g<1)∨m<1∨4<m) (hg:g≤4294967295):
 Calls Tryz.prog 24 #[.int .i64 n,.int .i64 m,.int .u32 g] w fun e w'=>e = .returned (.tuple #[.pointer none,.int .i64 2])∧Keeps (fun _=>False) w w':=by
 by_cases h1:n<1∨256<n∨g<1
 ·have H:=hid (new14_bad (w:=w) n g h1)
  clear hb h1
  go_enter Tryz.func24,Tryz.ntmps24
  go_wp2_with fail
  refine H.out.mono ?_
  rintro e w1 ⟨rfl,hw⟩
  obtain rfl:=hw.symm
  go_wp2_with fail
  go_ret2
  exact⟨rfl,Keeps.refl _ _⟩
 ·obtain⟨k,rfl⟩:∃ k:Nat,n=k:=⟨n.toNat,by omega⟩
  have H:=hid (new14_ok (w:=w) k g (by omega) (by omega) (by omega) hg)
  have hc:m<1∨(¬ m<1∧4<m):=by omega
  clear hb h1
  rcases hc with h1 | ⟨h1,h2⟩
  all_goals
   go_enter Tryz.func24,Tryz.ntmps24
   go_wp2_with fail
   refine H.out.mono ?_
   rintro e w1 ⟨b',r',rfl,k1,_,_,_⟩
   go_wp2_with fail
   go_ret2
   exact⟨rfl,k1⟩
theorem new18_ok (n m:Nat) (g:Int) (n1:1≤n) (n2:n≤256) (m1:1≤m) (m4:m≤4) (g1:1≤g) (g2:g≤4294967295):
 Calls Tryz.prog 24 #[.int .i64 n,.int .i64 m,.int .u32 g] w fun e w'=>∃ x L,e = .returned (.tuple #[.pointer (some ⟨x,0,none⟩),.int .i64 0])∧Keeps (fun _=>False) w w'∧w.heap.size≤x∧w.heap.size≤L.hb∧R18 w' x L (Ar.new n m g):=by
 have H:=hid (new14_ok (w:=w) n g n1 n2 g1 g2)
 obtain⟨C,hC,hC2⟩:=made_rows m1 m4
 have HC:=hid hC2
 have HOK:=hid (Ar.Ok.new n1 n2 m1 m4 g1 g2)
 have h1:¬ (m:Int)<1:=by omega
 have h4:¬ 4<(m:Int):=by omega
 clear n1 n2 m1 hC2 g1 g2
 go_enter Tryz.func24,Tryz.ntmps24
 go_wp2_with fail
 refine H.out.mono ?_
 rintro e w1 ⟨b',r',rfl,k1,hb',hr',h14⟩
 have K1:=hid k1;have H14:=hid h14
 clear k1 h14
 go_wp2_with fail
 go_ret2
 refine⟨_,⟨b',r',w1.heap.size,fun _=>.slice none 0 0⟩,rfl,(K1.out.alloc _).alloc _,?_,hb',⟨⟨_,m,alloc_new' (by simp),rfl,rfl,rfl,rfl,rfl,?_,Nat.le_refl _,?_⟩,H14.out.keeps (((Keeps.refl (fun _=>False) _).alloc _).alloc _) (fun h=>h) (fun h=>h),⟨C,alloc_old alloc_new,HC.out⟩,fun j hj=>⟨.inl ⟨rfl,rfl⟩,Nat.le_refl 0⟩,HOK.out⟩⟩
 ·have:=K1.out.size;omega
 ·intro i hi
  have:i=0∨i=1∨i=2∨i=3∨i=4∨i=5∨i=6∨i=7:=by omega
  rcases this with rfl | rfl | rfl | rfl | rfl | rfl | rfl | rfl <;> exact⟨rfl,rfl⟩
 ·unfold maxLen;omega
end
end Go.Proofs.YtnlkfbndlngjaaaGreat
