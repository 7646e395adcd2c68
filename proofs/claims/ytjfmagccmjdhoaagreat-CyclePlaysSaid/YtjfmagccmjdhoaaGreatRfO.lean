import Derived.Test.YtjfmagccmjdhoaaGreatRfI
set_option maxHeartbeats 4000000
set_option maxRecDepth 100000
namespace Go.Proofs.YtjfmagccmjdhoaaGreat
open Go.RowKit
section
variable {w w':World} {x N:Nat} {L:L18} {A A':Ar}
theorem R18.svlt (h:R18 w x L A) {m k:Nat} (hm:m<A.many) (hk:(L.sv m).ownBlock=some k):k<w.heap.size:=by
 rcases (h.st m hm).r with⟨e,_⟩ | ⟨g,cap,cur,e,hg,_⟩
 ·rw [e] at hk;cases hk
 ·rw [e] at hk
  obtain rfl:g=k:=Option.some.inj hk
  exact zF hg
theorem Up18.fin {W:World} {B:Nat} (h:Up18 x N L A' w W) (h0:R18 w x L A) (hm:A'.many=A.many) (hB:w.heap.size≤B) (hN:B<N) {cs:Array Value} (hq:W.heap[B]?=some (.cells cs 51)) (u v:Value):
 Up18 x N L A' w ((W.setCell ⟨B,0,none⟩ u).setCell ⟨B,1,none⟩ v):=by
 obtain⟨hk,L',e,h',hs⟩:=h
 refine⟨(hk.setCell (p:=⟨B,0,none⟩) (.inr hB) _).setCell (p:=⟨B,1,none⟩) (.inr hB) _,L',e,?_,hs⟩
 have k2:=keeps_two W B u v
 obtain⟨c,cap,h1,h2⟩:=h'.own
 obtain⟨cr,r1,r2⟩:=h'.row
 obtain⟨_,_,_,a1⟩:=h'.heap.own
 obtain⟨_,a2,_⟩:=h'.heap.row
 refine⟨⟨c,cap,zB h1 k2 (zM h1 hq (by decide)),h2⟩,h'.heap.keeps k2 (zM a1 hq (by decide)) (zM a2 hq (by decide)),⟨cr,zB r1 k2 (zM r1 hq (by decide)),r2⟩,fun m hm'=>(h'.st m hm').keeps k2 (fun k hk' e'=>?_),h'.ok⟩
 rcases hs m k hm' hk' with⟨m',hm2,hk2⟩ | hk2
 ·have:=h0.svlt (by rw [← hm];exact hm2) hk2
  omega
 ·omega
theorem Up18.lower {N':Nat} (h:Up18 x N L A' w w') (hN:N'≤N):Up18 x N' L A' w w':=by
 obtain⟨hk,L',e,h',hs⟩:=h
 exact⟨hk,L',e,h',fun m k hm hk=>(hs m k hm hk).imp id (fun h=>Nat.le_trans hN h)⟩
theorem Up18.from' {w0:World} (h:Up18 x N L A' w w') (hk:zA (fun y=>y=x∨y=L.hb) w0 w):Up18 x N L A' w0 w':=⟨hk.trans h.1,h.2⟩
theorem Up18.then' {W:World} (h:Up18 x N L A' w W) (hk:Kz W w'):Up18 x N L A' w w':=by
 obtain⟨h1,L',e,h',hs⟩:=h
 exact⟨h1.trans hk.up,L',e,h'.k0 hk,hs⟩
theorem pushR_full {k:Nat} {v:Rf} (h:32≤(A.rt k).n):A.pushR k v=⟨A,.no,.no,4⟩:=by unfold Ar.pushR;rw [if_pos h]
theorem pushR_room {k:Nat} {v:Rf} (h:¬ 32≤(A.rt k).n):A.pushR k v=⟨A.setRt k ((A.rt k).push v),.no,v,0⟩:=by unfold Ar.pushR;rw [if_neg h]
theorem make18 (m n:Int) (hd:Bool) (h:R18 w x L A):
 Calls Tryz.prog 44 #[.pointer (some ⟨x,0,none⟩),.int .i64 m,.int .i64 n,.bool hd] w
  fun e w'=>e = .returned (.tuple #[(A.makeR m n hd).now.val,.int .i64 (A.makeR m n hd).e])∧Up18 x w.heap.size L (A.makeR m n hd).A w w':=by
 obtain⟨wb,hwb⟩:∃ wb,w.alloc (.cells #[.int .i64 0,.int .u32 0] 51)=wb:=⟨_,rfl⟩
 have kb:Kz w wb:=by rw [← hwb];exact (zA.refl _ _).alloc _
 have qb:wb.heap[w.heap.size]?=some (.cells #[.int .i64 0,.int .u32 0] 51):=by rw [← hwb];exact zE
 have szb:wb.heap.size=w.heap.size+1:=by rw [← hwb];simp
 have hb:=h.k0 kb
 have HMU:=zC (mutator18 m hb)
 have HW:=zC hwb;have HKB:=zC kb;have HQB:=zC qb;have HSZ:=zC szb
 have HS:=zC (fun W (hk:Kz wb W)=>(Up18.stay (N:=w.heap.size) h (kb.trans hk)))
 by_cases hm:m<0∨(A.many:Int)≤m
 ·have e1:A.makeR m n hd=⟨A,.no,.no,3⟩:=by unfold Ar.makeR;rw [if_pos hm]
  rw [e1]
  rw [show A.mutE m=3 by unfold Ar.mutE;rw [if_pos hm]] at HMU
  obtain⟨b0,b1,bf,bl⟩:=zK qb
  have bf0:=bf 0;have bf1:=bf 1
  have HF:=zC (fun u v=>(Up18.stay (N:=wb.heap.size) h kb).fin h rfl (Nat.le_refl _) (by omega) qb u v)
  clear h hm e1 hb kb qb hwb szb bf
  simp only [Rf.val,Rf.no]
  go_in
  go_upto_region 1 with (fail)
  rw [HW.out]
  go_wp2_with fail
  refine zP HMU.out ?_
  go_wp2_with fail
  refine bodyPost_ret_by (v:=.tuple #[.agg #[.int .i64 0,.int .u32 0],.int .i64 3]) (by simp [results,Tryz.results44,go_sem, *]) rfl ⟨rfl,(HF.out _ _).lower (by have:=HSZ.out;omega)⟩
 ·obtain⟨k,rfl⟩:∃ k:Nat,m=k:=⟨m.toNat,by omega⟩
  have hkm:k<A.many:=by omega
  rw [show A.mutE k=0 by unfold Ar.mutE;rw [if_neg hm]] at HMU
  by_cases hok:okNew n hd
  ·have HN:=zC (fun W=>new13_ok n hd W hok)
   have HFU:=zC (fun W (hk:Kz wb W)=>full18 k (hb.k0 hk) hkm)
   have HLE:=zC (fun W (hk:Kz wb W)=>left14 (hb.k0 hk).heap)
   have HC2:=zC (fun W (hk:Kz wb W)=>(hb.k0 hk).c2)
   have e0:A.makeR k n hd=if 32≤(A.rt k).n then ⟨A,.no,.no,4⟩ else match A.H.T.inn 0 A.H.T.n with
    | []=>⟨A,.no,.no,4⟩
    | (i,g) :: _=>⟨A.made k i g (Ob.new n hd),.no,⟨i,g⟩,0⟩:=by
    unfold Ar.makeR;rw [if_neg hm,if_neg (by simpa using hok),Int.toNat_natCast];rfl
   have HFW:=zC (fun W (hk:Kz wb W) u v=>(Up18.stay (N:=wb.heap.size) h (kb.trans hk)).fin h rfl (Nat.le_refl _) (by omega) (zB qb hk (fun h=>h)) u v)
   by_cases hf:32≤(A.rt k).n
   ·rw [if_pos hf] at e0
    rw [e0]
    rw [show decide (32≤(A.rt k).n)=true from by simpa using hf] at HFU
    clear h hm hb kb qb hwb szb e0 hf hok HLE
    simp only [Rf.val,Rf.no,Ob.arr,Ob.new] at HN ⊢
    go_in
    go_upto_region 1 with (fail)
    rw [HW.out]
    go_wp2_with fail
    refine zP HMU.out ?_
    go_wp2_with fail
    refine zQ (HN.out _) fun w1 k1=>?_
    have K1:=zC k1
    obtain⟨b0,b1,bf,bl⟩:=zK (zB HQB.out k1 (fun h=>h))
    have bf0:=bf 0;have bf1:=bf 1
    clear k1 bf
    go_wp2_with fail
    refine zP (HFU.out _ (K1.out.alloc _)) ?_
    go_wp2_with fail
    refine bodyPost_ret_by (v:=.tuple #[.agg #[.int .i64 0,.int .u32 0],.int .i64 4]) (by simp [results,Tryz.results44,go_sem, *]) rfl ⟨rfl,?_⟩
    exact ((HFW.out _ K1.out _ _).lower (by have:=HSZ.out;omega)).then' ((zA.refl _ _).alloc _)
   ·rw [if_neg hf] at e0
    rw [show decide (32≤(A.rt k).n)=false from by simpa using hf] at HFU
    rcases hi:A.H.T.inn 0 A.H.T.n with _ | ⟨⟨i,g⟩,q⟩
    ·rw [hi] at e0 HLE
     dsimp only at e0
     rw [e0]
     clear h hm hb kb qb hwb szb e0 hf hok hi
     simp only [Rf.val,Rf.no,Ob.arr,Ob.new,List.length_nil] at HN HLE ⊢
     go_in
     go_upto_region 1 with (fail)
     rw [HW.out]
     go_wp2_with fail
     refine zP HMU.out ?_
     go_wp2_with fail
     refine zQ (HN.out _) fun w1 k1=>?_
     have K1:=zC k1
     obtain⟨b0,b1,bf,bl⟩:=zK (zB HQB.out k1 (fun h=>h))
     have bf0:=bf 0;have bf1:=bf 1
     have c2:=HC2.out w1 k1
     clear k1 bf
     go_wp2_with fail
     refine zP (HFU.out _ (K1.out.alloc _)) ?_
     have hlx:=(show x<w1.heap.size from World.block_lt_of_cell? _ _ c2)
     go_wp2_with fail
     refine zP (HLE.out _ (K1.out.alloc _)) ?_
     go_wp2_with fail
     refine bodyPost_ret_by (v:=.tuple #[.agg #[.int .i64 0,.int .u32 0],.int .i64 4]) (by simp [results,Tryz.results44,go_sem, *]) rfl ⟨rfl,?_⟩
     exact ((HFW.out _ K1.out _ _).lower (by have:=HSZ.out;omega)).then' ((zA.refl _ _).alloc _)
    ·obtain⟨hin,hst,hgn,hbef⟩:=Tb.inn_first hi
     have hgg:=h.heap.gn i hin
     rw [hgn] at hgg
     have hn2:=h.heap.n2
     have hr:(Rf.mk i g).Ok:=⟨by simp,by show (i:Int)<256;omega,hgg.1,hgg.2⟩
     have hmade:=h.ok.made (m:=k) (i:=i) (g:=g) (o:=Ob.new n hd) hkm hin hgn (Ob.new_good hok) (by omega)
     have hokH:({ A with H:=A.H.mk1 i g (Ob.new n hd) }:Ar).Ok:=⟨h.ok.n1,h.ok.n2,h.ok.m1,h.ok.m4,hmade.tb,hmade.ob,h.ok.rt,h.ok.gl⟩
     rw [hi] at e0 HLE
     dsimp only at e0
     rw [e0]
     have HMK:=zC (fun W (hk:Kz wb W)=>make14 n hd i g q (hb.k0 hk).heap hok hi)
     have HGV:=zC (fun W W2 r' (hk:Kz wb W) (h2:zA (fun y=>y=L.hb) W W2) (hr14:R14 W2 L.hb r' (A.H.mk1 i g (Ob.new n hd))) (W3:World) (h3:Kz W2 W3)=>
      let hW2:=((hb.k0 hk).setH h2 hr14 rfl hokH).k0 h3
      (give18 k ⟨i,g⟩ hW2 hkm (by show (A.rt k).n<32;omega) hr).mono (fun e w' (hu:e = .returned (.tuple #[])∧Up18 x W3.heap.size { L with hr:=r' } (A.made k i g (Ob.new n hd)) W3 w')=>
       show e = .returned (.tuple #[])∧Up18 x W3.heap.size L (A.made k i g (Ob.new n hd)) w w'∧zA (fun y=>y=x∨y=L.hb) W3 w' from⟨hu.1,⟨(((kb.trans hk).up.trans' h2 (fun _ _ h=>h) (fun _ _ h=>.inr h)).trans h3.up).trans hu.2.1,hu.2.2⟩,hu.2.1⟩))
     have HFN:=zC (fun W N' (hu:Up18 x N' L (A.made k i g (Ob.new n hd)) w W) (hN:w.heap.size<N') (hq:∃ cs,W.heap[w.heap.size]?=some (.cells cs 51)) u v=>hu.fin h rfl (Nat.le_refl _) hN hq.choose_spec u v)
     have hbne:w.heap.size≠L.hb:=by have:=h.heap.lt.1;omega
     have hxne:w.heap.size≠x:=by have:=h.lt.1;omega
     have hlen:((((i,g) :: q).length:Nat):Int)=q.length+1:=by simp
     rw [hlen] at HLE
     have hq0:(0:Int)≤q.length:=by omega
     have hqs:(q.length:Int)≤256:=by
      have:=Tb.inn_len A.H.T 0 A.H.T.n
      rw [hi] at this;simp at this;omega
     clear h hm hb kb qb hwb szb e0 hf hok hi hin hst hgn hbef hgg hn2 hr hmade hokH hlen hkm
     simp only [Rf.val,Rf.no,Ob.arr,Ob.new] at HN HMK HGV HFN ⊢
     go_in
     go_upto_region 1 with (fail)
     rw [HW.out]
     go_wp2_with fail
     refine zP HMU.out ?_
     go_wp2_with fail
     refine zQ (HN.out _) fun w1 k1=>?_
     have K1:=zC k1
     have c2:=HC2.out w1 k1
     have Q1:=zC (zB HQB.out k1 (fun h=>h))
     clear k1
     go_wp2_with fail
     refine zP (HFU.out _ (K1.out.alloc _)) ?_
     have hlx:=(show x<w1.heap.size from World.block_lt_of_cell? _ _ c2)
     go_wp2_with fail
     refine zP (HLE.out _ (K1.out.alloc _)) ?_
     go_wp2_with fail
     refine (HMK.out _ (K1.out.alloc _)).mono ?_
     rintro e w2 ⟨rfl,k2,r',hr',h2⟩
     have H2:=zC h2;have K2:=zC k2
     have Q2:=zC (zB (zG Q1.out) k2 hbne)
     have hs2:=k2.size
     simp only [World.size_alloc] at hs2
     clear h2 k2 hr' c2
     go_wp2_with fail
     refine (HGV.out _ _ r' (K1.out.alloc _) K2.out H2.out _ ((zA.refl _ _).alloc _)).mono ?_
     rintro e w3 ⟨rfl,hu,hk3⟩
     obtain⟨b0,b1,bf,bl⟩:=zK (zB (zG Q2.out) hk3 (fun h=>h.elim hxne hbne))
     have bf0:=bf 0;have bf1:=bf 1
     have hlhb:=H2.out.lt.1
     obtain⟨c0,c1,_,cl⟩:=zK (zB (zE (w:=w2)) hk3 (fun h=>by omega))
     have hl3:=HFN.out w3 _ hu (by have:=zF Q2.out;simp;omega) ⟨_,zB (zG Q2.out) hk3 (fun h=>h.elim hxne hbne)⟩
     have HL3:=zC hl3
     have hs3:w.heap.size≤w2.heap.size+1:=by have:=zF Q2.out;omega
     have HS3:=zC hs3
     clear hu hk3 hl3 bf hs3
     go_wp2_with fail
     refine bodyPost_ret_by (v:=.tuple #[.agg #[.int .i64 i,.int .u32 g],.int .i64 0]) (by simp [results,Tryz.results44,go_sem, *]) rfl ⟨rfl,(HL3.out _ _).lower (by simpa using HS3.out)⟩
  ·have HN:=zC (fun W=>new13_bad n hd W hok)
   have e0:A.makeR k n hd=⟨A,.no,.no,2⟩:=by
    unfold Ar.makeR;rw [if_neg hm,if_pos hok]
   rw [e0]
   have HFW:=zC (fun W (hk:Kz wb W) u v=>(Up18.stay (N:=wb.heap.size) h (kb.trans hk)).fin h rfl (Nat.le_refl _) (by omega) (zB qb hk (fun h=>h)) u v)
   clear h hm hb kb qb hwb szb e0 hok hkm
   simp only [Rf.val,Rf.no,Ob.arr,Ob.new] at HN ⊢
   go_in
   go_upto_region 1 with (fail)
   rw [HW.out]
   go_wp2_with fail
   refine zP HMU.out ?_
   go_wp2_with fail
   refine zQ (HN.out _) fun w1 k1=>?_
   have K1:=zC k1
   obtain⟨b0,b1,bf,bl⟩:=zK (zB HQB.out k1 (fun h=>h))
   have bf0:=bf 0;have bf1:=bf 1
   clear k1 bf
   go_wp2_with fail
   refine bodyPost_ret_by (v:=.tuple #[.agg #[.int .i64 0,.int .u32 0],.int .i64 2]) (by simp [results,Tryz.results44,go_sem, *]) rfl ⟨rfl,?_⟩
   exact ((HFW.out _ K1.out _ _).lower (by have:=HSZ.out;omega)).then' ((zA.refl _ _).alloc _)
end
section
variable {w w':World} {x N:Nat} {L:L18} {A A':Ar}
structure Hd18 (w wb:World) (x:Nat) (L:L18) (A:Ar):Prop where
 h:R18 w x L A
 k:Kz w wb
 q:wb.heap[w.heap.size]?=some (.cells #[.int .i64 0,.int .u32 0] 51)
 sz:wb.heap.size=w.heap.size+1
theorem Hd18.mk0 (h:R18 w x L A):Hd18 w (w.alloc (.cells #[.int .i64 0,.int .u32 0] 51)) x L A:=⟨h,(zA.refl _ _).alloc _,zE,by simp⟩
theorem Hd18.at' {wb:World} (d:Hd18 w wb x L A):R18 wb x L A:=d.h.k0 d.k
theorem Hd18.r {wb W:World} (d:Hd18 w wb x L A) (hk:Kz wb W):R18 W x L A:=d.at'.k0 hk
theorem Hd18.b {wb W:World} (d:Hd18 w wb x L A) (hk:Kz wb W):W.heap[w.heap.size]?=some (.cells #[.int .i64 0,.int .u32 0] 51):=zB d.q hk (fun h=>h)
theorem Hd18.fin {wb W:World} (d:Hd18 w wb x L A) (hk:Kz wb W) (u v:Value):Up18 x w.heap.size L A w ((W.setCell ⟨w.heap.size,0,none⟩ u).setCell ⟨w.heap.size,1,none⟩ v):=
 ((Up18.stay (N:=wb.heap.size) d.h (d.k.trans hk)).fin d.h rfl (Nat.le_refl _) (by have:=d.sz;omega) (d.b hk) u v).lower (by have:=d.sz;omega)
theorem Hd18.ne {wb:World} (d:Hd18 w wb x L A):w.heap.size≠x∧w.heap.size≠L.hb:=by
 have h1:=d.h.lt.1;have h2:=d.h.heap.lt.1
 exact⟨by omega,by omega⟩
theorem Hd18.give {wb W:World} (d:Hd18 w wb x L A) (hk:Kz wb W) (k:Nat) (r:Rf) (hkm:k<A.many) (hn:¬ 32≤(A.rt k).n) (hr:r.Ok) (B:Nat) (hB:W.heap[B]?=some (.cells #[.int .i64 r.s,.int .u32 r.g] 51)):
 Calls Tryz.prog 115 #[.pointer (some ⟨x,0,none⟩),.int .i64 k,.agg #[.int .i64 r.s,.int .u32 r.g]] W fun e w'=>e = .returned (.tuple #[])∧
  w'.heap[w.heap.size]?=some (.cells #[.int .i64 0,.int .u32 0] 51)∧w'.heap[B]?=some (.cells #[.int .i64 r.s,.int .u32 r.g] 51)∧
  (∀ u v,Up18 x w.heap.size L (A.setRt k ((A.rt k).push r)) w ((w'.setCell ⟨w.heap.size,0,none⟩ u).setCell ⟨w.heap.size,1,none⟩ v)):=by
 refine (give18 k r (d.r hk) hkm (by omega) hr).mono ?_
 rintro e w' ⟨h1,hu⟩
 have hq:=zB (d.b hk) hu.1 (fun h=>h.elim d.ne.1 d.ne.2)
 obtain⟨_,_,x1,_⟩:=(d.r hk).own
 obtain⟨_,_,_,a1⟩:=(d.r hk).heap.own
 refine⟨h1,hq,zB hB hu.1 (fun h=>h.elim (zM hB x1 (by decide)) (zM hB a1 (by decide))),fun u v=>?_⟩
 refine ((hu.from' (d.k.trans hk).up).fin d.h rfl (Nat.le_refl _) ?_ hq u v).lower ?_
 ·have:=d.sz;have:=hk.size;omega
 ·have:=d.sz;have:=hk.size;omega
theorem load18 (m i f:Int) (h:R18 w x L A):
 Calls Tryz.prog 47 #[.pointer (some ⟨x,0,none⟩),.int .i64 m,.int .i64 i,.int .i64 f] w
  fun e w'=>e = .returned (.tuple #[(A.loadR m i f).now.val,.int .i64 (A.loadR m i f).e])∧Up18 x w.heap.size L (A.loadR m i f).A w w':=by
 obtain⟨wb,hwb⟩:∃ wb,w.alloc (.cells #[.int .i64 0,.int .u32 0] 51)=wb:=⟨_,rfl⟩
 have D:=zC (show Hd18 w wb x L A from by rw [← hwb];exact Hd18.mk0 h)
 have HRO:=zC (root18 m i D.out.at')
 have HW:=zC hwb
 have hrng:m<0∨(A.many:Int)≤m→(A.rootR m i).2≠0:=fun hm=>by unfold Ar.rootR;rw [if_pos hm];decide
 by_cases he:(A.rootR m i).2=0
 ·have hmm:¬ (m<0∨(A.many:Int)≤m):=fun hm=>hrng hm he
  obtain⟨k,rfl⟩:∃ k:Nat,m=k:=⟨m.toNat,by omega⟩
  have hkm:k<A.many:=by omega
  have HF:Hid (A.H.loadR (A.rootR k i).1 f).1.Fine:=h.ok.field _ _
  have e0:A.loadR k i f=if (A.H.loadR (A.rootR k i).1 f).2≠0 then ⟨A,.no,.no,(A.H.loadR (A.rootR k i).1 f).2⟩ else
   if (A.H.loadR (A.rootR k i).1 f).1.nz=false then ⟨A,.no,.no,5⟩ else A.pushR k (A.H.loadR (A.rootR k i).1 f).1:=by
   unfold Ar.loadR;rw [if_neg hmm,if_neg (by rw [he];simp),Int.toNat_natCast]
  rw [he] at HRO
  obtain⟨r,hr⟩:∃ r,(A.rootR k i).1=r:=⟨_,rfl⟩
  rw [hr] at HRO e0 HF
  have HLO:=zC (fun W (hk:Kz wb W)=>load14 r f (D.out.r hk).heap)
  obtain⟨⟨v,ve⟩,hv⟩:∃ v,A.H.loadR r f=v:=⟨_,rfl⟩
  rw [hv] at HLO e0 HF
  dsimp only at HLO e0 HF
  have HFU:=zC (fun W (hk:Kz wb W)=>full18 k (D.out.r hk) hkm)
  have HPS:=zC (fun W B (hk:Kz wb W) (hB:W.heap[B]?=some (.cells #[.int .i64 r.s,.int .u32 r.g] 51))=>show W.cell? ⟨x,2,none⟩=some (.pointer (some ⟨L.hb,0,none⟩))∧W.cell? ⟨B,0,none⟩=some (.int .i64 r.s)∧W.cell? ⟨B,1,none⟩=some (.int .u32 r.g) from
   ⟨(D.out.r hk).c2,zD hB rfl,zD hB rfl⟩)
  have hcase:ve≠0∨(ve=0∧v.nz=false)∨(ve=0∧v.nz=true∧32≤(A.rt k).n)∨(ve=0∧v.nz=true∧¬ 32≤(A.rt k).n):=by
   by_cases h1:ve=0
   ·rcases hz:v.nz with _ | _
    ·exact .inr (.inl ⟨h1,rfl⟩)
    ·by_cases h2:32≤(A.rt k).n
     ·exact .inr (.inr (.inl ⟨h1,rfl,h2⟩))
     ·exact .inr (.inr (.inr ⟨h1,rfl,h2⟩))
   ·exact .inl h1
  have HCASE:=zC hcase
  have HE0:=zC e0
  have hql:=fun W=>eql_no v W
  obtain⟨R,hR⟩:∃ R,A.loadR k i f=R:=⟨_,rfl⟩
  rw [hR] at HE0 ⊢
  have HKM:=zC hkm
  clear h he hmm hkm e0 hr hv hcase hwb hrng hR
  simp only [Rf.val] at HRO HLO ⊢
  go_in
  go_upto_region 1 with (fail)
  rw [HW.out]
  go_wp2_with fail
  refine zQ HRO.out fun w1 k1=>?_
  have K1:=zC k1
  clear k1
  go_upto_region 4 with (fail)
  obtain⟨wc,hwc⟩:∃ wc,w1.alloc (.cells #[.int .i64 r.s,.int .u32 r.g] 51)=wc:=⟨_,rfl⟩
  have KC:=zC (show Kz wb wc from by rw [← hwc];exact K1.out.alloc _)
  have QC:=zC (show wc.heap[w1.heap.size]?=some (.cells #[.int .i64 r.s,.int .u32 r.g] 51) from by rw [← hwc];exact zE)
  rw [hwc]
  clear hwc
  obtain⟨c2,b0,b1⟩:=HPS.out wc _ KC.out QC.out
  go_cut [12,13] (fun s12 s13 wx=>∃ B,s12 = .pointer (some ⟨B,0,none⟩)∧s13 = .int .i64 ve∧wx.heap[B]?=some (.cells #[.int .i64 v.s,.int .u32 v.g] 51)∧Kz wc wx)
  case first=>
   go_region_held3 (fun W=>W.cell? ⟨x,2,none⟩=some (.pointer (some ⟨L.hb,0,none⟩))∧W.cell? ⟨w1.heap.size,0,none⟩=some (.int .i64 r.s)∧W.cell? ⟨w1.heap.size,1,none⟩=some (.int .u32 r.g))
    ((refine HPS.out _ _ (KC.out.trans ?_) (zB QC.out (S:=fun _=>False) ?_ (fun h=>h)) <;> (with_reducible repeat first | exact zA.refl _ _ | refine zA.alloc ?_ _ | refine zA.drew ?_ | refine zA.setCell ?_ (.inr (Nat.le_refl _)) _ | refine zA.trans ?_ (by with_reducible assumption))))
    (first | (go_at_call 121;refine (HLO.out _ (KC.out.trans zA.r)).mono ?_;rintro e w2 ⟨rfl,k2⟩;have hk2:Kz wc w2:=zA.trans zA.r k2;(first | (have nb:=zB (show (World.drew (wc.alloc (.cells #[.int .i64 0,.int .u32 0] 51))).heap[wc.heap.size]?=_ from zE) k2 (fun h=>h);have nx:=zK nb;obtain⟨n0,n1,nf,nl⟩:=nx;have nf0:=nf 0;have nf1:=nf 1) | skip)))
   all_goals
    go_wp2_with fail
    go_meet
    first
     | exact⟨w2.heap.size,rfl,rfl,zE,hk2.alloc _⟩
     | exact⟨wc.heap.size,rfl,rfl,fin2 nb,zA.fresh ((hk2.up (T:=fun y=>wc.heap.size≤y)).trans (zA.setCell (S:=fun y=>wc.heap.size≤y) (p:=⟨wc.heap.size,1,none⟩) (zA.setCell (S:=fun y=>wc.heap.size≤y) (p:=⟨wc.heap.size,0,none⟩) (zA.refl _ _) (.inl (Nat.le_refl _)) _) (.inl (Nat.le_refl _)) _))⟩
  case rest=>
  obtain⟨B,rfl,rfl,hB,kx⟩:=hcut
  rename_i wx
  have KX:=zC (KC.out.trans kx)
  have QB:=zC hB
  clear hB kx c2 b0 b1
  obtain⟨r0,r1,rf,rl⟩:=zK (D.out.b KX.out)
  have rf0:=rf 0;have rf1:=rf 1
  obtain⟨v0,v1,_,vl⟩:=zK QB.out
  clear rf
  rcases HCASE.out with h1 | ⟨rfl,hz⟩ | ⟨rfl,hz,h2⟩ | ⟨rfl,hz,h2⟩
  ·have hne:(ve != 0)=true:=by simpa using h1
   have HR:=zC (show R=⟨A,.no,.no,ve⟩ by rw [HE0.out,if_pos h1])
   clear h1 hql
   go_wp2_with fail
   refine bodyPost_ret_by (v:=.tuple #[.agg #[.int .i64 0,.int .u32 0],.int .i64 ve]) (by simp [results,Tryz.results47,go_sem, *]) rfl ⟨by rw [HR.out];rfl,by rw [HR.out];exact D.out.fin KX.out _ _⟩
  ·have HR:=zC (show R=⟨A,.no,.no,5⟩ by rw [HE0.out,if_neg (by simp),if_pos hz])
   rw [hz] at hql
   clear hz
   go_wp2_with fail
   refine bodyPost_ret_by (v:=.tuple #[.agg #[.int .i64 0,.int .u32 0],.int .i64 5]) (by simp [results,Tryz.results47,go_sem, *]) rfl ⟨by rw [HR.out];rfl,by rw [HR.out];exact D.out.fin KX.out _ _⟩
  ·have HR:=zC (show R=⟨A,.no,.no,4⟩ by rw [HE0.out,if_neg (by simp),if_neg (by rw [hz];simp),pushR_full h2])
   have HFX:=zC (HFU.out _ KX.out)
   rw [show decide (32≤(A.rt k).n)=true from by simpa using h2] at HFX
   rw [hz] at hql
   clear hz h2
   go_wp2_with fail
   refine zP HFX.out ?_
   go_wp2_with fail
   refine bodyPost_ret_by (v:=.tuple #[.agg #[.int .i64 0,.int .u32 0],.int .i64 4]) (by simp [results,Tryz.results47,go_sem, *]) rfl ⟨by rw [HR.out];rfl,by rw [HR.out];exact D.out.fin KX.out _ _⟩
  ·have HR:=zC (show R=⟨A.setRt k ((A.rt k).push v),.no,v,0⟩ by rw [HE0.out,if_neg (by simp),if_neg (by rw [hz];simp),pushR_room h2])
   have HFX:=zC (HFU.out _ KX.out)
   rw [show decide (32≤(A.rt k).n)=false from by simpa using h2] at HFX
   have HGV:=zC (D.out.give KX.out k v HKM.out h2 (HF.out.ok hz) B QB.out)
   rw [hz] at hql
   clear hz h2
   go_wp2_with fail
   refine zP HFX.out ?_
   go_wp2_with fail
   refine HGV.out.mono ?_
   rintro e w3 ⟨rfl,q3,qb3,hu3⟩
   have HU:=zC hu3
   clear hu3 r0 r1 rf0 rf1 rl v0 v1 vl hql
   obtain⟨r0,r1,rf,rl⟩:=zK q3
   have rf0:=rf 0;have rf1:=rf 1
   obtain⟨v0,v1,_,vl⟩:=zK qb3
   clear rf q3 qb3
   go_wp2_with fail
   refine bodyPost_ret_by (v:=.tuple #[.agg #[.int .i64 v.s,.int .u32 v.g],.int .i64 0]) (by simp [results,Tryz.results47,go_sem, *]) rfl ⟨by rw [HR.out],by rw [HR.out];exact HU.out _ _⟩
 ·have e0:A.loadR m i f=⟨A,.no,.no,(A.rootR m i).2⟩:=by
   unfold Ar.loadR
   by_cases hm:m<0∨(A.many:Int)≤m
   ·have er:(A.rootR m i).2=3:=by unfold Ar.rootR;rw [if_pos hm]
    rw [if_pos hm,er]
   ·rw [if_neg hm,if_pos he]
  rw [e0]
  obtain⟨⟨⟨rs,rg⟩,re⟩,hr⟩:∃ r,A.rootR m i=r:=⟨_,rfl⟩
  rw [hr] at HRO he ⊢
  dsimp only at HRO he ⊢
  have hne:(re != 0)=true:=by simpa using he
  clear h he e0 hr hwb hrng
  simp only [Rf.val,Rf.no] at HRO ⊢
  go_in
  go_upto_region 1 with (fail)
  rw [HW.out]
  go_wp2_with fail
  refine zQ HRO.out fun w1 k1=>?_
  have K1:=zC k1
  obtain⟨b0,b1,bf,bl⟩:=zK (D.out.b k1)
  have bf0:=bf 0;have bf1:=bf 1
  clear k1 bf
  go_wp2_with fail
  refine bodyPost_ret_by (v:=.tuple #[.agg #[.int .i64 0,.int .u32 0],.int .i64 re]) (by simp [results,Tryz.results47,go_sem, *]) rfl ⟨rfl,(D.out.fin K1.out _ _).then' ((zA.refl _ _).alloc _)⟩
end
section
variable {w w':World} {x N:Nat} {L:L18} {A A':Ar}
theorem get18 (m j:Int) (h:R18 w x L A):
 Calls Tryz.prog 52 #[.pointer (some ⟨x,0,none⟩),.int .i64 m,.int .i64 j] w
  fun e w'=>e = .returned (.tuple #[(A.getR m j).now.val,.int .i64 (A.getR m j).e])∧Up18 x w.heap.size L (A.getR m j).A w w':=by
 obtain⟨wb,hwb⟩:∃ wb,w.alloc (.cells #[.int .i64 0,.int .u32 0] 51)=wb:=⟨_,rfl⟩
 have D:=zC (show Hd18 w wb x L A from by rw [← hwb];exact Hd18.mk0 h)
 have HMU:=zC (mutator18 m D.out.at')
 have HW:=zC hwb
 have hE:A.getR m j=if m<0∨(A.many:Int)≤m then ⟨A,.no,.no,3⟩ else if j<0∨8≤j then ⟨A,.no,.no,3⟩ else if (A.gl j.toNat).nz=false then ⟨A,.no,.no,5⟩ else A.pushR m.toNat (A.gl j.toNat):=rfl
 have HE:=zC hE
 obtain⟨r0,r1,rf,rl⟩:=zK D.out.q
 have rf0:=rf 0;have rf1:=rf 1
 by_cases hm:m<0∨(A.many:Int)≤m
 ·rw [show A.mutE m=3 by unfold Ar.mutE;rw [if_pos hm]] at HMU
  have HR:=zC (show A.getR m j=⟨A,.no,.no,3⟩ by rw [HE.out,if_pos hm])
  rw [HR.out]
  clear h hwb hE hm rf
  simp only [Rf.val,Rf.no]
  go_in
  go_upto_region 1 with (fail)
  rw [HW.out]
  go_wp2_with fail
  refine zP HMU.out ?_
  go_wp2_with fail
  refine bodyPost_ret_by (v:=.tuple #[.agg #[.int .i64 0,.int .u32 0],.int .i64 3]) (by simp [results,Tryz.results52,go_sem, *]) rfl ⟨rfl,D.out.fin (zA.refl _ _) _ _⟩
 ·rw [show A.mutE m=0 by unfold Ar.mutE;rw [if_neg hm]] at HMU
  have hj:j<0∨(0≤j∧8≤j)∨(0≤j∧j<8):=by omega
  rcases hj with h1 | ⟨h1,h2⟩ | ⟨h1,h2⟩
  ·have HR:=zC (show A.getR m j=⟨A,.no,.no,3⟩ by rw [HE.out,if_neg hm,if_pos (by omega)])
   rw [HR.out]
   clear h hwb hE hm rf
   simp only [Rf.val,Rf.no]
   go_in
   go_upto_region 1 with (fail)
   rw [HW.out]
   go_wp2_with fail
   refine zP HMU.out ?_
   go_wp2_with fail
   refine bodyPost_ret_by (v:=.tuple #[.agg #[.int .i64 0,.int .u32 0],.int .i64 3]) (by simp [results,Tryz.results52,go_sem, *]) rfl ⟨rfl,D.out.fin (zA.refl _ _) _ _⟩
  ·have HR:=zC (show A.getR m j=⟨A,.no,.no,3⟩ by rw [HE.out,if_neg hm,if_pos (by omega)])
   rw [HR.out]
   clear h hwb hE hm rf
   simp only [Rf.val,Rf.no]
   go_in
   go_upto_region 1 with (fail)
   rw [HW.out]
   go_wp2_with fail
   refine zP HMU.out ?_
   go_wp2_with fail
   refine bodyPost_ret_by (v:=.tuple #[.agg #[.int .i64 0,.int .u32 0],.int .i64 3]) (by simp [results,Tryz.results52,go_sem, *]) rfl ⟨rfl,D.out.fin (zA.refl _ _) _ _⟩
  ·obtain⟨i,rfl⟩:∃ i:Nat,j=i:=⟨j.toNat,by omega⟩
   obtain⟨k,rfl⟩:∃ k:Nat,m=k:=⟨m.toNat,by omega⟩
   have hkm:k<A.many:=by omega
   have hi8:i<8:=by omega
   obtain⟨g0,g1⟩:=D.out.at'.gl hi8
   have HF:=zC (h.ok.gl i hi8)
   have hlx:=D.out.at'.lt.1
   have e0:A.getR k i=if (A.gl i).nz=false then ⟨A,.no,.no,5⟩ else A.pushR k (A.gl i):=by rw [HE.out,if_neg hm,if_neg (by omega),Int.toNat_natCast,Int.toNat_natCast]
   obtain⟨v,hv⟩:∃ v,A.gl i=v:=⟨_,rfl⟩
   rw [hv] at g0 g1 HF e0
   have HFU:=zC (fun W (hk:Kz wb W)=>full18 k (D.out.r hk) hkm)
   have hql:=fun W=>eql_no v W
   have HQV:=zC (zE (w:=wb) (o:=.cells #[.int .i64 v.s,.int .u32 v.g] 51))
   have KV:=zC ((zA.refl (fun _=>False) wb).alloc (.cells #[.int .i64 v.s,.int .u32 v.g] 51))
   have HKM:=zC hkm
   have HE0:=zC e0
   obtain⟨R,hR⟩:∃ R,A.getR k i=R:=⟨_,rfl⟩
   rw [hR] at HE0 ⊢
   clear h hwb hE hm rf hv e0 HE hkm hR
   rcases hz:v.nz with _ | _
   ·have HR:=zC (show R=⟨A,.no,.no,5⟩ by rw [HE0.out,if_pos hz])
    rw [hz] at hql
    clear hz
    simp only [Rf.val]
    go_in
    go_upto_region 1 with (fail)
    rw [HW.out]
    go_wp2_with fail
    refine zP HMU.out ?_
    go_wp2_with fail
    refine bodyPost_ret_by (v:=.tuple #[.agg #[.int .i64 0,.int .u32 0],.int .i64 5]) (by simp [results,Tryz.results52,go_sem, *]) rfl ⟨by rw [HR.out];rfl,by rw [HR.out];exact (D.out.fin (zA.refl _ _) _ _).then' ((zA.refl _ _).alloc _)⟩
   ·by_cases h3:32≤(A.rt k).n
    ·have HR:=zC (show R=⟨A,.no,.no,4⟩ by rw [HE0.out,if_neg (by rw [hz];simp),pushR_full h3])
     have HFX:=zC (HFU.out _ KV.out)
     rw [show decide (32≤(A.rt k).n)=true from by simpa using h3] at HFX
     rw [hz] at hql
     clear hz h3
     simp only [Rf.val]
     go_in
     go_upto_region 1 with (fail)
     rw [HW.out]
     go_wp2_with fail
     refine zP HMU.out ?_
     go_wp2_with fail
     refine zP HFX.out ?_
     go_wp2_with fail
     refine bodyPost_ret_by (v:=.tuple #[.agg #[.int .i64 0,.int .u32 0],.int .i64 4]) (by simp [results,Tryz.results52,go_sem, *]) rfl ⟨by rw [HR.out];rfl,by rw [HR.out];exact (D.out.fin (zA.refl _ _) _ _).then' ((zA.refl _ _).alloc _)⟩
    ·have HR:=zC (show R=⟨A.setRt k ((A.rt k).push v),.no,v,0⟩ by rw [HE0.out,if_neg (by rw [hz];simp),pushR_room h3])
     have HFX:=zC (HFU.out _ KV.out)
     rw [show decide (32≤(A.rt k).n)=false from by simpa using h3] at HFX
     have HGV:=zC (D.out.give KV.out k v HKM.out h3 (HF.out.ok hz) _ HQV.out)
     rw [hz] at hql
     clear hz h3
     simp only [Rf.val]
     go_in
     go_upto_region 1 with (fail)
     rw [HW.out]
     go_wp2_with fail
     refine zP HMU.out ?_
     go_wp2_with fail
     refine zP HFX.out ?_
     go_wp2_with fail
     refine HGV.out.mono ?_
     rintro e w3 ⟨rfl,q3,qb3,hu3⟩
     have HU:=zC hu3
     clear hu3 r0 r1 rf0 rf1 rl g0 g1 hql
     obtain⟨r0,r1,rf,rl⟩:=zK q3
     have rf0:=rf 0;have rf1:=rf 1
     obtain⟨v0,v1,_,vl⟩:=zK qb3
     clear rf q3 qb3
     go_wp2_with fail
     refine bodyPost_ret_by (v:=.tuple #[.agg #[.int .i64 v.s,.int .u32 v.g],.int .i64 0]) (by simp [results,Tryz.results52,go_sem, *]) rfl ⟨by rw [HR.out],by rw [HR.out];exact HU.out _ _⟩
structure Hd2 (w wb:World) (x:Nat) (L:L18) (A:Ar):Prop where
 h:R18 w x L A
 k:Kz w wb
 q:wb.heap[w.heap.size]?=some (.cells #[.int .i64 0,.int .u32 0] 51)
 p:wb.heap[w.heap.size+1]?=some (.cells #[.int .i64 0,.int .u32 0] 51)
 sz:wb.heap.size=w.heap.size+1+1
theorem Hd2.mk0 (h:R18 w x L A):Hd2 w ((w.alloc (.cells #[.int .i64 0,.int .u32 0] 51)).alloc (.cells #[.int .i64 0,.int .u32 0] 51)) x L A:=
 ⟨h,((zA.refl _ _).alloc _).alloc _,zG zE,zN (by simp),by simp⟩
theorem Hd2.r {wb W:World} (d:Hd2 w wb x L A) (hk:Kz wb W):R18 W x L A:=d.h.k0 (d.k.trans hk)
theorem Hd2.ne {wb:World} (d:Hd2 w wb x L A):(w.heap.size≠x∧w.heap.size≠L.hb)∧(w.heap.size+1≠x∧w.heap.size+1≠L.hb):=by
 have h1:=d.h.lt.1;have h2:=d.h.heap.lt.1
 exact⟨⟨by omega,by omega⟩,by omega,by omega⟩
theorem Up18.fin2 {W wb:World} (h:Up18 x N L A' w W) (d:Hd2 w wb x L A) (hm:A'.many=A.many) (hN:w.heap.size+1<N) (hq:∃ cs,W.heap[w.heap.size]?=some (.cells cs 51)) (hp:∃ cs,W.heap[w.heap.size+1]?=some (.cells cs 51)) (u v s t:Value):
 Up18 x w.heap.size L A' w ((((W.setCell ⟨w.heap.size,0,none⟩ u).setCell ⟨w.heap.size,1,none⟩ v).setCell ⟨w.heap.size+1,0,none⟩ s).setCell ⟨w.heap.size+1,1,none⟩ t):=by
 obtain⟨cq,hq⟩:=hq
 obtain⟨cp,hp⟩:=hp
 have h1:=h.fin d.h hm (Nat.le_refl _) (by omega) hq u v
 have hp2:((W.setCell ⟨w.heap.size,0,none⟩ u).setCell ⟨w.heap.size,1,none⟩ v).heap[w.heap.size+1]?=some (.cells cp 51):=zB hp (keeps_two _ _ _ _) (by omega)
 exact (h1.fin d.h hm (by omega) hN hp2 s t).lower (by omega)
theorem Hd2.fin {wb W:World} (d:Hd2 w wb x L A) (hk:Kz wb W) (u v s t:Value):Up18 x w.heap.size L A w ((((W.setCell ⟨w.heap.size,0,none⟩ u).setCell ⟨w.heap.size,1,none⟩ v).setCell ⟨w.heap.size+1,0,none⟩ s).setCell ⟨w.heap.size+1,1,none⟩ t):=
 (Up18.stay (N:=w.heap.size+2) d.h (d.k.trans hk)).fin2 d rfl (by omega) ⟨_,zB d.q hk (fun h=>h)⟩ ⟨_,zB d.p hk (fun h=>h)⟩ u v s t
theorem R18.setG (h:R18 w x L A) {k:Nat} (hk:k<8) (v:Rf) (hok:({ A with gl:=zU A.gl k v }:Ar).Ok):Up18 x N L { A with gl:=zU A.gl k v } w ((w.setCell ⟨x,4+k * 2,none⟩ (.int .i64 v.s)).setCell ⟨x,4+k * 2+1,none⟩ (.int .u32 v.g)):=by
 obtain⟨c,cap,h1,h2,h3,h4,h5,h6,h7,h8⟩:=h.own
 obtain⟨cr,r1,r2⟩:=h.row
 obtain⟨_,_,_,a1⟩:=h.heap.own
 obtain⟨_,a2,_⟩:=h.heap.row
 obtain⟨W,hW⟩:∃ W,(w.setCell ⟨x,4+k * 2,none⟩ (.int .i64 v.s)).setCell ⟨x,4+k * 2+1,none⟩ (.int .u32 v.g)=W:=⟨_,rfl⟩
 have kW:zA (fun y=>y=x) w W:=by
  rw [← hW]
  exact zA.setCell (S:=fun y=>y=x) (p:=⟨x,4+k * 2+1,none⟩) (zA.setCell (S:=fun y=>y=x) (p:=⟨x,4+k * 2,none⟩) (zA.refl _ _) (.inl rfl) _) (.inl rfl) _
 have q:W.heap[x]?=some (.cells ((c.setIfInBounds (4+k * 2) (.int .i64 v.s)).setIfInBounds (4+k * 2+1) (.int .u32 v.g)) 123):=by rw [← hW];exact zH (zH h1 _ _) _ _
 rw [hW]
 have g:∀ i,i<4→((c.setIfInBounds (4+k * 2) (.int .i64 v.s)).setIfInBounds (4+k * 2+1) (.int .u32 v.g))[i]?=c[i]?:=fun i hi=>by
  rw [Array.getElem?_setIfInBounds_ne (by omega),Array.getElem?_setIfInBounds_ne (by omega)]
 refine⟨kW.mono (fun _ _ h=>.inl h),L,rfl,⟨⟨_,cap,q,by simpa using h2,by rw [g 0 (by omega)];exact h3,by rw [g 1 (by omega)];exact h4,by rw [g 2 (by omega)];exact h5,by rw [g 3 (by omega)];exact h6,h7.set k hk (by omega) v,h8⟩,h.heap.keeps kW (zM a1 h1 (by decide)) (zM a2 h1 (by decide)),⟨cr,zB r1 kW (zM r1 h1 (by decide)),r2⟩,fun m hm=>(h.st m hm).keeps kW (fun y hy e=>?_),hok⟩,fun m y hm hy=>.inl ⟨m,hm,hy⟩⟩
 rcases (h.st m hm).r with⟨e',_⟩ | ⟨g,cap,cur,e',hg,_⟩
 ·rw [e'] at hy;cases hy
 ·rw [e'] at hy
  obtain rfl:g=y:=Option.some.inj hy
  exact zM hg h1 (by decide) e
theorem put18 (m i j:Int) (h:R18 w x L A):
 Calls Tryz.prog 51 #[.pointer (some ⟨x,0,none⟩),.int .i64 m,.int .i64 i,.int .i64 j] w
  fun e w'=>e = .returned (.tuple #[(A.putR m i j).was.val,(A.putR m i j).now.val,.int .i64 (A.putR m i j).e])∧Up18 x w.heap.size L (A.putR m i j).A w w':=by
 obtain⟨wb,hwb⟩:∃ wb,(w.alloc (.cells #[.int .i64 0,.int .u32 0] 51)).alloc (.cells #[.int .i64 0,.int .u32 0] 51)=wb:=⟨_,rfl⟩
 have D:=zC (show Hd2 w wb x L A from by rw [← hwb];exact Hd2.mk0 h)
 have HVA:=zC (value18 m i (D.out.r (zA.refl _ _)))
 have HW:=zC hwb
 have HE:=zC (show A.putR m i j=if (A.valueR m i).2≠0 then ⟨A,.no,.no,(A.valueR m i).2⟩ else if j<0∨8≤j then ⟨A,.no,.no,3⟩ else ⟨{ A with gl:=zU A.gl j.toNat (A.valueR m i).1 },A.gl j.toNat,(A.valueR m i).1,0⟩ from rfl)
 have HOK:=zC (h.ok.putR m i j)
 obtain⟨⟨v,ve⟩,hv⟩:∃ v,A.valueR m i=v:=⟨_,rfl⟩
 rw [hv] at HVA HE
 dsimp only at HVA HE
 obtain⟨R,hR⟩:∃ R,A.putR m i j=R:=⟨_,rfl⟩
 rw [hR] at HE HOK ⊢
 have hcase:ve≠0∨(ve=0∧j<0)∨(ve=0∧0≤j∧8≤j)∨(ve=0∧0≤j∧j<8):=by omega
 have HSZ:=zC D.out.sz
 clear h hwb hv hR
 simp only [Rf.val] at HVA ⊢
 go_in
 go_upto_region 1 with (fail)
 rw [HW.out]
 go_wp2_with fail
 refine zQ HVA.out fun w1 k1=>?_
 have K1:=zC k1
 have KV:=zC (k1.alloc (.cells #[.int .i64 v.s,.int .u32 v.g] 51))
 have QV:=zC (zE (w:=w1) (o:=.cells #[.int .i64 v.s,.int .u32 v.g] 51))
 obtain⟨q0,q1,qf,ql⟩:=zK (zB D.out.q k1 (fun h=>h))
 obtain⟨p0,p1,pf,pl⟩:=zK (zB D.out.p k1 (fun h=>h))
 have qf0:=qf 0;have qf1:=qf 1;have pf0:=pf 0;have pf1:=pf 1
 have HFI:=zC (fun a b c d=>(D.out.fin K1.out a b c d).then' ((zA.refl _ _).alloc (.cells #[.int .i64 v.s,.int .u32 v.g] 51)))
 clear k1 qf pf
 rcases hcase with h1 | ⟨rfl,h1⟩ | ⟨rfl,h1,h2⟩ | ⟨rfl,h1,h2⟩
 ·have hne:(ve != 0)=true:=by simpa using h1
  have HR:=zC (show R=⟨A,.no,.no,ve⟩ by rw [HE.out,if_pos h1])
  clear h1
  go_wp2_with fail
  refine bodyPost_ret_by (v:=.tuple #[.agg #[.int .i64 0,.int .u32 0],.agg #[.int .i64 0,.int .u32 0],.int .i64 ve]) (by simp [results,Tryz.results51,go_sem, *]) rfl ⟨by rw [HR.out];rfl,by rw [HR.out];exact HFI.out _ _ _ _⟩
 ·have HR:=zC (show R=⟨A,.no,.no,3⟩ by rw [HE.out,if_neg (by simp),if_pos (.inl h1)])
  go_wp2_with fail
  refine bodyPost_ret_by (v:=.tuple #[.agg #[.int .i64 0,.int .u32 0],.agg #[.int .i64 0,.int .u32 0],.int .i64 3]) (by simp [results,Tryz.results51,go_sem, *]) rfl ⟨by rw [HR.out];rfl,by rw [HR.out];exact HFI.out _ _ _ _⟩
 ·have HR:=zC (show R=⟨A,.no,.no,3⟩ by rw [HE.out,if_neg (by simp),if_pos (.inr h2)])
  go_wp2_with fail
  refine bodyPost_ret_by (v:=.tuple #[.agg #[.int .i64 0,.int .u32 0],.agg #[.int .i64 0,.int .u32 0],.int .i64 3]) (by simp [results,Tryz.results51,go_sem, *]) rfl ⟨by rw [HR.out];rfl,by rw [HR.out];exact HFI.out _ _ _ _⟩
 ·obtain⟨k,rfl⟩:∃ k:Nat,j=k:=⟨j.toNat,by omega⟩
  have hk8:k<8:=by omega
  have HR:=zC (show R=⟨{ A with gl:=zU A.gl k v },A.gl k,v,0⟩ by rw [HE.out,if_neg (by simp),if_neg (by omega),Int.toNat_natCast])
  rw [HR.out] at HOK
  dsimp only at HOK
  obtain⟨g0,g1⟩:=(D.out.r K1.out).gl hk8
  obtain⟨u,hu⟩:∃ u,A.gl k=u:=⟨_,rfl⟩
  rw [hu] at g0 g1 HR
  have hlx:=(D.out.r K1.out).lt.1
  obtain⟨wc,hwc⟩:∃ wc,(w1.alloc (.cells #[.int .i64 v.s,.int .u32 v.g] 51)).alloc (.cells #[.int .i64 u.s,.int .u32 u.g] 51)=wc:=⟨_,rfl⟩
  have KC:=zC (show Kz wb wc from by rw [← hwc];exact KV.out.alloc _)
  have QC:=zC (show wc.heap[w1.heap.size]?=some (.cells #[.int .i64 v.s,.int .u32 v.g] 51) from by rw [← hwc];exact zG QV.out)
  have QU:=zC (show wc.heap[w1.heap.size+1]?=some (.cells #[.int .i64 u.s,.int .u32 u.g] 51) from by rw [← hwc];exact zN (by simp))
  have HWC:=zC hwc
  clear hu hwc
  go_upto_region 7 with (fail)
  rw [HWC.out]
  clear g0 g1 q0 q1 ql p0 p1 pl qf0 qf1 pf0 pf1 hlx
  obtain⟨v0,v1,_,vl⟩:=zK QC.out
  have hRc:=D.out.r KC.out
  obtain⟨g0,g1⟩:=hRc.gl hk8
  obtain⟨cx,capx,x1,_⟩:=hRc.own
  have xf0:=zL x1 (4+k * 2);have xf1:=zL x1 (4+k * 2+1)
  have xl:=zF x1
  have HUP:=zC (fun (W:World) (hk:Kz wc W)=>(R18.setG (N:=w.heap.size+2) (hRc.k0 hk) hk8 v HOK.out))
  obtain⟨a1,a2⟩:=D.out.ne
  have HXT:=zC x1
  clear x1 hRc
  go_still_tail 6,(by kernel_rfl)
  change wpList _ _ _ _ _ (World.drew _)
  go_upto_region 8 with (fail)
  have hu9:=HUP.out wc.drew ((zA.refl _ _).drew)
  obtain⟨wd,hwd⟩:∃ wd,((wc.setCell ⟨x,4+k * 2,none⟩ (.int .i64 v.s)).setCell ⟨x,4+k * 2+1,none⟩ (.int .u32 v.g)).drew=wd:=⟨_,rfl⟩
  have hux:Up18 x (w.heap.size+2) L { A with gl:=zU A.gl k v } wc.drew wd:=by rw [← hwd];exact hu9
  rw [hwd]
  have kd:zA (fun y=>y=x∨y=L.hb) wc wd:=(zA.refl (fun y=>y=x∨y=L.hb) wc).drew.trans hux.1
  have HUX:=zC (hux.from' ((D.out.k.trans KC.out).up.trans (zA.refl _ _).drew))
  have hb0:w1.heap.size≠L.hb:=by
   have:=(D.out.r K1.out).heap.lt.1;omega
  have hx0:w1.heap.size≠x:=by
   have:=(D.out.r K1.out).lt.1;omega
  have QD:=zC (zB QC.out kd (fun h=>h.elim hx0 hb0))
  have QE:=zC (zB QU.out kd (fun h=>h.elim (by have:=(D.out.r K1.out).lt.1;omega) (by have:=(D.out.r K1.out).heap.lt.1;omega)))
  have Q0:=zC (zB (zB D.out.q KC.out (fun h=>h)) kd (fun h=>h.elim a1.1 a1.2))
  have P0:=zC (zB (zB D.out.p KC.out (fun h=>h)) kd (fun h=>h.elim a2.1 a2.2))
  clear hwd hux hu9 kd v0 v1 vl g0 g1 xf0 xf1 xl a1 a2 hb0 hx0
  obtain⟨v0,v1,_,vl⟩:=zK QD.out
  obtain⟨u0,u1,_,ul⟩:=zK QE.out
  obtain⟨q0,q1,qf,ql⟩:=zK Q0.out
  obtain⟨p0,p1,pf,pl⟩:=zK P0.out
  have qf0:=qf 0;have qf1:=qf 1;have pf0:=pf 0;have pf1:=pf 1
  have hlt1:w.heap.size+1<w1.heap.size:=by
   have:=zF (zB D.out.p K1.out (fun h=>h));omega
  have hlt0:w.heap.size<w1.heap.size:=by omega
  have HFN:=zC (fun a b c d=>(HUX.out.fin2 D.out rfl (by omega) ⟨_,Q0.out⟩ ⟨_,P0.out⟩ a b c d).then' ((zA.refl _ _).drew))
  clear qf pf
  go_region
  go_wp2_with fail
  refine bodyPost_ret_by (v:=.tuple #[.agg #[.int .i64 u.s,.int .u32 u.g],.agg #[.int .i64 v.s,.int .u32 v.g],.int .i64 0]) (by simp [results,Tryz.results51,go_sem, *]) rfl ⟨by rw [HR.out],by rw [HR.out];exact HFN.out _ _ _ _⟩
end
section
variable {w w':World} {x N:Nat} {L:L18} {A A':Ar}
theorem store18 (m i f j:Int) (h:R18 w x L A):
 Calls Tryz.prog 48 #[.pointer (some ⟨x,0,none⟩),.int .i64 m,.int .i64 i,.int .i64 f,.int .i64 j] w
  fun e w'=>e = .returned (.tuple #[(A.storeR m i f j).was.val,(A.storeR m i f j).now.val,.int .i64 (A.storeR m i f j).e])∧Up18 x w.heap.size L (A.storeR m i f j).A w w':=by
 obtain⟨wb,hwb⟩:∃ wb,(w.alloc (.cells #[.int .i64 0,.int .u32 0] 51)).alloc (.cells #[.int .i64 0,.int .u32 0] 51)=wb:=⟨_,rfl⟩
 have D:=zC (show Hd2 w wb x L A from by rw [← hwb];exact Hd2.mk0 h)
 have HRO:=zC (root18 m i (D.out.r (zA.refl _ _)))
 have HVA:=zC (fun W (hk:Kz wb W)=>value18 m j (D.out.r hk))
 have HW:=zC hwb
 have HE:=zC (show A.storeR m i f j=if (A.rootR m i).2≠0 then ⟨A,.no,.no,(A.rootR m i).2⟩ else if (A.valueR m j).2≠0 then ⟨A,.no,.no,(A.valueR m j).2⟩ else
  if (A.H.storeR (A.rootR m i).1 f (A.valueR m j).1).2.2≠0 then ⟨A,.no,.no,(A.H.storeR (A.rootR m i).1 f (A.valueR m j).1).2.2⟩ else
  ⟨{ A with H:=(A.H.storeR (A.rootR m i).1 f (A.valueR m j).1).1 },(A.H.storeR (A.rootR m i).1 f (A.valueR m j).1).2.1,(A.valueR m j).1,0⟩ from rfl)
 have HOK:=zC (h.ok.storeR m i f j)
 have hvf:=h.ok.value m j
 have HT:=zC (Hp.storeR_T A.H (A.rootR m i).1 f (A.valueR m j).1)
 have HST:=zC (fun W (hk:Kz wb W)=>store14 (A.rootR m i).1 f (A.valueR m j).1 (D.out.r hk).heap hvf.bad hvf.wf)
 obtain⟨⟨r,re⟩,hr⟩:∃ r,A.rootR m i=r:=⟨_,rfl⟩
 obtain⟨⟨v,ve⟩,hv⟩:∃ v,A.valueR m j=v:=⟨_,rfl⟩
 rw [hr,hv] at HE HT HST
 rw [hr] at HRO
 rw [hv] at HVA
 dsimp only at HE HT HST HRO HVA
 obtain⟨⟨H',u,se⟩,hs⟩:∃ s,A.H.storeR r f v=s:=⟨_,rfl⟩
 rw [hs] at HE HT HST
 dsimp only at HE HT HST
 obtain⟨R,hR⟩:∃ R,A.storeR m i f j=R:=⟨_,rfl⟩
 rw [hR] at HE HOK ⊢
 have hsz:=D.out.sz
 have herr:=Hp.storeR_err (H:=A.H) (r:=r) (i:=f) (v:=v)
 rw [hs] at herr
 have HERR:=zC herr
 have hcase:re≠0∨(re=0∧ve≠0)∨(re=0∧ve=0):=by omega
 clear h hwb hr hv hs hR hvf herr
 simp only [Rf.val] at HRO HVA HST ⊢
 rcases hcase with h1 | ⟨rfl,h1⟩ | ⟨rfl,rfl⟩
 ·have hne:(re != 0)=true:=by simpa using h1
  have HR:=zC (show R=⟨A,.no,.no,re⟩ by rw [HE.out,if_pos h1])
  clear h1
  go_in
  go_upto_region 1 with (fail)
  rw [HW.out]
  go_wp2_with fail
  refine zQ HRO.out fun w1 k1=>?_
  have K1:=zC k1
  obtain⟨q0,q1,qf,ql⟩:=zK (zB D.out.q k1 (fun h=>h))
  obtain⟨p0,p1,pf,pl⟩:=zK (zB D.out.p k1 (fun h=>h))
  have qf0:=qf 0;have qf1:=qf 1;have pf0:=pf 0;have pf1:=pf 1
  have HFI:=zC (fun a b c d=>(D.out.fin K1.out a b c d).then' ((zA.refl _ _).alloc (.cells #[.int .i64 r.s,.int .u32 r.g] 51)))
  clear k1 qf pf
  go_wp2_with fail
  refine bodyPost_ret_by (v:=.tuple #[.agg #[.int .i64 0,.int .u32 0],.agg #[.int .i64 0,.int .u32 0],.int .i64 re]) (by simp [results,Tryz.results48,go_sem, *]) rfl ⟨by rw [HR.out];rfl,by rw [HR.out];exact HFI.out _ _ _ _⟩
 ·have hne:(ve != 0)=true:=by simpa using h1
  have HR:=zC (show R=⟨A,.no,.no,ve⟩ by rw [HE.out,if_neg (by simp),if_pos h1])
  clear h1
  go_in
  go_upto_region 1 with (fail)
  rw [HW.out]
  go_wp2_with fail
  refine zQ HRO.out fun w1 k1=>?_
  have K1:=zC k1
  clear k1
  go_wp2_with fail
  refine zQ (HVA.out _ (K1.out.alloc _)) fun w2 k2=>?_
  have K2:=zC ((K1.out.alloc _).trans k2)
  obtain⟨q0,q1,qf,ql⟩:=zK (zB D.out.q K2.out (fun h=>h))
  obtain⟨p0,p1,pf,pl⟩:=zK (zB D.out.p K2.out (fun h=>h))
  have qf0:=qf 0;have qf1:=qf 1;have pf0:=pf 0;have pf1:=pf 1
  have HFI:=zC (fun a b c d=>(D.out.fin K2.out a b c d).then' ((zA.refl _ _).alloc (.cells #[.int .i64 v.s,.int .u32 v.g] 51)))
  clear k2 qf pf
  go_wp2_with fail
  refine bodyPost_ret_by (v:=.tuple #[.agg #[.int .i64 0,.int .u32 0],.agg #[.int .i64 0,.int .u32 0],.int .i64 ve]) (by simp [results,Tryz.results48,go_sem, *]) rfl ⟨by rw [HR.out];rfl,by rw [HR.out];exact HFI.out _ _ _ _⟩
 ·have HE2:=zC (show R=if se≠0 then ⟨A,.no,.no,se⟩ else ⟨{ A with H:=H' },u,v,0⟩ by rw [HE.out,if_neg (by simp),if_neg (by simp)])
  clear HE
  go_in
  go_upto_region 1 with (fail)
  rw [HW.out]
  go_wp2_with fail
  refine zQ HRO.out fun w1 k1=>?_
  have K1:=zC k1
  clear k1
  go_wp2_with fail
  refine zQ (HVA.out _ (K1.out.alloc _)) fun w2 k2=>?_
  have K2:=zC ((K1.out.alloc _).trans k2)
  have Q1:=zC (zB (zE (w:=w1)) k2 (fun h=>h))
  have hl12:=k2.size
  simp only [World.size_alloc] at hl12
  clear k2
  go_upto_region 7 with (fail)
  obtain⟨wd,hwc⟩:∃ wd,w2.alloc (.cells #[.int .i64 v.s,.int .u32 v.g] 51)=wd:=⟨_,rfl⟩
  have KC:=zC (show Kz wb wd from by rw [← hwc];exact K2.out.alloc _)
  have QR:=zC (show wd.heap[w1.heap.size]?=some (.cells #[.int .i64 r.s,.int .u32 r.g] 51) from by rw [← hwc];exact zG Q1.out)
  have QV:=zC (show wd.heap[w2.heap.size]?=some (.cells #[.int .i64 v.s,.int .u32 v.g] 51) from by rw [← hwc];exact zE)
  rw [hwc]
  clear hwc Q1
  have hk1s:=K1.out.size
  have hszc:=zF QV.out
  have hbl:=(D.out.r (zA.refl _ _)).heap.lt.1
  have hxl:=(D.out.r (zA.refl _ _)).lt.1
  have hrl:=(D.out.r (zA.refl _ _)).heap.lt.2
  have HPS:=zC (fun W (hk:zA (fun y=>y=L.hb∨wd.heap.size≤y) wd W)=>show W.cell? ⟨x,2,none⟩=some (.pointer (some ⟨L.hb,0,none⟩))∧W.cell? ⟨w1.heap.size,0,none⟩=some (.int .i64 r.s)∧W.cell? ⟨w1.heap.size,1,none⟩=some (.int .u32 r.g)∧W.cell? ⟨w2.heap.size,0,none⟩=some (.int .i64 v.s)∧W.cell? ⟨w2.heap.size,1,none⟩=some (.int .u32 v.g) from by
   obtain⟨cx,capx,x1,_,_,_,x2,_⟩:=(D.out.r KC.out).own
   obtain⟨_,_,_,a1⟩:=(D.out.r KC.out).heap.own
   have qx:=zB x1 hk (fun h=>h.elim (fun e=>zM x1 a1 (by decide) e) (fun e=>by have:=zF x1;omega))
   have qr:=zB QR.out hk (fun h=>h.elim (fun e=>by omega) (fun e=>by have:=zF QR.out;omega))
   have qv:=zB QV.out hk (fun h=>h.elim (fun e=>by omega) (fun e=>by have:=zF QV.out;omega))
   exact⟨zD qx x2,zD qr rfl,zD qr rfl,zD qv rfl,zD qv rfl⟩)
  obtain⟨c2,b0,b1,d0,d1⟩:=HPS.out wd (zA.refl _ _)
  go_cut [17,18] (fun s17 s18 wx=>∃ B r',s17 = .pointer (some ⟨B,0,none⟩)∧s18 = .int .i64 se∧wx.heap[B]?=some (.cells #[.int .i64 u.s,.int .u32 u.g] 51)∧wd.heap.size≤B∧zA (fun y=>y=L.hb) wd wx∧R14 wx L.hb r' H')
  case first=>
   go_region_held3 (fun W=>W.cell? ⟨x,2,none⟩=some (.pointer (some ⟨L.hb,0,none⟩))∧W.cell? ⟨w1.heap.size,0,none⟩=some (.int .i64 r.s)∧W.cell? ⟨w1.heap.size,1,none⟩=some (.int .u32 r.g)∧W.cell? ⟨w2.heap.size,0,none⟩=some (.int .i64 v.s)∧W.cell? ⟨w2.heap.size,1,none⟩=some (.int .u32 v.g))
    ((refine HPS.out _ ?_;(with_reducible repeat first | exact zA.refl _ _ | refine zA.alloc ?_ _ | refine zA.drew ?_ | refine zA.setCell ?_ (.inr (Nat.le_refl _)) _ | refine zA.trans ?_ (by with_reducible assumption))))
    (first | (go_at_call 123;refine (HST.out _ (KC.out.trans zA.r)).mono ?_;rintro e w3 ⟨rfl,k3,r',hr',h3⟩;have hk3:zA (fun y=>y=L.hb∨wd.heap.size≤y) wd w3:=zA.trans zA.r (k3.mono (fun y _ h=>Or.inl h));(first | (have nb:=zB (show (World.drew (wd.alloc (.cells #[.int .i64 0,.int .u32 0] 51))).heap[wd.heap.size]?=_ from zE) k3 (by omega);have nx:=zK nb;obtain⟨n0,n1,nf,nl⟩:=nx;have nf0:=nf 0;have nf1:=nf 1) | skip)))
   all_goals
    go_wp2_with fail
    go_meet
    first
     | exact⟨w3.heap.size,r',rfl,rfl,zE,hk3.size,(by first | exact (zA.alloc (zA.trans zA.r k3) _)),h3.keeps (S:=fun _=>False) ((zA.refl _ _).alloc _) (fun h=>h) (fun h=>h)⟩
     | (refine⟨wd.heap.size,r',rfl,rfl,fin2 nb,Nat.le_refl _,?_,h3.keeps (keeps_two _ _ _ _) (by omega) ?_⟩
        ·exact zA.mono (((zA.refl (fun y=>y=L.hb∨wd.heap.size≤y) wd).alloc _).drew.trans' (k3.trans' (keeps_two _ _ _ _) (U:=fun y=>y=L.hb∨wd.heap.size≤y) (fun _ _ h=>.inl h) (fun _ _ h=>.inr (by omega))) (fun _ _ h=>h) (fun _ _ h=>h)) (fun y hy h=>h.elim id (fun e=>by omega))
        ·rcases hr' with rfl | hr'
         ·omega
         ·simp only [World.size_drew,World.size_alloc] at hr';omega)
  case rest=>
  obtain⟨B,r',rfl,rfl,hB,lB,kx,h14⟩:=hcut
  have hup:Up18 x (w.heap.size+2) L { A with H:=H' } w wc:=⟨(D.out.k.trans KC.out).up.trans (kx.mono (fun _ _ h=>.inr h)),{ L with hr:=r' },rfl,(D.out.r KC.out).setH kx h14 (by rw [HT.out]) (D.out.h.ok.setHok (by show H'.T.n=_;rw [HT.out]) h14.gn h14.good),fun m k hm hk=>.inl ⟨m,hm,hk⟩⟩
  have HUP:=zC hup
  obtain⟨a1,a2⟩:=D.out.ne
  have Q0:=zC (zB (zB D.out.q KC.out (fun h=>h)) kx a1.2)
  have P0:=zC (zB (zB D.out.p KC.out (fun h=>h)) kx a2.2)
  have QV2:=zC (zB QV.out kx (by omega))
  have QB:=zC hB
  have HFN:=zC (fun a b c d=>HUP.out.fin2 D.out rfl (by omega) ⟨_,Q0.out⟩ ⟨_,P0.out⟩ a b c d)
  have n1:w.heap.size+1<B:=by omega
  have n2:w.heap.size<B:=by omega
  have n3:w.heap.size+1<w2.heap.size:=by omega
  have n4:w.heap.size<w2.heap.size:=by omega
  clear hup kx h14 hB c2 b0 b1 d0 d1 a1 a2 lB hk1s hszc hbl hxl hl12 hrl
  obtain⟨q0,q1,qf,ql⟩:=zK Q0.out
  obtain⟨p0,p1,pf,pl⟩:=zK P0.out
  obtain⟨v0,v1,_,vl⟩:=zK QV2.out
  obtain⟨u0,u1,_,ul⟩:=zK QB.out
  have qf0:=qf 0;have qf1:=qf 1;have pf0:=pf 0;have pf1:=pf 1
  clear qf pf
  by_cases h1:se=0
  ·subst h1
   have HR:=zC (show R=⟨{ A with H:=H' },u,v,0⟩ by rw [HE2.out,if_neg (by simp)])
   have HFD:=zC (fun a b c d=>(HFN.out a b c d).then' ((zA.refl _ _).drew))
   go_wp2_with fail
   go_region
   go_wp2_with fail
   refine bodyPost_ret_by (v:=.tuple #[.agg #[.int .i64 u.s,.int .u32 u.g],.agg #[.int .i64 v.s,.int .u32 v.g],.int .i64 0]) (by simp [results,Tryz.results48,go_sem, *]) rfl ⟨by rw [HR.out],by rw [HR.out];exact HFD.out _ _ _ _⟩
  ·have hne:(se != 0)=true:=by simpa using h1
   have HR:=zC (show R=⟨A,.no,.no,se⟩ by rw [HE2.out,if_pos h1])
   have HHH:=zC (show ({ A with H:=H' }:Ar)=A by rw [HERR.out h1])
   clear h1
   go_wp2_with fail
   refine bodyPost_ret_by (v:=.tuple #[.agg #[.int .i64 0,.int .u32 0],.agg #[.int .i64 0,.int .u32 0],.int .i64 se]) (by simp [results,Tryz.results48,go_sem, *]) rfl ⟨by rw [HR.out];rfl,by rw [HR.out];have:=HFN.out;rw [HHH.out] at this;exact this _ _ _ _⟩
end
theorem Sk.drop_l (S:Sk) {i:Nat} (hi:i<S.n):(S.drop i).l=S.l.take i ++ S.l.drop (i+1):=by
 unfold Sk.l Sk.drop
 apply List.ext_getElem
 ·simp;omega
 ·intro k h1 h2
  simp at h1
  by_cases hk:k<i
  ·rw [List.getElem_append_left (by simp;omega)]
   simp;omega
  ·rw [List.getElem_append_right (by simp;omega)]
   simp only [List.getElem_map,List.getElem_range,List.getElem_drop,List.length_take,List.length_map,List.length_range]
   rw [if_pos (by omega)]
   congr 1;omega
theorem refsO_take {w:World} {p:Option Addr} {n c i:Nat} {l:List Rf} (h:RefsC w (.slice p n c) l) (hn:l.length=n) (hi:i≤n):RefsO w (.slice p i c) (l.take i):=by
 rcases h.r with⟨e,rfl⟩ | ⟨g,cap,cur,e,hg,hc⟩
 ·cases e
  obtain rfl:i=0:=by omega
  exact .inl ⟨0,rfl,rfl⟩
 ·cases e
  have hl:(l.take i).length=i:=by rw [List.length_take];omega
  refine .inr ⟨g,0,c,cur,by rw [hl],hg,fun j r hj=>?_⟩
  rw [Nat.zero_add,Nat.zero_add]
  refine hc j r ?_
  rw [List.getElem?_take] at hj
  split at hj
  ·exact hj
  ·cases hj
theorem refsO_drop {w:World} {p:Option Addr} {n c i:Nat} {l:List Rf} (h:RefsC w (.slice p n c) l) (hn:l.length=n) (hi:i≤n) (h0:0<i):RefsO w (sliced p i n c 2) (l.drop i):=by
 have hc0:=h.le
 rcases h.r with⟨e,rfl⟩ | ⟨g,cap,cur,e,hg,hc⟩
 ·cases e;omega
 ·cases e
  have hl:(l.drop i).length=l.length - i:=by rw [List.length_drop]
  unfold sliced
  by_cases e:c=i
  ·rw [if_pos e]
   have:l.drop i=[]:=List.drop_eq_nil_of_le (by omega)
   rw [this]
   refine .inr ⟨g,0,c - i,cur,?_,hg,fun j r hj=>by cases hj⟩
   rw [show l.length - i=([]:List Rf).length by simp;omega]
  ·rw [if_neg e]
   refine .inr ⟨g,i * 2,c - i,cur,?_,hg,fun j r hj=>?_⟩
   ·rw [hl,Option.map_some,Addr.add_mid,Nat.zero_add]
   ·rw [List.getElem?_drop] at hj
    obtain⟨a,b⟩:=hc _ r hj
    exact⟨by rw [← a];congr 1;omega,by rw [← b];congr 1;omega⟩
section
variable {w w':World} {x N:Nat} {L:L18} {A A':Ar}
theorem drop18 (m i:Int) (h:R18 w x L A):
 Calls Tryz.prog 50 #[.pointer (some ⟨x,0,none⟩),.int .i64 m,.int .i64 i] w
  fun e w'=>e = .returned (.tuple #[(A.dropR m i).now.val,.int .i64 (A.dropR m i).e])∧Up18 x w.heap.size L (A.dropR m i).A w w':=by
 obtain⟨wb,hwb⟩:∃ wb,w.alloc (.cells #[.int .i64 0,.int .u32 0] 51)=wb:=⟨_,rfl⟩
 have D:=zC (show Hd18 w wb x L A from by rw [← hwb];exact Hd18.mk0 h)
 have HRO:=zC (root18 m i (D.out.r (zA.refl _ _)))
 have HW:=zC hwb
 have hE:A.dropR m i=if m<0∨(A.many:Int)≤m then ⟨A,.no,.no,3⟩ else if i<0∨((A.rt m.toNat).n:Int)≤i then ⟨A,.no,.no,3⟩ else ⟨A.setRt m.toNat ((A.rt m.toNat).drop i.toNat),.no,(A.rt m.toNat).f i.toNat,0⟩:=rfl
 have hE2:A.rootR m i=if m<0∨(A.many:Int)≤m then (.no,3) else if i<0∨((A.rt m.toNat).n:Int)≤i then (.no,3) else ((A.rt m.toNat).f i.toNat,0):=rfl
 have HOK:=zC (h.ok.dropR m i)
 by_cases hb:(m<0∨(A.many:Int)≤m)∨(i<0∨((A.rt m.toNat).n:Int)≤i)
 ·have HR:=zC (show A.dropR m i=⟨A,.no,.no,3⟩ by
   rw [hE]
   by_cases h1:m<0∨(A.many:Int)≤m
   ·rw [if_pos h1]
   ·rw [if_neg h1,if_pos (by omega)])
  rw [show A.rootR m i=(.no,3) by
   rw [hE2]
   by_cases h1:m<0∨(A.many:Int)≤m
   ·rw [if_pos h1]
   ·rw [if_neg h1,if_pos (by omega)]] at HRO
  rw [HR.out]
  clear h hwb hE hE2 hb HOK
  simp only [Rf.val,Rf.no] at HRO ⊢
  go_in
  go_upto_region 1 with (fail)
  rw [HW.out]
  go_wp2_with fail
  refine zQ HRO.out fun w1 k1=>?_
  have K1:=zC k1
  obtain⟨q0,q1,qf,ql⟩:=zK (zB D.out.q k1 (fun h=>h))
  have qf0:=qf 0;have qf1:=qf 1
  have HFI:=zC (fun a b=>(D.out.fin K1.out a b).then' ((zA.refl _ _).alloc (.cells #[.int .i64 0,.int .u32 0] 51)))
  clear k1 qf
  go_wp2_with fail
  refine bodyPost_ret_by (v:=.tuple #[.agg #[.int .i64 0,.int .u32 0],.int .i64 3]) (by simp [results,Tryz.results50,go_sem, *]) rfl ⟨rfl,HFI.out _ _⟩
 ·obtain⟨k,rfl⟩:∃ k:Nat,m=k:=⟨m.toNat,by omega⟩
  rw [Int.toNat_natCast] at hb hE hE2
  obtain⟨j,rfl⟩:∃ j:Nat,i=j:=⟨i.toNat,by omega⟩
  rw [Int.toNat_natCast] at hE hE2
  have hkm:k<A.many:=by omega
  have hjn:j<(A.rt k).n:=by omega
  rw [if_neg (by omega),if_neg (by omega)] at hE hE2
  have HR:=zC hE
  rw [hE] at HOK
  rw [hE2] at HRO
  rw [HR.out]
  dsimp only at HOK HRO ⊢
  have hdl:=Sk.drop_l (A.rt k) hjn
  obtain⟨p,c,e,h32⟩:=h.sl hkm
  have hstw:=h.st k hkm
  have hst:=fun W (hk:Kz w W)=>hstw.keeps hk (fun _ _ h=>h)
  rw [e] at hst
  have hsc:=fun W (hk:Kz w W)=>(h.k0 hk).sc hkm
  rw [e] at hsc
  have hc3:=fun W (hk:Kz w W)=>(h.k0 hk).c3
  obtain⟨cap,m1,m2,c3⟩:=h.c3
  have hsx:=fun W (hk:Kz w W)=>show W.cell? ⟨x,3,none⟩=some (.slice (some ⟨L.sr,0,none⟩) A.many cap) from by rw [World.cell?_of_block (hk.block x h.lt.1 (fun h=>h))];exact c3
  have hll:(A.rt k).l.length=(A.rt k).n:=rt_len A k
  have hcap:=(hst w (zA.refl _ _)).le
  have HT:=zC (fun W (hk:Kz w W)=>refsO_take (i:=j) (hst W hk) hll (by omega))
  have HD:=zC (fun W (hk:Kz w W)=>refsO_drop (i:=j+1) (hst W hk) hll (by omega) (by omega))
  have HSET:=zC (fun W v N (hk:Kz w W) (hv:RefsC W v ((A.rt k).drop j).l) (hvb:∀ k,v.ownBlock=some k→N≤k)=>set18 k N v ((A.rt k).drop j) (h.k0 hk) hkm hv hvb HOK.out)
  rw [hdl] at HSET
  have HX:=zC (And.intro h.lt.1 (And.intro h.lt.2 h.heap.lt.1))
  have HUP:=zC h
  have HMY:=zC (show (A.setRt k ((A.rt k).drop j)).many=A.many from rfl)
  obtain⟨r,hr⟩:∃ r,(A.rt k).f j=r:=⟨_,rfl⟩
  obtain⟨T,hT⟩:∃ T,A.setRt k ((A.rt k).drop j)=T:=⟨_,rfl⟩
  obtain⟨l,hl⟩:∃ l,(A.rt k).l=l:=⟨_,rfl⟩
  obtain⟨n,hn⟩:∃ n,(A.rt k).n=n:=⟨_,rfl⟩
  rw [hr] at HRO ⊢
  rw [hT] at HSET HMY ⊢
  rw [hl] at HT HD HSET hll
  rw [hn] at HD hsc hll hjn hcap h32
  have hlt1:(l.take j).length=j:=by rw [List.length_take];omega
  have hlt2:(l.drop (j+1)).length=n - (j+1):=by rw [List.length_drop,hll]
  obtain⟨la,hla⟩:∃ la,l.take j=la:=⟨_,rfl⟩
  obtain⟨lb,hlb⟩:∃ lb,l.drop (j+1)=lb:=⟨_,rfl⟩
  rw [hla] at HT HSET hlt1
  rw [hlb] at HD HSET hlt2
  have hrun1:∀ W,(Instr.sliceAt 35 (.slice p n c) none (some (.int .i64 j)) none).run Tryz.prog W = .ok (.slice p j c) W:=fun W=>by
   rw [run_sliceAt_slice W _ _ _ _ _ (by rfl),run_slice_h W _ _ _ _ (by rfl) .i64 j (by omega) (by omega)]
   have hs:sliced p 0 (j:Int).toNat c 2 = .slice p j c:=by
    unfold sliced
    rw [Int.toNat_natCast,Nat.sub_zero,Nat.sub_zero]
    split
    ·rfl
    ·congr 1
     rcases p with _ | a
     ·rfl
     ·rw [Option.map_some,Nat.zero_mul]
      unfold Addr.add;split <;> simp_all
   go_simp
   done
  obtain⟨u2,hu2⟩:∃ u2,sliced p (j+1) n c 2=u2:=⟨_,rfl⟩
  have hrun2:∀ W,(Instr.sliceAt 35 (.slice p n c) (some (.int .i64 (j+1))) none none).run Tryz.prog W = .ok u2 W:=fun W=>by
   rw [run_sliceAt_slice W _ _ _ _ _ (by rfl),run_slice_l W _ _ _ _ (by rfl) .i64 (j+1) (by omega) (by omega)]
   go_simp
   rw [← hu2];rfl
  rw [hu2] at HD
  have hm0:(0:Int)≤(k:Int):=by omega
  have hmn:(k:Int)<A.many:=by omega
  have hwr:IntKind.i64.wrap ((j:Int)+1)=(j:Int)+1:=IntWalk.i64_in _ (by omega)
  have hj0:(0:Int)≤(j:Int):=by omega
  have hjc:(j:Int)≤c:=by omega
  obtain⟨many,hmy⟩:∃ many,A.many=many:=⟨_,rfl⟩
  rw [hmy] at hmn hsx m1
  unfold maxLen at m2
  have HSX:=zC hsx;have HSC:=zC hsc
  have HLA:=zC hlt1;have HLB:=zC hlt2;have HJN:=zC (And.intro hjn h32)
  clear h hwb hE hE2 hb HOK hdl e h32 hstw hst hsc hc3 c3 hsx hll hcap hr hT hl hn hlt1 hlt2 hla hlb hu2 hkm hmy
  simp only [Rf.val] at HRO ⊢
  go_in
  go_upto_region 1 with (fail)
  rw [HW.out]
  go_wp2_with fail
  refine zQ HRO.out fun w1 k1=>?_
  have K1:=zC k1
  clear k1
  go_upto_region 4 with (fail)
  obtain⟨wd,hwd⟩:∃ wd,w1.alloc (.cells #[.int .i64 r.s,.int .u32 r.g] 51)=wd:=⟨_,rfl⟩
  have KD:=zC (show Kz wb wd from by rw [← hwd];exact K1.out.alloc _)
  have KW:=zC (D.out.k.trans KD.out)
  have QR:=zC (show wd.heap[w1.heap.size]?=some (.cells #[.int .i64 r.s,.int .u32 r.g] 51) from by rw [← hwd];exact zE)
  rw [hwd]
  clear hwd
  have up:∀ {W:World},zA (fun y=>wd.heap.size≤y) wd W→Kz w W:=fun hk=>zA.fresh (KW.out.up.trans (hk.mono (fun y _ hy=>by have:=KW.out.size;omega)))
  have HPS:=zC (fun W (hk:zA (fun y=>wd.heap.size≤y) wd W)=>And.intro (HSX.out W (up hk)) (HSC.out W (up hk)))
  have HTA:=zC (fun W (hk:zA (fun y=>wd.heap.size≤y) wd W)=>HT.out W (up hk))
  have HDA:=zC (fun W (hk:zA (fun y=>wd.heap.size≤y) wd W)=>HD.out W (up hk))
  have HST:=zC (fun W v (hk:zA (fun y=>wd.heap.size≤y) wd W) (hv:RefsC W v (la ++ lb)) (hvb:∀ k,v.ownBlock=some k→wd.heap.size≤k)=>(HSET.out W v wd.heap.size (up hk) hv hvb).mono (fun e w' (hu:e = .returned (.tuple #[])∧Up18 x wd.heap.size L T W w')=>show e = .returned (.tuple #[])∧Up18 x wd.heap.size L T w w'∧zA (fun y=>(y=x∨y=L.hb)∨wd.heap.size≤y) wd w' from⟨hu.1,hu.2.from' (up hk).up,(hk.mono (fun _ _ h=>.inr h)).trans (hu.2.1.mono (fun _ _ h=>.inl h))⟩))
  obtain⟨hlx,hls,hlh⟩:=HX.out
  have hszw:=KW.out.size
  obtain⟨c3,sc⟩:=HPS.out wd (zA.refl _ _)
  clear up
  refine wp_region_last 24 (fun W=>W.cell? ⟨x,3,none⟩=some (.slice (some ⟨L.sr,0,none⟩) many cap)∧W.cell? ⟨L.sr,k,none⟩=some (.slice p n c)) (by kernel_rfl) (HPS.out _ (zA.refl _ _).drew) (fun hS=>?_)
  refine TKT.at [0,1,3,4,5,6,7,8,9,10,11,13,14,15,16,17,18,19,20,21,22] ?_
  iterate 21
   refine TKT.take (v:=?_) rfl (by kernel_rfl) (by kernel_rfl) (by kernel_rfl) (by kernel_rfl) (fun _ _ _ h=>h) (Or.inl ⟨by rfl,?_⟩) (by assumption) ?_
   rotate_left
   ·(intro w hSw;(try dsimp only at hSw);simp only [List.getElem_toArray,List.getElem_cons_zero,List.getElem_cons_succ];go_simp;(first | done | with_reducible rfl))
   simp only [List.getElem_toArray,List.getElem_cons_zero,List.getElem_cons_succ,Act.put,List.setIfInBounds_toArray,List.set_cons_zero,List.set_cons_succ]
  refine TKT.mk ?_
  refine zT (rs:=[2]) (by kernel_rfl) (by simp) ?_
  refine AllReadyT.cons rfl rfl (fun K hK=>?_) AllReadyT.nil
  go_simp
  refine hK.out _ _ ?_ (fun hHeld=>?_)
  ·exact HPS.out _ zA.r
  clear hK K
  try dsimp only [Act.put,List.setIfInBounds_toArray,List.set_cons_zero,List.set_cons_succ]
  refine zT (rs:=[12]) (by kernel_rfl) (by simp) ?_
  refine AllReadyT.cons rfl rfl (fun K hK=>?_) AllReadyT.nil
  refine qE _ (by rfl) _ _ (by rfl) wd.heap.size (.slice (some ⟨_,0,none⟩) 0 0) (.slice p j c) [] la (by rfl) (by rfl) (row_empty (by first | exact zE | exact zG zE | exact zN (by simp)) (by first | omega | (simp;done))) (HTA.out _ zA.r) (by rw [HLA.out];have:=HJN.out;simp;omega) (by first | omega | (simp;done) | (simp;omega)) ?_
  intro v5 w5 hr5 hk5 ho5
  rw [List.nil_append] at hr5
  have hk5':zA (fun y=>wd.heap.size≤y) _ w5:=hk5.mono (fun y _ hy=>by simp [Value.ownBlock] at hy;omega)
  have hs5:=hk5.size
  simp only [World.size_alloc,World.size_drew] at hs5
  clear ho5
  refine hK.out _ _ ?_ (fun hHeld=>?_)
  ·exact HPS.out _ zA.r
  clear hK K
  try dsimp only [Act.put,List.setIfInBounds_toArray,List.set_cons_zero,List.set_cons_succ]
  refine zT (rs:=[23]) (by kernel_rfl) (by simp) ?_
  refine AllReadyT.cons rfl rfl (fun K hK=>?_) AllReadyT.nil
  refine qE _ (by rfl) _ _ (by rfl) wd.heap.size _ u2 la lb (by rfl) (by rfl) hr5 (HDA.out _ zA.r) (by rw [HLA.out,HLB.out];have:=HJN.out;omega) (by first | omega | (simp;done) | (simp;omega)) ?_
  intro v6 w6 hr6 hk6 ho6
  have hk6':zA (fun y=>wd.heap.size≤y) _ w6:=hk6.mono (fun y _ hy=>(hr5.lt y hy).1)
  clear ho6
  refine hK.out _ _ ?_ (fun hHeld=>?_)
  ·exact HPS.out _ zA.r
  clear hK K
  try dsimp only [Act.put,List.setIfInBounds_toArray,List.set_cons_zero,List.set_cons_succ]
  refine zT (rs:=[24]) (by kernel_rfl) (by simp) ?_
  refine AllReadyT.last rfl (by kernel_rfl) (fun K hK=>?_)
  go_simp
  go_at_call 127
  refine (HST.out _ _ zA.r hr6.refsC (fun k hk=>(hr6.lt k hk).1)).mono ?_
  rintro e w7 ⟨rfl,hu7,hk7⟩
  refine hK.out _ _ ?_
  refine NoPanic.normal ?_
  have hw0:w.heap.size<wd.heap.size:=by have:=zF (zB D.out.q KD.out (fun h=>h));omega
  have hw1:w1.heap.size<wd.heap.size:=zF QR.out
  have hb1:w.heap.size<wb.heap.size:=zF D.out.q
  have hb2:=K1.out.size
  have q7:=zB (zB D.out.q KD.out (fun h=>h)) hk7 (by omega)
  have p7:=zB QR.out hk7 (by omega)
  have HFN:=zC (fun u v=>(hu7.fin HUP.out HMY.out (Nat.le_refl _) hw0 q7 u v).lower (by omega))
  obtain⟨q0,q1,qf,ql⟩:=zK q7
  obtain⟨p0,p1,_,pl⟩:=zK p7
  have qf0:=qf 0;have qf1:=qf 1
  clear qf q7 p7 hu7 hk7 hS hr5 hr6 hk5 hk6 hk5' hk6'
  go_wp2_with fail
  refine bodyPost_ret_by (v:=.tuple #[.agg #[.int .i64 r.s,.int .u32 r.g],.int .i64 0]) (by simp [results,Tryz.results50,go_sem, *]) rfl ⟨rfl,HFN.out _ _⟩
end
theorem made_rows {m:Nat} (h1:1≤m) (h4:m≤4):∃ C:Array Value,(∀ W:World,(Instr.makeSlice 120 (.int .i64 m) (.int .i64 m)).run Tryz.prog W = .ok (.slice (some ⟨W.heap.size,0,none⟩) m m) (W.alloc (.cells C 35)))∧∀ j,j<m→C[j]?=some (.slice none 0 0):=by
 obtain⟨ri,hi1,hi2,hi3,hi4⟩:=rows_info
 refine⟨madeCells (Value.slice none 0 0).cells (m * 1),fun W=>?_,?_⟩
 ·have:=run_makeSlice (P:=Tryz.prog) W 120 35 ri (.slice none 0 0) Tryz.underlying120 hi1 hi2 .i64 .i64 m m (by omega) (by omega) (by rw [hi3,Int.toNat_natCast];omega) (by rw [hi4];omega) (by omega)
  rw [hi3,Int.toNat_natCast] at this
  exact this
 ·intro j hj
  rw [← Array.getElem?_toList]
  show (madeCells #[Value.slice none 0 0] (m * 1)).toList[j]?=_
  rw [toList_madeCells_one,List.getElem?_replicate,if_pos (by omega)]
section
variable {w w':World} {x N:Nat} {L:L18} {A A':Ar}
theorem new18_ok (n m:Nat) (g:Int) (n1:1≤n) (n2:n≤256) (m1:1≤m) (m4:m≤4) (g1:1≤g) (g2:g≤4294967295):
 Calls Tryz.prog 23 #[.int .i64 n,.int .i64 m,.int .u32 g] w fun e w'=>∃ x L,e = .returned (.tuple #[.pointer (some ⟨x,0,none⟩),.int .i64 0])∧Kz w w'∧w.heap.size≤x∧w.heap.size≤L.hb∧R18 w' x L (Ar.new n m g):=by
 have H:=zC (new14_ok (w:=w) n g n1 n2 g1 g2)
 obtain⟨C,hC,hC2⟩:=made_rows m1 m4
 have HC:=zC hC2
 have HOK:=zC (Ar.Ok.new n1 n2 m1 m4 g1 g2)
 have h1:¬ (m:Int)<1:=by omega
 have h4:¬ 4<(m:Int):=by omega
 clear n1 n2 m1 hC2 g1 g2
 go_in
 go_wp2_with fail
 refine H.out.mono ?_
 rintro e w1 ⟨b',r',rfl,k1,hb',hr',h14⟩
 have K1:=zC k1;have H14:=zC h14
 clear k1 h14
 go_wp2_with fail
 go_ret2
 refine⟨_,⟨b',r',w1.heap.size,fun _=>.slice none 0 0⟩,rfl,(K1.out.alloc _).alloc _,?_,hb',⟨⟨_,m,zN (by simp),rfl,rfl,rfl,rfl,rfl,?_,Nat.le_refl _,?_⟩,H14.out.keeps (((zA.refl (fun _=>False) _).alloc _).alloc _) (fun h=>h) (fun h=>h),⟨C,zG zE,HC.out⟩,fun j hj=>⟨.inl ⟨rfl,rfl⟩,Nat.le_refl 0⟩,HOK.out⟩⟩
 ·have:=K1.out.size;omega
 ·intro i hi
  have:i=0∨i=1∨i=2∨i=3∨i=4∨i=5∨i=6∨i=7:=by omega
  rcases this with rfl | rfl | rfl | rfl | rfl | rfl | rfl | rfl <;> exact⟨rfl,rfl⟩
 ·unfold maxLen;omega
end
end Go.Proofs.YtjfmagccmjdhoaaGreat
