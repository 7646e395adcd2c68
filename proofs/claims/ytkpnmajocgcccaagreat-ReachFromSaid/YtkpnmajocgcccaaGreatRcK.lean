import Derived.Test.YtkpnmajocgcccaaGreatRcH
set_option maxHeartbeats 4000000
set_option maxRecDepth 100000
namespace Go.Proofs.YtkpnmajocgcccaaGreat
open Go.RowKit
set_option linter.unusedVariables false
set_option linter.unusedSimpArgs false
theorem foot_ne {N:Nat} {w0 w:World} {a:Nat} {L:ArL} {A:Ar} (h:Ay N w0 w a L A) {x:Nat} {c:Array Value} {t:TypeId} (hx:w.heap[x]?=some (.cells c t)) (h1:t≠132) (h2:t≠184) (h3:t≠142) (h4:t≠145):¬ L.foot A.many x:=by
 rintro (rfl | rfl | rfl | ⟨k,hk,rfl⟩)
 ·obtain⟨c',hc,_⟩:=h.ar.heap.own
  rw [hc] at hx;injection hx with hx;injection hx with _ hx;exact h1 hx.symm
 ·obtain⟨c',hc,_⟩:=h.ar.heap.tab
  rw [hc] at hx;injection hx with hx;injection hx with _ hx;exact h2 hx.symm
 ·obtain⟨c',hc,_⟩:=h.ar.gl
  rw [hc] at hx;injection hx with hx;injection hx with _ hx;exact h3 hx.symm
 ·obtain⟨c',hc,_⟩:=h.ar.st k hk
  rw [hc] at hx;injection hx with hx;injection hx with _ hx;exact h4 hx.symm
def exC:Array Value:=#[.int .i64 0,.int .i64 0,.int .i64 1,.int .i64 0,.int .i64 3,.int .i64 2,.int .i64 1,.int .i64 0,.int .i64 2,.int .i64 1,.int .i64 1,.int .i64 2,.int .i64 2,.int .i64 2,.int .i64 3,.int .i64 3,.int .i64 0,.int .i64 0]
theorem exC_at {k:Nat} {x:Int × Int × Int} (h:exX[k]?=some x):exC[k * 3]?=some (.int .i64 x.1)∧exC[k * 3+1]?=some (.int .i64 x.2.1)∧exC[k * 3+2]?=some (.int .i64 x.2.2):=by
 match k,h with
 | 0,h=>obtain rfl:=Option.some.inj h;exact⟨rfl,rfl,rfl⟩
 | 1,h=>obtain rfl:=Option.some.inj h;exact⟨rfl,rfl,rfl⟩
 | 2,h=>obtain rfl:=Option.some.inj h;exact⟨rfl,rfl,rfl⟩
 | 3,h=>obtain rfl:=Option.some.inj h;exact⟨rfl,rfl,rfl⟩
 | 4,h=>obtain rfl:=Option.some.inj h;exact⟨rfl,rfl,rfl⟩
 | 5,h=>obtain rfl:=Option.some.inj h;exact⟨rfl,rfl,rfl⟩
theorem example19 (w:World):Calls Tryz.prog 29 #[] w fun e w'=>∃ a L,e = .returned (.pointer (some ⟨a,0,none⟩))∧Ay w.heap.size w w' a L exA:=by
 go_enter Tryz.func29,Tryz.ntmps29
 go_wp2_with fail
 refine (Ay.new 5 1 w (by omega) (by omega) (by omega) (by omega)).mono ?_
 rintro e w1 ⟨a,L,rfl,h1⟩
 have H1:=hid h1
 clear h1
 go_wp2_with fail
 go_loopw [23] (fun ix wr=>∃ k:Nat,k≤5∧ix = .int .i64 k∧Hid (Ay w.heap.size w wr a L (exM k))) (fun ix _=>5 - (intOf ix).toNat)
 case atStart=>exact⟨0,by omega,rfl,H1⟩
 case round=>
  obtain⟨k,hk,rfl,HA⟩:=hrel
  have hk0:(0:Int)≤k:=by omega
  by_cases hlt:k<5
  ·have hlt':(k:Int)<5:=by omega
   have he:=exM_e k hlt
   have HM:=hid (HA.out.make 0 4 false)
   rw [he] at HM
   clear he
   go_wp2_with fail
   refine HM.out.mono ?_
   rintro e w2 ⟨rfl,h2,_⟩
   have HA2:=hid (h2.quiet ((Keeps.refl _ _).alloc (.cells #[.int .i64 ((exM k).makeR 0 4 false).now.s,.int .u32 ((exM k).makeR 0 4 false).now.g] 41)))
   clear h2
   dsimp only [Rf.val]
   go_wp2_with fail
   exact⟨⟨k+1,by omega,by go_num,HA2⟩,by simp [intOf];omega⟩
  ·obtain rfl:k=5:=by omega
   obtain⟨wo,rfl⟩:∃ wo:World,wo=wr:=⟨_,rfl⟩
   clear hlt hk hk0 H1
   go_wp2_with fail
   obtain⟨wb,hwb⟩:∃ wb,wo.alloc (.cells exC 133)=wb:=⟨_,rfl⟩
   have kb:Keeps (fun _=>False) wo wb:=by rw [← hwb];exact (Keeps.refl _ _).alloc _
   have qb:wb.heap[wo.heap.size]?=some (.cells exC 133):=by rw [← hwb];exact alloc_new
   have HQB:=hid qb
   have HAB:=hid ((show Ay w.heap.size w wo a L (exS (exX.take 0).reverse) from HA.out).quiet kb)
   obtain⟨Bx,hBx⟩:∃ Bx,wo.heap.size=Bx:=⟨_,rfl⟩
   unfold exC at hwb
   rw [hwb,hBx]
   rw [hBx] at HQB
   clear hwb kb qb HA hBx
   go_loopw [41] (fun ix wr=>∃ k:Nat,k≤6∧ix = .int .i64 k∧Hid (Ay w.heap.size w wr a L (exS (exX.take k).reverse))∧Hid (wr.heap[Bx]?=some (.cells exC 133))) (fun ix _=>6 - (intOf ix).toNat)
   case atStart=>exact⟨0,by omega,rfl,HAB,HQB⟩
   case round=>
    clear HAB HQB
    obtain⟨k,hk,rfl,HA,HQ⟩:=hrel
    have hk0:(0:Int)≤k:=by omega
    have hql:=lt_block HQ.out
    by_cases hlt:k<6
    ·obtain⟨⟨x0,x1,x2⟩,hx⟩:∃ x,exX[k]?=some x:=⟨_,List.getElem?_eq_getElem (by exact hlt)⟩
     obtain⟨d0,d1,d2⟩:=exC_at hx
     have c0:=cell_at HQ.out d0
     have c1:=cell_at HQ.out d1
     have c2:=cell_at HQ.out d2
     have hlt':(k:Int)<6:=by omega
     have he:=exS_e k _ hx
     have HT:=hid (show (exX.take (k+1)).reverse=(x0,x1,x2) :: (exX.take k).reverse by rw [List.take_add_one,hx];simp)
     have ka:Keeps (fun _=>False) wr (wr.alloc (.cells #[.int .i64 x0,.int .i64 x1,.int .i64 x2] 133)):=(Keeps.refl _ _).alloc _
     have HM:=hid ((HA.out.quiet ka).store 0 x0 x1 x2)
     dsimp only at he c0 c1 c2
     rw [he] at HM
     have HQ2:=hid (block_keep HQ.out ka (fun h=>h))
     have HA2:=hid (HA.out.quiet ka)
     clear hx d0 d1 d2 he ka HQ HA
     go_wp2_with fail
     refine HM.out.mono ?_
     rintro e w2 ⟨rfl,h2,k2⟩
     have HQ3:=hid (block_keep HQ2.out k2 (foot_ne HA2.out HQ2.out (by decide) (by decide) (by decide) (by decide)))
     have HA3:=hid h2
     clear h2 k2 c0 c1 c2
     dsimp only [Rf.val]
     go_wp2_with fail
     refine⟨⟨k+1,by omega,by go_num,?_,hid (alloc_old (alloc_old HQ3.out))⟩,by simp [intOf];omega⟩
     rw [HT.out]
     exact hid (HA3.out.quiet (((Keeps.refl _ _).alloc _).alloc _))
    ·obtain rfl:k=6:=by omega
     have HA6:=hid (show Ay w.heap.size w wr a L (exS exX.reverse) from HA.out)
     have HP:=hid (HA6.out.put 0 4 6)
     rw [exP_e] at HP
     obtain⟨wo2,rfl⟩:∃ wo2:World,wo2=wr:=⟨_,rfl⟩
     clear hlt hk hk0 HA HQ hql
     go_wp2_with fail
     refine HP.out.mono ?_
     rintro e w3 ⟨rfl,h3,_⟩
     have HA3:=hid (show Ay w.heap.size w w3 a L exP from h3)
     clear h3
     dsimp only [Rf.val]
     go_wp2_with fail
     obtain⟨rp,hrp⟩:∃ rp,((exS exX.reverse).putR 0 4 6).was=rp:=⟨_,rfl⟩
     obtain⟨rq,hrq⟩:∃ rq,((exS exX.reverse).putR 0 4 6).now=rq:=⟨_,rfl⟩
     rw [hrp,hrq]
     obtain⟨wb,hwb⟩:∃ wb,((w3.alloc (.cells #[.int .i64 rp.s,.int .u32 rp.g] 41)).alloc (.cells #[.int .i64 rq.s,.int .u32 rq.g] 41)).alloc (.cells #[.int .i64 4,.int .i64 3,.int .i64 2,.int .i64 1] 3)=wb:=⟨_,rfl⟩
     have kb:Keeps (fun _=>False) w3 wb:=by rw [← hwb];exact (((Keeps.refl _ _).alloc _).alloc _).alloc _
     obtain⟨By,hBy⟩:∃ By,w3.heap.size+1+1=By:=⟨_,rfl⟩
     have qb:wb.heap[By]?=some (.cells #[.int .i64 4,.int .i64 3,.int .i64 2,.int .i64 1] 3):=by rw [← hwb];exact alloc_new' (by simp;omega)
     have HAB:=hid ((show Ay w.heap.size w w3 a L (exD (([4,3,2,1]:List Int).take 0).reverse) from HA3.out).quiet kb)
     have HQB:=hid qb
     rw [hwb]
     try rw [hBy]
     clear hwb kb qb hBy hrp hrq
     go_loopw [70] (fun ix wr=>∃ k:Nat,k≤4∧ix = .int .i64 k∧Hid (Ay w.heap.size w wr a L (exD (([4,3,2,1]:List Int).take k).reverse))∧Hid (wr.heap[By]?=some (.cells #[.int .i64 4,.int .i64 3,.int .i64 2,.int .i64 1] 3))) (fun ix _=>4 - (intOf ix).toNat)
     case atStart=>exact⟨0,by omega,rfl,HAB,HQB⟩
     case round=>
      clear HAB HQB
      obtain⟨k,hk,rfl,HA,HQ⟩:=hrel
      have hk0:(0:Int)≤k:=by omega
      have hql:=lt_block HQ.out
      by_cases hlt:k<4
      ·obtain⟨x,hx⟩:∃ x,([4,3,2,1]:List Int)[k]?=some x:=⟨_,List.getElem?_eq_getElem (by exact hlt)⟩
       have c0:wr.cell? ⟨By,k,none⟩=some (.int .i64 x):=by
        rw [cell_block HQ.out]
        match k,hx with
        | 0,hx=>obtain rfl:=Option.some.inj hx;rfl
        | 1,hx=>obtain rfl:=Option.some.inj hx;rfl
        | 2,hx=>obtain rfl:=Option.some.inj hx;rfl
        | 3,hx=>obtain rfl:=Option.some.inj hx;rfl
       have hlt':(k:Int)<4:=by omega
       have he:=exD_e k _ hx
       have HT:=hid (show (([4,3,2,1]:List Int).take (k+1)).reverse=x :: (([4,3,2,1]:List Int).take k).reverse by rw [List.take_add_one,hx];simp)
       have HM:=hid (HA.out.drop 0 x)
       rw [he] at HM
       clear hx he
       go_wp2_with fail
       refine HM.out.mono ?_
       rintro e w2 ⟨rfl,h2,k2⟩
       have HQ3:=hid (block_keep HQ.out k2 (foot_ne HA.out HQ.out (by decide) (by decide) (by decide) (by decide)))
       have HA3:=hid h2
       clear h2 k2 c0
       dsimp only [Rf.val]
       go_wp2_with fail
       refine⟨⟨k+1,by omega,by go_num,?_,hid (alloc_old HQ3.out)⟩,by simp [intOf];omega⟩
       rw [HT.out]
       exact hid (HA3.out.quiet ((Keeps.refl _ _).alloc _))
      ·obtain rfl:k=4:=by omega
       have HA6:=hid (show Ay w.heap.size w wr a L exA from HA.out)
       clear hlt hk hk0 HA HQ hql
       go_wp2_with fail
       go_ret
       exact⟨a,L,rfl,HA6.out⟩
theorem ints_new (w:World) (l:List Int) (c:Nat):IntsB (w.alloc (.cells (l.map (Value.int .i64)).toArray 3)) (.slice (some ⟨w.heap.size,0,none⟩) l.length c) l:=
 ⟨_,c,_,rfl,alloc_new,fun j x hj=>by simp [hj]⟩
theorem ex_dep:(exA.wayL ⟨3,1⟩).length - 1=2:=by rw [ex_way];rfl
theorem path_at {N:Nat} {w0:World} {a:Nat} {L:ArL} {A:Ar} (w:World) (h:Ay N w0 w a L A) (is:Bool) (hi:decide ((⟨3,1⟩:Rf)∈A.rq.keys)=is) (hc:ckV A.H.T 3 1=0):
 Calls Tryz.prog 24 #[.pointer (some ⟨a,0,none⟩),.agg #[.int .i64 3,.int .u32 1]] w fun e w'=>∃ v,e = .returned (.tuple #[v,.bool is,.int .i64 0])∧Row w' w.heap.size v (A.wayL ⟨3,1⟩)∧Keeps (fun _=>False) w w':=by
 have:=path_ok a L A ⟨3,1⟩ w h.ar h.ok ⟨by decide,by decide⟩
 rw [hi] at this
 dsimp only at this
 rw [hc] at this
 exact this
theorem depth_at {N:Nat} {w0:World} {a:Nat} {L:ArL} (w:World) (h:Ay N w0 w a L exA):
 Calls Tryz.prog 26 #[.pointer (some ⟨a,0,none⟩),.agg #[.int .i64 3,.int .u32 1]] w fun e w'=>e = .returned (.tuple #[.int .i64 2,.bool true,.int .i64 0])∧Keeps (fun _=>False) w w':=by
 have:=depth_ok a L exA ⟨3,1⟩ w h.ar h.ok ⟨by decide,by decide⟩
 rw [ex_in,ex_dep] at this
 dsimp only at this
 rw [ex_ck] at this
 exact this
theorem works19 (w:World):Calls Tryz.prog 5 #[] w fun e w'=>e = .returned (.bool true)∧Keeps (fun _=>False) w w':=by
 go_enter Tryz.func5,Tryz.ntmps5
 go_wp2_with fail
 refine (example19 w).mono ?_
 rintro e w1 ⟨a,L,rfl,h1⟩
 have H1:=hid h1
 clear h1
 go_wp2_with fail
 refine (all_ok a L exA w1 H1.out.ar H1.out.ok).mono ?_
 rintro e w2 ⟨v2,rfl,hr2,k2⟩
 rw [ex_all] at hr2
 have H2:=hid (H1.out.quiet k2);have R2:=hid hr2.refs
 clear hr2 k2 H1
 go_wp2_with fail
 refine (lost_ok a L exA w2 H2.out.ar H2.out.ok).mono ?_
 rintro e w3 ⟨v3,rfl,hr3,k3⟩
 rw [ex_lost] at hr3
 obtain⟨p3,c3,rfl⟩:=hr3.refs.slice
 rw [List.length_nil]
 have H3:=hid (H2.out.quiet k3);have R3:=hid (R2.out.keeps k3 (fun _ _ h=>h))
 clear hr3 k3 H2 R2
 go_wp2_with fail
 refine (ref19 3 w3).mono ?_
 rintro e w4 ⟨rfl,k4⟩
 have H4:=hid (H3.out.quiet k4);have R4:=hid (R3.out.keeps k4 (fun _ _ h=>h))
 clear k4 H3 R3
 go_wp2_with fail
 refine (path_at w4 H4.out true ex_in ex_ck).mono ?_
 rintro e w5 ⟨v5,rfl,hr5,k5⟩
 rw [ex_way] at hr5
 have H5:=hid (H4.out.quiet k5);have R5:=hid (R4.out.keeps k5 (fun _ _ h=>h));have S5:=hid hr5.refs
 clear k5 H4 R4 hr5
 go_wp2_with fail
 refine (ref19 3 w5).mono ?_
 rintro e w6 ⟨rfl,k6⟩
 have H6:=hid (H5.out.quiet k6);have R6:=hid (R5.out.keeps k6 (fun _ _ h=>h));have S6:=hid (S5.out.keeps k6 (fun _ _ h=>h))
 clear k6 H5 R5 S5
 go_wp2_with fail
 refine (depth_at w6 H6.out).mono ?_
 rintro e w7 ⟨rfl,k7⟩
 have H7:=hid (H6.out.quiet k7);have R7:=hid (R6.out.keeps k7 (fun _ _ h=>h));have S7:=hid (S6.out.keeps k7 (fun _ _ h=>h))
 clear k7 H6 R6 S6
 go_wp2_with fail
 refine (aheap_ok a L exA w7 H7.out.ar).mono ?_
 rintro e w8 ⟨b8,t8,rfl,k8,_,_,hh8⟩
 have H8:=hid (H7.out.quiet k8);have R8:=hid (R7.out.keeps k8 (fun _ _ h=>h));have S8:=hid (S7.out.keeps k8 (fun _ _ h=>h));have HH8:=hid hh8
 clear k8 H7 R7 S7 hh8
 go_wp2_with fail
 refine (ref19 2 w8).mono ?_
 rintro e w9 ⟨rfl,k9⟩
 have k9':Keeps (fun _=>False) w8 (w9.alloc (.cells #[.int .i64 0,.int .u32 0,.int .i64 2,.int .u32 1] 41)):=k9.alloc _
 have HF:=hid (from_ok b8 t8 exA.H (.slice (some ⟨w9.heap.size,0,none⟩) 2 2) [⟨0,0⟩,⟨2,1⟩] _ (HH8.out.keeps k9' (fun h=>h) (fun h=>h)) (.inr ⟨_,2,_,rfl,alloc_new (w:=w9) (o:=.cells #[.int .i64 0,.int .u32 0,.int .i64 2,.int .u32 1] 41),fun j r hj=>by
  match j,hj with
  | 0,hj=>obtain rfl:=Option.some.inj hj;exact⟨rfl,rfl⟩
  | 1,hj=>obtain rfl:=Option.some.inj hj;exact⟨rfl,rfl⟩⟩) (fun r hr=>by
  rcases List.mem_cons.1 hr with rfl | hr
  ·exact⟨by decide,by decide⟩
  ·rw [List.mem_singleton.1 hr];exact⟨by decide,by decide⟩) (by decide))
 rw [ex_thr,ex_from] at HF
 have H9:=hid (H8.out.quiet k9');have R9:=hid (R8.out.keeps k9' (fun _ _ h=>h));have S9:=hid (S8.out.keeps k9' (fun _ _ h=>h))
 clear k9 k9' H8 R8 S8 HH8
 go_wp2_with fail
 refine HF.out.mono ?_
 rintro e w10 ⟨v10,rfl,hr10,k10⟩
 have H10:=hid (H9.out.quiet k10);have R10:=hid (R9.out.keeps k10 (fun _ _ h=>h));have S10:=hid (S9.out.keeps k10 (fun _ _ h=>h));have T10:=hid hr10.refs
 clear k10 H9 R9 S9 hr10 HF
 go_wp2_with fail
 refine (aheap_ok a L exA w10 H10.out.ar).mono ?_
 rintro e w11 ⟨b11,t11,rfl,k11,_,_,hh11⟩
 have ka11:Keeps (fun _=>False) w10 (w11.alloc (.cells #[.int .i64 2,.int .i64 3] 3)):=k11.alloc _
 have HI11:=hid (show IntsB (w11.alloc (.cells #[.int .i64 2,.int .i64 3] 3)) (.slice (some ⟨w11.heap.size,0,none⟩) 2 2) [2,3] from ints_new w11 [2,3] 2)
 have H11:=hid (H10.out.quiet ka11);have R11:=hid (R10.out.keeps ka11 (fun _ _ h=>h));have S11:=hid (S10.out.keeps ka11 (fun _ _ h=>h));have T11:=hid (T10.out.keeps ka11 (fun _ _ h=>h))
 have HH11:=hid (hh11.keeps ((Keeps.refl (fun _=>False) _).alloc (.cells #[.int .i64 2,.int .i64 3] 3)) (fun h=>h) (fun h=>h))
 clear k11 ka11 hh11 H10 R10 S10 T10
 go_wp2_with fail
 refine (refs19 _ _ _ HI11.out (by decide)).mono ?_
 rintro e w12 ⟨v12,rfl,hr12,k12⟩
 have HC12:=hid (closed_ok b11 t11 exA.H v12 [⟨2,1⟩,⟨3,1⟩] w12 (HH11.out.keeps k12 (fun h=>h) (fun h=>h)) hr12.refs (fun r hr=>by simp at hr;rcases hr with rfl | rfl <;> exact⟨by decide,by decide⟩) (by decide))
 rw [ex_cl1.1,ex_cl1.2] at HC12
 have H12:=hid (H11.out.quiet k12);have R12:=hid (R11.out.keeps k12 (fun _ _ h=>h));have S12:=hid (S11.out.keeps k12 (fun _ _ h=>h));have T12:=hid (T11.out.keeps k12 (fun _ _ h=>h))
 clear k12 H11 R11 S11 T11 HH11 HI11 hr12
 go_wp2_with fail
 refine HC12.out.mono ?_
 rintro e w13 ⟨rfl,k13⟩
 have H13:=hid (H12.out.quiet k13);have R13:=hid (R12.out.keeps k13 (fun _ _ h=>h));have S13:=hid (S12.out.keeps k13 (fun _ _ h=>h));have T13:=hid (T12.out.keeps k13 (fun _ _ h=>h))
 clear k13 H12 R12 S12 T12 HC12
 go_wp2_with fail
 refine (aheap_ok a L exA w13 H13.out.ar).mono ?_
 rintro e w14 ⟨b14,t14,rfl,k14,_,_,hh14⟩
 have ka14:Keeps (fun _=>False) w13 (w14.alloc (.cells #[.int .i64 0,.int .i64 1,.int .i64 2,.int .i64 3] 3)):=k14.alloc _
 have HI14:=hid (show IntsB (w14.alloc (.cells #[.int .i64 0,.int .i64 1,.int .i64 2,.int .i64 3] 3)) (.slice (some ⟨w14.heap.size,0,none⟩) 4 4) [0,1,2,3] from ints_new w14 [0,1,2,3] 4)
 have H14:=hid (H13.out.quiet ka14);have R14:=hid (R13.out.keeps ka14 (fun _ _ h=>h));have S14:=hid (S13.out.keeps ka14 (fun _ _ h=>h));have T14:=hid (T13.out.keeps ka14 (fun _ _ h=>h))
 have HH14:=hid (hh14.keeps ((Keeps.refl (fun _=>False) _).alloc (.cells #[.int .i64 0,.int .i64 1,.int .i64 2,.int .i64 3] 3)) (fun h=>h) (fun h=>h))
 clear k14 ka14 hh14 H13 R13 S13 T13
 go_wp2_with fail
 refine (refs19 _ _ _ HI14.out (by decide)).mono ?_
 rintro e w15 ⟨v15,rfl,hr15,k15⟩
 have HC15:=hid (closed_ok b14 t14 exA.H v15 [⟨0,1⟩,⟨1,1⟩,⟨2,1⟩,⟨3,1⟩] w15 (HH14.out.keeps k15 (fun h=>h) (fun h=>h)) hr15.refs (fun r hr=>by simp at hr;rcases hr with rfl | rfl | rfl | rfl <;> exact⟨by decide,by decide⟩) (by decide))
 rw [ex_cl2.1,ex_cl2.2] at HC15
 have H15:=hid (H14.out.quiet k15);have R15:=hid (R14.out.keeps k15 (fun _ _ h=>h));have S15:=hid (S14.out.keeps k15 (fun _ _ h=>h));have T15:=hid (T14.out.keeps k15 (fun _ _ h=>h))
 clear k15 H14 R14 S14 T14 HH14 HI14 hr15
 go_wp2_with fail
 refine HC15.out.mono ?_
 rintro e w16 ⟨rfl,k16⟩
 have H16:=hid (H15.out.quiet k16);have R16:=hid (R15.out.keeps k16 (fun _ _ h=>h));have S16:=hid (S15.out.keeps k16 (fun _ _ h=>h));have T16:=hid (T15.out.keeps k16 (fun _ _ h=>h))
 clear k16 H15 R15 S15 T15 HC15
 have ka16:Keeps (fun _=>False) w16 (w16.alloc (.cells #[.int .i64 0,.int .i64 1,.int .i64 2,.int .i64 3,.int .i64 4] 3)):=(Keeps.refl _ _).alloc _
 have HI16:=hid (show IntsB (w16.alloc (.cells #[.int .i64 0,.int .i64 1,.int .i64 2,.int .i64 3,.int .i64 4] 3)) (.slice (some ⟨w16.heap.size,0,none⟩) 5 5) [0,1,2,3,4] from ints_new w16 [0,1,2,3,4] 5)
 have Ha16:=hid (H16.out.quiet ka16);have Ra16:=hid (R16.out.keeps ka16 (fun _ _ h=>h));have Sa16:=hid (S16.out.keeps ka16 (fun _ _ h=>h));have Ta16:=hid (T16.out.keeps ka16 (fun _ _ h=>h))
 clear ka16 H16 R16 S16 T16
 go_wp2_with fail
 refine (refs19 _ _ _ HI16.out (by decide)).mono ?_
 rintro e w17 ⟨v17,rfl,hr17,k17⟩
 have H17:=hid (Ha16.out.quiet k17);have R17:=hid (Ra16.out.keeps k17 (fun _ _ h=>h));have S17:=hid (Sa16.out.keeps k17 (fun _ _ h=>h));have T17:=hid (Ta16.out.keeps k17 (fun _ _ h=>h))
 have HE17:=hid (requal _ v17 [⟨0,1⟩,⟨1,1⟩,⟨2,1⟩,⟨3,1⟩,⟨4,1⟩] [⟨0,1⟩,⟨1,1⟩,⟨2,1⟩,⟨3,1⟩,⟨4,1⟩] w17 R17.out hr17.refs (by decide))
 rw [decide_eq_true rfl] at HE17
 clear k17 hr17 HI16 Ha16 Ra16 Sa16 Ta16
 go_wp2_with fail
 refine HE17.out.mono ?_
 rintro e w18 ⟨rfl,k18⟩
 have H18:=hid (H17.out.quiet k18);have R18:=hid (R17.out.keeps k18 (fun _ _ h=>h));have S18:=hid (S17.out.keeps k18 (fun _ _ h=>h));have T18:=hid (T17.out.keeps k18 (fun _ _ h=>h))
 clear k18 HE17 H17 R17 S17 T17
 have ka18:Keeps (fun _=>False) w18 (w18.alloc (.cells #[.int .i64 0,.int .i64 2,.int .i64 3] 3)):=(Keeps.refl _ _).alloc _
 have HI18:=hid (show IntsB (w18.alloc (.cells #[.int .i64 0,.int .i64 2,.int .i64 3] 3)) (.slice (some ⟨w18.heap.size,0,none⟩) 3 3) [0,2,3] from ints_new w18 [0,2,3] 3)
 have Ha18:=hid (H18.out.quiet ka18);have Sa18:=hid (S18.out.keeps ka18 (fun _ _ h=>h));have Ta18:=hid (T18.out.keeps ka18 (fun _ _ h=>h))
 clear ka18 H18 S18 T18
 go_wp2_with fail
 refine (refs19 _ _ _ HI18.out (by decide)).mono ?_
 rintro e w19 ⟨v19,rfl,hr19,k19⟩
 have H19:=hid (Ha18.out.quiet k19);have S19:=hid (Sa18.out.keeps k19 (fun _ _ h=>h));have T19:=hid (Ta18.out.keeps k19 (fun _ _ h=>h))
 have HE19:=hid (requal _ v19 [⟨0,1⟩,⟨2,1⟩,⟨3,1⟩] [⟨0,1⟩,⟨2,1⟩,⟨3,1⟩] w19 S19.out hr19.refs (by decide))
 rw [decide_eq_true rfl] at HE19
 clear k19 hr19 HI18 Ha18 Sa18 Ta18
 go_wp2_with fail
 refine HE19.out.mono ?_
 rintro e w20 ⟨rfl,k20⟩
 have H20:=hid (H19.out.quiet k20);have S20:=hid (S19.out.keeps k20 (fun _ _ h=>h));have T20:=hid (T19.out.keeps k20 (fun _ _ h=>h))
 clear k20 HE19 H19 S19 T19
 have ka20:Keeps (fun _=>False) w20 (w20.alloc (.cells #[.int .i64 0,.int .i64 1,.int .i64 2,.int .i64 3] 3)):=(Keeps.refl _ _).alloc _
 have HI20:=hid (show IntsB (w20.alloc (.cells #[.int .i64 0,.int .i64 1,.int .i64 2,.int .i64 3] 3)) (.slice (some ⟨w20.heap.size,0,none⟩) 4 4) [0,1,2,3] from ints_new w20 [0,1,2,3] 4)
 have Ha20:=hid (H20.out.quiet ka20);have Ta20:=hid (T20.out.keeps ka20 (fun _ _ h=>h))
 clear ka20 H20 T20
 go_wp2_with fail
 refine (refs19 _ _ _ HI20.out (by decide)).mono ?_
 rintro e w21 ⟨v21,rfl,hr21,k21⟩
 have H21:=hid (Ha20.out.quiet k21);have T21:=hid (Ta20.out.keeps k21 (fun _ _ h=>h))
 have HE21:=hid (requal _ v21 [⟨0,1⟩,⟨1,1⟩,⟨2,1⟩,⟨3,1⟩] [⟨0,1⟩,⟨1,1⟩,⟨2,1⟩,⟨3,1⟩] w21 T21.out hr21.refs (by decide))
 rw [decide_eq_true rfl] at HE21
 clear k21 hr21 HI20 Ha20 Ta20
 go_wp2_with fail
 refine HE21.out.mono ?_
 rintro e w22 ⟨rfl,k22⟩
 have H22:=hid (H21.out.quiet k22);have T22:=hid (T21.out.keeps k22 (fun _ _ h=>h))
 clear k22 HE21 H21 T21
 have HD22:=hid (H22.out.drop 0 0)
 rw [exB_e] at HD22
 go_wp2_with fail
 refine HD22.out.mono ?_
 rintro e w23 ⟨rfl,h23,_⟩
 obtain⟨rr,hrr⟩:∃ rr,(exA.dropR 0 0).now=rr:=⟨_,rfl⟩
 rw [hrr]
 dsimp only [Rf.val]
 have H23:=hid ((show Ay w.heap.size w w23 a L exB from h23).quiet ((Keeps.refl _ _).alloc (.cells #[.int .i64 rr.s,.int .u32 rr.g] 41)))
 clear h23 HD22 H22 hrr T22
 go_wp2_with fail
 refine (all_ok a L exB _ H23.out.ar H23.out.ok).mono ?_
 rintro e w24 ⟨v24,rfl,hr24,k24⟩
 rw [ey_all] at hr24
 have H24:=hid (H23.out.quiet k24);have R24:=hid hr24.refs
 clear hr24 k24 H23
 go_wp2_with fail
 refine (lost_ok a L exB w24 H24.out.ar H24.out.ok).mono ?_
 rintro e w25 ⟨v25,rfl,hr25,k25⟩
 rw [ey_lost] at hr25
 have H25:=hid (H24.out.quiet k25);have R25:=hid (R24.out.keeps k25 (fun _ _ h=>h));have S25:=hid hr25.refs
 clear hr25 k25 H24 R24
 go_wp2_with fail
 refine (ref19 3 w25).mono ?_
 rintro e w26 ⟨rfl,k26⟩
 have H26:=hid (H25.out.quiet k26);have R26:=hid (R25.out.keeps k26 (fun _ _ h=>h));have S26:=hid (S25.out.keeps k26 (fun _ _ h=>h))
 clear k26 H25 R25 S25
 go_wp2_with fail
 refine (path_at w26 H26.out false ey_in ey_ck).mono ?_
 rintro e w27 ⟨v27,rfl,hr27,k27⟩
 have H27:=hid (H26.out.quiet k27);have R27:=hid (R26.out.keeps k27 (fun _ _ h=>h));have S27:=hid (S26.out.keeps k27 (fun _ _ h=>h))
 clear k27 H26 R26 S26 hr27
 have ka27:Keeps (fun _=>False) w27 (w27.alloc (.cells #[.int .i64 4] 3)):=(Keeps.refl _ _).alloc _
 have HI27:=hid (show IntsB (w27.alloc (.cells #[.int .i64 4] 3)) (.slice (some ⟨w27.heap.size,0,none⟩) 1 1) [4] from ints_new w27 [4] 1)
 have Ha27:=hid (H27.out.quiet ka27);have Ra27:=hid (R27.out.keeps ka27 (fun _ _ h=>h));have Sa27:=hid (S27.out.keeps ka27 (fun _ _ h=>h))
 clear ka27 H27 R27 S27
 go_wp2_with fail
 refine (refs19 _ _ _ HI27.out (by decide)).mono ?_
 rintro e w28 ⟨v28,rfl,hr28,k28⟩
 have H28:=hid (Ha27.out.quiet k28);have R28:=hid (Ra27.out.keeps k28 (fun _ _ h=>h));have S28:=hid (Sa27.out.keeps k28 (fun _ _ h=>h))
 have HE28:=hid (requal _ v28 [⟨4,1⟩] [⟨4,1⟩] w28 R28.out hr28.refs (by decide))
 rw [decide_eq_true rfl] at HE28
 clear k28 hr28 HI27 Ha27 Ra27 Sa27
 go_wp2_with fail
 refine HE28.out.mono ?_
 rintro e w29 ⟨rfl,k29⟩
 have H29:=hid (H28.out.quiet k29);have R29:=hid (R28.out.keeps k29 (fun _ _ h=>h));have S29:=hid (S28.out.keeps k29 (fun _ _ h=>h))
 clear k29 HE28 H28 R28 S28
 have ka29:Keeps (fun _=>False) w29 (w29.alloc (.cells #[.int .i64 0,.int .i64 1,.int .i64 2,.int .i64 3] 3)):=(Keeps.refl _ _).alloc _
 have HI29:=hid (show IntsB (w29.alloc (.cells #[.int .i64 0,.int .i64 1,.int .i64 2,.int .i64 3] 3)) (.slice (some ⟨w29.heap.size,0,none⟩) 4 4) [0,1,2,3] from ints_new w29 [0,1,2,3] 4)
 have Ha29:=hid (H29.out.quiet ka29);have Sa29:=hid (S29.out.keeps ka29 (fun _ _ h=>h))
 clear ka29 H29 S29
 go_wp2_with fail
 refine (refs19 _ _ _ HI29.out (by decide)).mono ?_
 rintro e w30 ⟨v30,rfl,hr30,k30⟩
 have H30:=hid (Ha29.out.quiet k30);have S30:=hid (Sa29.out.keeps k30 (fun _ _ h=>h))
 have HE30:=hid (requal _ v30 [⟨0,1⟩,⟨1,1⟩,⟨2,1⟩,⟨3,1⟩] [⟨0,1⟩,⟨1,1⟩,⟨2,1⟩,⟨3,1⟩] w30 S30.out hr30.refs (by decide))
 rw [decide_eq_true rfl] at HE30
 clear k30 hr30 HI29 Ha29 Sa29
 go_wp2_with fail
 refine HE30.out.mono ?_
 rintro e w31 ⟨rfl,k31⟩
 have H31:=hid (H30.out.quiet k31);have S31:=hid (S30.out.keeps k31 (fun _ _ h=>h))
 clear k31 HE30 H30 S30
 go_wp2_with fail
 go_ret
 exact⟨rfl,H31.out.k.fresh⟩
end Go.Proofs.YtkpnmajocgcccaaGreat
