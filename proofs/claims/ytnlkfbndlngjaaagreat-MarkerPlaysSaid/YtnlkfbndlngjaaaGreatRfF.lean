import Derived.Test.YtnlkfbndlngjaaaGreatKqA
import Derived.Test.YtnlkfbndlngjaaaGreatMgR
import Derived.Deep.AppendLies
import Derived.Deep.MidRow
set_option maxHeartbeats 4000000
set_option maxRecDepth 100000
namespace Go.Proofs.YtnlkfbndlngjaaaGreat
open Go.RowKit
set_option linter.unusedVariables false
set_option linter.unusedSimpArgs false
def Rf.poss (r:Rf):Bool:=decide (0≤r.s) && decide (r.s<256) && decide (0<r.g)
theorem possible13 (r:Rf) (w:World):Calls Tryz.prog 276 #[.agg #[.int .i64 r.s,.int .u32 r.g]] w fun e w'=>e = .returned (.bool r.poss)∧Keeps (fun _=>False) w w':=by
 have hk:=(Keeps.refl (fun _=>False) w).alloc (.cells #[.int .i64 r.s,.int .u32 r.g] 34)
 have HK:=hid hk
 clear hk
 by_cases h1:0≤r.s
 ·by_cases h2:r.s<256
  ·by_cases h3:0<r.g
   ·have e:r.poss=true:=by simp [Rf.poss,h1,h2,h3]
    go_enter Tryz.func276,Tryz.ntmps276
    go_wp2_with fail
    go_ret
    exact⟨by rw [e];rfl,HK.out⟩
   ·have e:r.poss=false:=by simp [Rf.poss,h3]
    go_enter Tryz.func276,Tryz.ntmps276
    go_wp2_with fail
    go_ret
    exact⟨rfl,HK.out⟩
  ·have e:r.poss=false:=by simp [Rf.poss,h2]
   go_enter Tryz.func276,Tryz.ntmps276
   go_wp2_with fail
   go_ret
   exact⟨rfl,HK.out⟩
 ·have e:r.poss=false:=by simp [Rf.poss,h1]
  go_enter Tryz.func276,Tryz.ntmps276
  go_wp2_with fail
  go_ret
  exact⟨rfl,HK.out⟩
theorem bad_poss (r:Rf):r.bad=(r.nz && !r.poss):=by
 unfold Rf.bad Rf.poss
 congr 1
 by_cases h1:r.s<0 <;> by_cases h2:256≤r.s <;> by_cases h3:r.g<1 <;> simp [h1,h2,h3] <;> omega
theorem wrong13 (r:Rf) (w:World):Calls Tryz.prog 268 #[.agg #[.int .i64 r.s,.int .u32 r.g]] w fun e w'=>e = .returned (.bool r.bad)∧Keeps (fun _=>False) w w':=by
 have HP:=hid (fun W=>possible13 r W)
 have hneq:=fun W=>neq_ref W r.s r.g 0 0
 rw [bad_poss]
 by_cases hn:r.nz=true
 ·have e0:(!(r.s == 0 && r.g == 0))=true:=hn
  simp only [e0] at hneq
  rw [hn,Bool.true_and]
  clear e0 hn
  go_enter Tryz.func268,Tryz.ntmps268
  go_wp2_with fail
  refine (HP.out _).mono ?_
  rintro e w1 ⟨rfl,k1⟩
  have HK:=hid (Keeps.trans (show Keeps (fun _=>False) w _ from (Keeps.refl _ _).alloc _) k1)
  clear k1
  go_wp2_with fail
  go_ret
  exact⟨rfl,HK.out⟩
 ·have e0:(!(r.s == 0 && r.g == 0))=false:=by simpa [Rf.nz] using hn
  simp only [e0] at hneq
  rw [show r.nz=false from by simpa using hn,Bool.false_and]
  clear e0 hn
  go_enter Tryz.func268,Tryz.ntmps268
  go_wp2_with fail
  go_ret
  exact⟨rfl,(Keeps.refl _ _).alloc _⟩
theorem Ob.cell13 {w:World} {b:Nat} {o:Ob} {t:TypeId} (h:w.heap[b]?=some (.cells o.arr t)) {i:Nat} (hi:i<4):
 w.cell? ⟨b,1+i * 2,none⟩=some (.int .i64 (o.fs i).s)∧w.cell? ⟨b,1+i * 2+1,none⟩=some (.int .u32 (o.fs i).g):=by
 match i,hi with
 | 0,_=>exact⟨cell_at h rfl,cell_at h rfl⟩
 | 1,_=>exact⟨cell_at h rfl,cell_at h rfl⟩
 | 2,_=>exact⟨cell_at h rfl,cell_at h rfl⟩
 | 3,_=>exact⟨cell_at h rfl,cell_at h rfl⟩
theorem check13 (o:Ob) (w:World) (hg:o.Good):Calls Tryz.prog 248 #[.agg o.arr] w fun e w'=>e = .returned (.int .i64 0)∧Keeps (fun _=>False) w w':=by
 obtain⟨w1,hw1⟩:∃ w1,w.alloc (.cells o.arr 218)=w1:=⟨_,rfl⟩
 have HK1:=hid (show Keeps (fun _=>False) w w1 from by rw [← hw1];exact (Keeps.refl _ _).alloc _)
 have hq:w1.heap[w.heap.size]?=some (.cells o.arr 218):=by rw [← hw1];exact alloc_new
 have hlb:=lt_block hq
 have HQ:=hid hq;have HW1:=hid hw1;have HG:=hid hg
 have c0:w1.cell? ⟨w.heap.size,0,none⟩=some (.int .i64 o.n):=cell_at hq rfl
 have c9:w1.cell? ⟨w.heap.size,9,none⟩=some (.bool o.h):=cell_at hq rfl
 have n0:¬ o.n<0:=by have:=hg.n0;omega
 have n4:¬ 4<o.n:=by have:=hg.n4;omega
 obtain⟨n,hn⟩:∃ n,o.n=n:=⟨_,rfl⟩
 obtain⟨h,hh⟩:∃ h,o.h=h:=⟨_,rfl⟩
 have hz:h=true→¬ 0<n:=fun e=>by rw [← hn,hg.hn (hh.trans e)];omega
 obtain⟨B,hB⟩:∃ B,w.heap.size=B:=⟨_,rfl⟩
 rw [hn] at c0 n0 n4
 rw [hh] at c9
 rw [hB] at c0 c9 hlb HQ
 have HB:=hid hB;have HN:=hid hn
 clear hw1 hq hg hn hh hB
 have hz2:h=false∨(h=true∧¬ 0<n):=by
  cases h
  ·exact .inl rfl
  ·exact .inr ⟨rfl,hz rfl⟩
 clear hz
 rcases hz2 with rfl | ⟨rfl,hnz⟩
 all_goals
  go_enter Tryz.func248,Tryz.ntmps248
  go_upto_region 1 with (fail)
  rw [HW1.out,HB.out]
  go_wp2_with fail
  clear c0 c9
  try clear hnz
  go_loopw [3] (fun ix wr=>∃ i:Nat,i≤4∧ix = .int .i64 i∧Hid (Keeps (fun _=>False) w1 wr)) (fun ix _=>4 - (intOf ix).toNat)
  case atStart=>exact⟨0,by omega,rfl,hid (Keeps.refl _ _)⟩
  case round=>
   obtain⟨i,hi,rfl,HK⟩:=hrel
   have hi0:(0:Int)≤i:=by omega
   obtain⟨wq,hwq⟩:∃ wq,wr=wq:=⟨_,rfl⟩
   rw [hwq] at HK ⊢
   clear hwq
   have q:=block_keep HQ.out HK.out (fun h=>h)
   have c0:wq.cell? ⟨B,0,none⟩=some (.int .i64 n):=by rw [← HN.out];exact cell_at q rfl
   have hlq:=lt_block q
   by_cases hlt:i<4
   ·have hlt':(i:Int)<4:=by omega
    obtain⟨d0,d1⟩:=Ob.cell13 q hlt
    obtain⟨r,hr⟩:∃ r,o.fs i=r:=⟨_,rfl⟩
    rw [hr] at d0 d1
    have hok:=HG.out.ok i hlt
    rw [hr,HN.out] at hok
    have hbad:r.bad=false:=by
     rcases hz:r.nz with _ | _
     ·simp [Rf.bad,hz]
     ·exact (hok hz).2
    have HWR:=hid (fun W=>wrong13 r W)
    rw [hbad] at HWR
    have HSS:=hid (fun W (hk:Keeps (fun _=>False) wq W)=>(show W.cell? ⟨B,0,none⟩=some (.int .i64 n)∧W.cell? ⟨B,1+i * 2,none⟩=some (.int .i64 r.s)∧W.cell? ⟨B,1+i * 2+1,none⟩=some (.int .u32 r.g)∧B<W.heap.size from by
     have q':=block_keep q hk (fun h=>h)
     obtain⟨b0,b1⟩:=Ob.cell13 q' hlt
     rw [hr] at b0 b1
     exact⟨by rw [← HN.out];exact cell_at q' rfl,b0,b1,lt_block q'⟩))
    by_cases hin:(i:Int)<n
    ·have hin':¬ n≤(i:Int):=by omega
     clear hok hbad hr
     go_wp2_with fail
     refine (HWR.out _).mono ?_
     rintro e w3 ⟨rfl,k3⟩
     obtain⟨y0,y1,y2,yl⟩:=HSS.out w3 k3
     have HK3:=hid (HK.out.trans k3)
     clear k3 c0 d0 d1 q hlq
     go_wp2_with fail
     exact⟨⟨i+1,by omega,by go_num,HK3⟩,by simp [intOf];omega⟩
    ·have hin':n≤(i:Int):=by omega
     have hz:r.nz=false:=by
      rcases hz:r.nz with _ | _
      ·rfl
      ·exact absurd (hok hz).1 hin
     have hneq:=fun W=>neq_ref W r.s r.g 0 0
     rw [show (!(r.s == 0 && r.g == 0))=false from hz] at hneq
     clear hok hbad hr hz
     go_wp2_with fail
     refine (HWR.out _).mono ?_
     rintro e w3 ⟨rfl,k3⟩
     obtain⟨y0,y1,y2,yl⟩:=HSS.out w3 k3
     have HK3:=hid (HK.out.trans k3)
     clear k3 c0 d0 d1 q hlq
     go_wp2_with fail
     exact⟨⟨i+1,by omega,by go_num,HK3⟩,by simp [intOf];omega⟩
   ·obtain rfl:i=4:=by omega
    go_wp2_with fail
    go_ret
    exact⟨rfl,HK1.out.trans HK.out⟩
theorem check13_bad (n:Int) (h:Bool) (w:World) (hk:¬ okNew n h):Calls Tryz.prog 248 #[.agg (Ob.new n h).arr] w fun e w'=>e = .returned (.int .i64 2)∧Keeps (fun _=>False) w w':=by
 have hc:n<0∨(0≤n∧4<n)∨(0≤n∧n≤4∧h=true∧0<n):=by
  by_cases h1:n<0
  ·exact .inl h1
  by_cases h2:4<n
  ·exact .inr (.inl ⟨by omega,h2⟩)
  rcases h with _ | _
  ·exact absurd ⟨by omega,by omega,by simp⟩ hk
  ·refine .inr (.inr ⟨by omega,by omega,rfl,?_⟩)
   by_cases h3:n=0
   ·exact absurd ⟨by omega,by omega,fun _=>h3⟩ hk
   ·omega
 clear hk
 simp only [Ob.arr,Ob.new,Rf.no]
 rcases hc with h1 | ⟨h1,h2⟩ | ⟨h1,h2,rfl,h3⟩
 all_goals
  go_enter Tryz.func248,Tryz.ntmps248
  go_wp2_with fail
  go_ret
  exact⟨rfl,(Keeps.refl _ _).alloc _⟩
theorem new13_bad (n:Int) (h:Bool) (w:World) (hk:¬ okNew n h):
 Calls Tryz.prog 196 #[.int .i64 n,.bool h] w fun e w'=>e = .returned (.tuple #[.agg (Ob.new 0 false).arr,.int .i64 2])∧Keeps (fun _=>False) w w':=by
 have HC:=hid (fun w'=>check13_bad n h w' hk)
 clear hk
 simp only [Ob.arr,Ob.new,Rf.no] at HC ⊢
 go_enter Tryz.func196,Tryz.ntmps196
 go_wp2_with fail
 refine (HC.out _).mono ?_
 rintro e w1 ⟨rfl,hk1⟩
 have HK1:=hid ((((Keeps.refl (fun y=>w.heap.size≤y) w).alloc _).alloc _).trans hk1.up)
 obtain⟨a0,a1,a2,a3,a4,a5,a6,a7,a8,a9,af,al⟩:=cells10 (block_keep (alloc_old (alloc_new (w:=w))) hk1 (fun h=>h))
 clear hk1
 go_wp2_with fail
 refine bodyPost_ret_by (v:=.tuple #[.agg #[.int .i64 0,.int .i64 0,.int .u32 0,.int .i64 0,.int .u32 0,.int .i64 0,.int .u32 0,.int .i64 0,.int .u32 0,.bool false],.int .i64 2]) (by simp [results,Tryz.results196,go_sem, *]) rfl ⟨rfl,?_⟩
 refine Keeps.fresh ?_
 repeat (first | (with_reducible exact HK1.out) | with_reducible refine Keeps.setCell ?_ ?_ _ | with_reducible refine Keeps.alloc ?_ _ | with_reducible refine Keeps.drewN ?_ _ | with_reducible refine Keeps.drew ?_)
 all_goals first | (left;simp;done) | (left;simp;omega) | (right;simp;done) | (right;simp;omega)
theorem new13_ok (n:Int) (h:Bool) (w:World) (hk:okNew n h):
 Calls Tryz.prog 196 #[.int .i64 n,.bool h] w fun e w'=>e = .returned (.tuple #[.agg (Ob.new n h).arr,.int .i64 0])∧Keeps (fun _=>False) w w':=by
 have HC:=hid (fun w'=>check13 (Ob.new n h) w' (Ob.new_good hk))
 clear hk
 simp only [Ob.arr,Ob.new,Rf.no] at HC ⊢
 go_enter Tryz.func196,Tryz.ntmps196
 go_wp2_with fail
 refine (HC.out _).mono ?_
 rintro e w1 ⟨rfl,hk1⟩
 have HK1:=hid ((((Keeps.refl (fun y=>w.heap.size≤y) w).alloc _).alloc _).trans hk1.up)
 have q1:=block_keep (alloc_old (alloc_new (w:=w))) hk1 (fun h=>h)
 have q2:=block_keep (alloc_new' (n:=w.heap.size+1) (by simp)) hk1 (fun h=>h)
 obtain⟨a0,a1,a2,a3,a4,a5,a6,a7,a8,a9,af,al⟩:=cells10 q1
 obtain⟨b0,b1,b2,b3,b4,b5,b6,b7,b8,b9,bf,bl⟩:=cells10 q2
 clear hk1 q1 q2
 go_wp2_with fail
 refine bodyPost_ret_by (v:=.tuple #[.agg #[.int .i64 n,.int .i64 0,.int .u32 0,.int .i64 0,.int .u32 0,.int .i64 0,.int .u32 0,.int .i64 0,.int .u32 0,.bool h],.int .i64 0]) (by simp [results,Tryz.results196,go_sem, *]) rfl ⟨rfl,?_⟩
 refine Keeps.fresh ?_
 repeat (first | (with_reducible exact HK1.out) | with_reducible refine Keeps.setCell ?_ ?_ _ | with_reducible refine Keeps.alloc ?_ _ | with_reducible refine Keeps.drewN ?_ _ | with_reducible refine Keeps.drew ?_)
 all_goals first | (left;simp;done) | (left;simp;omega) | (right;simp;done) | (right;simp;omega)
theorem get13 (o:Ob) (i:Int) (w:World) (hg:o.Good):
 Calls Tryz.prog 251 #[.agg o.arr,.int .i64 i] w fun e w'=>e = .returned (.tuple #[(o.getC i).1.val,.int .i64 (o.getC i).2])∧Keeps (fun _=>False) w w':=by
 have HC:=hid (fun w'=>check13 o w' hg)
 have n0:=hg.n0
 have n4:=hg.n4
 clear hg
 have hcase:i<0∨(0≤i∧o.n≤i)∨(0≤i∧i<o.n):=by omega
 have HS:=hid (show o.getC i=if i<0∨o.n≤i then (Rf.no,3) else (o.fs i.toNat,0) from rfl)
 obtain⟨⟨rs,rg⟩,hrr⟩:∃ r,r=(o.getC i).1:=⟨_,rfl⟩
 have HR:=hid hrr
 simp only [Ob.arr] at HC ⊢
 clear hrr
 go_enter Tryz.func251,Tryz.ntmps251
 go_wp2_with fail
 refine (HC.out _).mono ?_
 rintro e w1 ⟨rfl,hk1⟩
 have HK1:=hid ((((Keeps.refl (fun y=>w.heap.size≤y) w).alloc _).alloc _).trans hk1.up)
 have q1:=block_keep (alloc_old (alloc_new (w:=w))) hk1 (fun h=>h)
 have q2:=block_keep (alloc_new' (n:=w.heap.size+1) (by simp)) hk1 (fun h=>h)
 have HQ1:=hid (show w1.heap[w.heap.size]?=some (.cells o.arr 218) from q1)
 have c0:=cell_at (i:=0) q1 rfl
 have l1:=lt_block q1
 obtain⟨b0,b1,bf,bl⟩:=cells2 q2
 have bf0:=bf 0;have bf1:=bf 1
 clear hk1 q1 q2 bf
 rcases hcase with h1 | ⟨h1,h2⟩ | ⟨h1,h2⟩
 ·go_wp2_with fail
  refine bodyPost_ret_by (v:=.tuple #[.agg #[.int .i64 0,.int .u32 0],.int .i64 3]) (by simp [results,Tryz.results251,go_sem, *]) rfl ⟨by rw [HS.out,if_pos (.inl h1)];rfl,?_⟩
  refine Keeps.fresh ?_
  repeat (first | (with_reducible exact HK1.out) | with_reducible refine Keeps.setCell ?_ ?_ _ | with_reducible refine Keeps.alloc ?_ _ | with_reducible refine Keeps.drewN ?_ _ | with_reducible refine Keeps.drew ?_)
  all_goals first | (left;simp;done) | (left;simp;omega) | (right;simp;done) | (right;simp;omega)
 ·go_wp2_with fail
  refine bodyPost_ret_by (v:=.tuple #[.agg #[.int .i64 0,.int .u32 0],.int .i64 3]) (by simp [results,Tryz.results251,go_sem, *]) rfl ⟨by rw [HS.out,if_pos (.inr h2)];rfl,?_⟩
  refine Keeps.fresh ?_
  repeat (first | (with_reducible exact HK1.out) | with_reducible refine Keeps.setCell ?_ ?_ _ | with_reducible refine Keeps.alloc ?_ _ | with_reducible refine Keeps.drewN ?_ _ | with_reducible refine Keeps.drew ?_)
  all_goals first | (left;simp;done) | (left;simp;omega) | (right;simp;done) | (right;simp;omega)
 ·obtain⟨k,hk,rfl⟩:∃ k:Nat,k<4∧i=k:=⟨i.toNat,by omega,by omega⟩
  have hk4:(k:Int)<4:=by omega
  obtain⟨d0,d1⟩:=Ob.cell13 HQ1.out hk
  obtain⟨⟨s,g⟩,hr⟩:∃ r,o.fs k=r:=⟨_,rfl⟩
  rw [hr] at d0 d1
  have HS2:=hid (show o.getC k=(⟨s,g⟩,0) by rw [HS.out,if_neg (by omega)];simp [hr])
  clear hr
  go_wp2_with fail
  refine bodyPost_ret_by (v:=.tuple #[.agg #[.int .i64 s,.int .u32 g],.int .i64 0]) (by simp [results,Tryz.results251,go_sem, *]) rfl ⟨by rw [HS2.out];rfl,?_⟩
  refine Keeps.fresh ?_
  repeat (first | (with_reducible exact HK1.out) | with_reducible refine Keeps.setCell ?_ ?_ _ | with_reducible refine Keeps.alloc ?_ _ | with_reducible refine Keeps.drewN ?_ _ | with_reducible refine Keeps.drew ?_)
  all_goals first | (left;simp;done) | (left;simp;omega) | (right;simp;done) | (right;simp;omega)
theorem set13 (o:Ob) (k:Nat) (r:Rf) (w:World) (hg:o.Good) (hkn:(k:Int)<o.n) (hb:r.bad=false):
 Calls Tryz.prog 252 #[.agg o.arr,.int .i64 k,.agg #[.int .i64 r.s,.int .u32 r.g]] w fun e w'=>e = .returned (.tuple #[.agg (o.set k r).arr,(o.fs k).val,.int .i64 0])∧Keeps (fun _=>False) w w':=by
 have HC:=hid (fun w'=>check13 o w' hg)
 have HW:=hid (fun w'=>wrong13 r w')
 rw [hb] at HW
 have n0:=hg.n0
 have n4:=hg.n4
 have hk:k<4:=by omega
 clear hg hb
 simp only [Ob.arr] at HC ⊢
 go_enter Tryz.func252,Tryz.ntmps252
 go_wp2_with fail
 refine (HC.out _).mono ?_
 rintro e w1 ⟨rfl,hk1⟩
 have HK1:=hid ((((((Keeps.refl (fun y=>w.heap.size≤y) w).alloc _).alloc _).alloc _).alloc _).trans hk1.up)
 have HQ1:=hid (block_keep (alloc_old (alloc_old (alloc_old (alloc_new (w:=w))))) hk1 (fun h=>h))
 have HQ2:=hid (block_keep (alloc_old (alloc_old (alloc_new' (n:=w.heap.size+1) (by simp)))) hk1 (fun h=>h))
 have HQ3:=hid (block_keep (alloc_old (alloc_new' (n:=w.heap.size+1+1) (by simp))) hk1 (fun h=>h))
 have HQ4:=hid (block_keep (alloc_new' (n:=w.heap.size+1+1+1) (by simp)) hk1 (fun h=>h))
 clear hk1
 obtain⟨b0,b1,bf,bl⟩:=cells2 HQ2.out
 go_wp2_with fail
 refine (HW.out _).mono ?_
 rintro e w2 ⟨rfl,hk2⟩
 have HK2:=hid (HK1.out.trans hk2.up)
 have p1:=hid (block_keep HQ1.out hk2 (fun h=>h))
 have p2:=hid (block_keep HQ2.out hk2 (fun h=>h))
 have p3:=hid (block_keep HQ3.out hk2 (fun h=>h))
 have p4:=hid (block_keep HQ4.out hk2 (fun h=>h))
 clear hk2 b0 b1 bf bl HQ1 HQ2 HQ3 HQ4 HK1
 obtain⟨a0,a1,a2,a3,a4,a5,a6,a7,a8,a9,af,al⟩:=cells10 p1.out
 obtain⟨b0,b1,bf,bl⟩:=cells2 p2.out
 obtain⟨c0,c1,c2,c3,c4,c5,c6,c7,c8,c9,cf,cl⟩:=cells10 p3.out
 obtain⟨d0,d1,df,dl⟩:=cells2 p4.out
 obtain rfl | rfl | rfl | rfl:k=0∨k=1∨k=2∨k=3:=by omega
 ·go_wp2_with fail
  go_region
  go_wp2_with fail
  refine bodyPost_ret_by (v:=.tuple #[.agg #[.int .i64 o.n,.int .i64 r.s,.int .u32 r.g,.int .i64 o.f1.s,.int .u32 o.f1.g,.int .i64 o.f2.s,.int .u32 o.f2.g,.int .i64 o.f3.s,.int .u32 o.f3.g,.bool o.h],.agg #[.int .i64 o.f0.s,.int .u32 o.f0.g],.int .i64 0]) (by simp [results,Tryz.results252,go_sem, *]) rfl ⟨rfl,?_⟩
  refine Keeps.fresh ?_
  repeat (first | (with_reducible exact HK2.out) | with_reducible refine Keeps.setCell ?_ ?_ _ | with_reducible refine Keeps.alloc ?_ _ | with_reducible refine Keeps.drewN ?_ _ | with_reducible refine Keeps.drew ?_)
  all_goals first | (left;simp;done) | (left;simp;omega) | (right;simp;done) | (right;simp;omega)
 ·go_wp2_with fail
  go_region
  go_wp2_with fail
  refine bodyPost_ret_by (v:=.tuple #[.agg #[.int .i64 o.n,.int .i64 o.f0.s,.int .u32 o.f0.g,.int .i64 r.s,.int .u32 r.g,.int .i64 o.f2.s,.int .u32 o.f2.g,.int .i64 o.f3.s,.int .u32 o.f3.g,.bool o.h],.agg #[.int .i64 o.f1.s,.int .u32 o.f1.g],.int .i64 0]) (by simp [results,Tryz.results252,go_sem, *]) rfl ⟨rfl,?_⟩
  refine Keeps.fresh ?_
  repeat (first | (with_reducible exact HK2.out) | with_reducible refine Keeps.setCell ?_ ?_ _ | with_reducible refine Keeps.alloc ?_ _ | with_reducible refine Keeps.drewN ?_ _ | with_reducible refine Keeps.drew ?_)
  all_goals first | (left;simp;done) | (left;simp;omega) | (right;simp;done) | (right;simp;omega)
 ·go_wp2_with fail
  go_region
  go_wp2_with fail
  refine bodyPost_ret_by (v:=.tuple #[.agg #[.int .i64 o.n,.int .i64 o.f0.s,.int .u32 o.f0.g,.int .i64 o.f1.s,.int .u32 o.f1.g,.int .i64 r.s,.int .u32 r.g,.int .i64 o.f3.s,.int .u32 o.f3.g,.bool o.h],.agg #[.int .i64 o.f2.s,.int .u32 o.f2.g],.int .i64 0]) (by simp [results,Tryz.results252,go_sem, *]) rfl ⟨rfl,?_⟩
  refine Keeps.fresh ?_
  repeat (first | (with_reducible exact HK2.out) | with_reducible refine Keeps.setCell ?_ ?_ _ | with_reducible refine Keeps.alloc ?_ _ | with_reducible refine Keeps.drewN ?_ _ | with_reducible refine Keeps.drew ?_)
  all_goals first | (left;simp;done) | (left;simp;omega) | (right;simp;done) | (right;simp;omega)
 ·go_wp2_with fail
  go_region
  go_wp2_with fail
  refine bodyPost_ret_by (v:=.tuple #[.agg #[.int .i64 o.n,.int .i64 o.f0.s,.int .u32 o.f0.g,.int .i64 o.f1.s,.int .u32 o.f1.g,.int .i64 o.f2.s,.int .u32 o.f2.g,.int .i64 r.s,.int .u32 r.g,.bool o.h],.agg #[.int .i64 o.f3.s,.int .u32 o.f3.g],.int .i64 0]) (by simp [results,Tryz.results252,go_sem, *]) rfl ⟨rfl,?_⟩
  refine Keeps.fresh ?_
  repeat (first | (with_reducible exact HK2.out) | with_reducible refine Keeps.setCell ?_ ?_ _ | with_reducible refine Keeps.alloc ?_ _ | with_reducible refine Keeps.drewN ?_ _ | with_reducible refine Keeps.drew ?_)
  all_goals first | (left;simp;done) | (left;simp;omega) | (right;simp;done) | (right;simp;omega)
end Go.Proofs.YtnlkfbndlngjaaaGreat
namespace Go.Proofs.YtnlkfbndlngjaaaGreat
open Go.RowKit
set_option linter.unusedVariables false
set_option linter.unusedSimpArgs false
def Hp.obx (H:Hp) (i:Nat):Ob:=if H.T.st i=1 then H.ob i else Ob.new 0 false
def slotL (t r:Bool) (g:Int) (o:Ob):List Value:=.bool t :: .bool r :: .int .u32 g :: o.arr.toList
def Hp.slot (H:Hp) (i:Nat):List Value:=slotL (H.T.st i == 1) (!(H.T.st i == 1) && !(H.T.st i == 0)) (H.T.gn i) (H.obx i)
theorem slotL_len (t r:Bool) (g:Int) (o:Ob):(slotL t r g o).length=13:=rfl
theorem slot_len (H:Hp) (i:Nat):(H.slot i).length=13:=rfl
theorem slotL_one (t r:Bool) (g:Int) (o:Ob):∀ u∈slotL t r g o,u.oneCell'=true:=by
 intro u hu
 simp [slotL,Ob.arr] at hu
 rcases hu with rfl | rfl | rfl | rfl | rfl | rfl | rfl | rfl | rfl | rfl | rfl | rfl | rfl <;> rfl
def slotsL (f:Nat→List Value) (n:Nat):List Value:=(List.range n).flatMap f
theorem slotsL_succ (f:Nat→List Value) (n:Nat):slotsL f (n+1)=slotsL f n ++ f n:=by
 unfold slotsL;rw [List.range_succ,List.flatMap_append];simp
theorem slotsL_len {f:Nat→List Value} {k:Nat} (hf:∀ i,(f i).length=k) (n:Nat):(slotsL f n).length=n * k:=by
 induction n with
 | zero=>simp [slotsL]
 | succ n ih=>rw [slotsL_succ,List.length_append,ih,hf,Nat.succ_mul]
theorem slotsL_get {f:Nat→List Value} {k:Nat} (hf:∀ i,(f i).length=k) (n i j:Nat) (hi:i<n) (hj:j<k):(slotsL f n)[i * k+j]?=(f i)[j]?:=by
 induction n with
 | zero=>omega
 | succ n ih=>
  rw [slotsL_succ]
  have hl:=slotsL_len hf n
  by_cases h:i<n
  ·have:i * k+j<n * k:=Nat.lt_of_lt_of_le (show i * k+j<(i+1) * k by rw [Nat.succ_mul];omega) (Nat.mul_le_mul_right k h)
   rw [List.getElem?_append_left (by omega)]
   exact ih h
  ·obtain rfl:i=n:=by omega
   rw [List.getElem?_append_right (by omega),hl,Nat.add_sub_cancel_left]
theorem slotsL_one {f:Nat→List Value} (hf:∀ i,∀ u∈f i,u.oneCell'=true) (n:Nat):∀ u∈slotsL f n,u.oneCell'=true:=by
 intro u hu
 obtain⟨i,_,hi⟩:=List.mem_flatMap.1 hu
 exact hf i u hi
def layL (c:Array Value):Nat→List Value→Array Value
 | _,[]=>c
 | o,v :: r=>layL (c.setIfInBounds o v) (o+1) r
theorem layL_get:∀ (vs:List Value) (o:Nat) (c:Array Value) (k:Nat),o+vs.length≤c.size→(layL c o vs)[k]?=if o≤k∧k<o+vs.length then vs[k - o]? else c[k]?
 | [],o,c,k,_=>by rw [if_neg (by simp)];rfl
 | v :: r,o,c,k,h=>by
  simp only [List.length_cons] at h
  unfold layL
  rw [layL_get r (o+1) _ k (by simp;omega)]
  by_cases hk:k=o
  ·subst hk
   rw [if_neg (by omega),if_pos (by simp),Array.getElem?_setIfInBounds_self_of_lt (by omega)]
   simp
  ·by_cases h1:o≤k∧k<o+(r.length+1)
   ·rw [if_pos (by omega),if_pos (by simpa using h1)]
    obtain⟨d,hd⟩:∃ d,k - o=d+1:=⟨k - o - 1,by omega⟩
    rw [hd,List.getElem?_cons_succ]
    congr 1
    omega
   ·rw [if_neg (by omega),if_neg (by simpa using h1),Array.getElem?_setIfInBounds_ne (by omega)]
theorem setL_block:∀ (vs:List Value) (o:Nat) (w:World) {b:Nat} {c:Array Value} {t:TypeId},w.heap[b]?=some (.cells c t)→(w.setCells b o vs).heap[b]?=some (.cells (layL c o vs) t)
 | [],_,_,_,_,_,h=>h
 | v :: r,o,w,b,c,t,h=>by
  rw [World.setCells]
  exact setL_block r (o+1) _ (set_block h o v)
theorem Keeps.setCells {S:Nat→Prop} {a:World} {b:Nat} (hb:S b∨a.heap.size≤b):∀ (vs:List Value) (o:Nat) (w:World),Keeps S a w→Keeps S a (w.setCells b o vs)
 | [],_,_,h=>h
 | v :: r,o,w,h=>by
  rw [World.setCells]
  exact Keeps.setCells hb r (o+1) _ (h.setCell hb v)
structure R14 (w:World) (b r:Nat) (H:Hp):Prop where
 own:∃ cap,H.T.n≤cap∧cap≤maxLen∧w.heap[b]?=some (.cells #[.bool true,.slice (some ⟨r,0,none⟩) H.T.n cap] 217)
 row:∃ c,w.heap[r]?=some (.cells c 220)∧∀ i j,i<H.T.n→j<13→c[i * 13+j]?=(H.slot i)[j]?
 n1:1≤H.T.n
 n2:H.T.n≤256
 good:∀ i,(H.ob i).Good
 gn:∀ i,i<H.T.n→1≤H.T.gn i∧H.T.gn i≤4294967295
section
variable {w w':World} {b r:Nat} {H:Hp}
theorem R14.keeps {S:Nat→Prop} (h:R14 w b r H) (hk:Keeps S w w') (hb:¬ S b) (hr:¬ S r):R14 w' b r H:=by
 obtain⟨cap,a1,a2,h1⟩:=h.own
 obtain⟨c,h2,h3⟩:=h.row
 exact⟨⟨cap,a1,a2,block_keep h1 hk hb⟩,⟨c,block_keep h2 hk hr,h3⟩,h.n1,h.n2,h.good,h.gn⟩
theorem R14.lt (h:R14 w b r H):b<w.heap.size∧r<w.heap.size:=by
 obtain⟨cap,_,_,h1⟩:=h.own
 obtain⟨c,h2,_⟩:=h.row
 exact⟨lt_block h1,lt_block h2⟩
theorem R14.made (h:R14 w b r H):w.cell? ⟨b,0,none⟩=some (.bool true):=by
 obtain⟨cap,_,_,h1⟩:=h.own
 exact cell_at h1 rfl
theorem R14.sl (h:R14 w b r H):∃ cap,H.T.n≤cap∧cap≤maxLen∧w.cell? ⟨b,1,none⟩=some (.slice (some ⟨r,0,none⟩) H.T.n cap):=by
 obtain⟨cap,a1,a2,h1⟩:=h.own
 exact⟨cap,a1,a2,cell_at h1 rfl⟩
theorem R14.cell (h:R14 w b r H) {i j:Nat} {v:Value} (hi:i<H.T.n) (hj:j<13) (hv:(H.slot i)[j]?=some v):w.cell? ⟨r,i * 13+j,none⟩=some v:=by
 obtain⟨c,h2,h3⟩:=h.row
 exact cell_at h2 (by rw [h3 i j hi hj];exact hv)
theorem R14.c0 (h:R14 w b r H) {i:Nat} (hi:i<H.T.n):w.cell? ⟨r,i * 13,none⟩=some (.bool (H.T.st i == 1)):=h.cell (j:=0) hi (by omega) rfl
theorem R14.c1 (h:R14 w b r H) {i:Nat} (hi:i<H.T.n):w.cell? ⟨r,i * 13+1,none⟩=some (.bool (!(H.T.st i == 1) && !(H.T.st i == 0))):=h.cell (j:=1) hi (by omega) rfl
theorem R14.c2 (h:R14 w b r H) {i:Nat} (hi:i<H.T.n):w.cell? ⟨r,i * 13+2,none⟩=some (.int .u32 (H.T.gn i)):=h.cell (j:=2) hi (by omega) rfl
theorem R14.ob (h:R14 w b r H) {i:Nat} (hi:i<H.T.n):w.rangeAt r (i * 13+3) (H.obx i).arr.toList:=by
 intro j v hv
 have hj:j<10:=(List.getElem?_eq_some_iff.1 hv).1
 rw [Nat.add_assoc]
 refine h.cell hi (by omega) ?_
 show (slotL _ _ _ _)[3+j]?=_
 rw [show 3+j=j+1+1+1 by omega]
 exact hv
end
theorem slot_info:∃ i,Tryz.prog.info? 220=some i∧i.zero=some (.agg (slotL false false 0 (Ob.new 0 false)).toArray)∧i.size=13∧i.bytes=88:=by
 have h:(Tryz.prog.info? 220).map (fun i=>(i.zero,i.size,i.bytes))=some (some (.agg (slotL false false 0 (Ob.new 0 false)).toArray),13,88):=by kernel_rfl
 rcases hi:Tryz.prog.info? 220 with _ | i
 ·rw [hi] at h;cases h
 ·rw [hi] at h
  simp only [Option.map_some,Option.some.injEq,Prod.mk.injEq] at h
  exact⟨i,rfl,h.1,h.2.1,h.2.2⟩
theorem valid14 (b:Nat) (w:World) (h:w.cell? ⟨b,0,none⟩=some (.bool true)):
 Calls Tryz.prog 235 #[.pointer (some ⟨b,0,none⟩)] w fun e w'=>e = .returned (.bool true)∧w'=w:=by
 go_enter Tryz.func235,Tryz.ntmps235
 go_wp2
 go_ret
 exact⟨rfl,rfl⟩
section
variable {w:World} {b r:Nat} {H:Hp}
theorem check14 (s g:Int) (h:R14 w b r H):
 Calls Tryz.prog 227 #[.pointer (some ⟨b,0,none⟩),.agg #[.int .i64 s,.int .u32 g]] w fun e w'=>e = .returned (.int .i64 (ckV H.T s g))∧Keeps (fun _=>False) w w':=by
 have n1:=h.n1
 have n2:=h.n2
 obtain⟨cap,a1,a2,hsl⟩:=h.sl
 obtain⟨hlb,hlr⟩:=h.lt
 have hm:=h.made
 have HV:=hid (fun o=>valid14 b (w.alloc o) (h.keeps (S:=fun _=>False) ((Keeps.refl _ _).alloc o) (fun h=>h) (fun h=>h)).made)
 unfold maxLen at a2
 by_cases h1:s<0
 ·clear h
  have h1':decide (s<0)=true:=by simpa using h1
  go_enter Tryz.func227,Tryz.ntmps227
  go_wp2_with fail
  refine (HV.out _).mono ?_
  rintro e w' ⟨rfl,h'⟩
  obtain rfl:=h'.symm
  go_wp2_with fail
  go_quiet (fail)
  go_wp2
  go_ret
  exact⟨ret_int (by rw [ckV,if_pos (by omega)]),(by repeat (first | exact Keeps.refl _ _ | apply Keeps.drewN | apply Keeps.alloc))⟩
 by_cases h2:(H.T.n:Int)≤s
 ·clear h
  have hd:decide (s<0)=false:=by simpa using h1
  go_enter Tryz.func227,Tryz.ntmps227
  go_wp2_with fail
  refine (HV.out _).mono ?_
  rintro e w' ⟨rfl,h'⟩
  obtain rfl:=h'.symm
  go_wp2_with fail
  go_quiet (fail)
  go_wp2
  go_ret
  exact⟨ret_int (by rw [ckV,if_pos (by omega)]),(by repeat (first | exact Keeps.refl _ _ | apply Keeps.drewN | apply Keeps.alloc))⟩
 ·obtain⟨i,rfl⟩:∃ i:Nat,s=i:=⟨s.toNat,by omega⟩
  have hi:i<H.T.n:=by omega
  have hs:=h.c0 hi
  have hg:=h.c2 hi
  have hi1:(i:Int)<H.T.n:=by omega
  have hi0:(0:Int)≤(i:Int):=by omega
  have hd:decide ((i:Int)<0)=false:=by simp
  have hd2:decide ((H.T.n:Int)≤(i:Int))=false:=by simp;omega
  have HG:=hid (show ckV H.T i g=if H.T.st i=1∧H.T.gn i=g then 0 else 7 by rw [ckV,if_neg (by omega)];rfl)
  clear h
  rcases e1:(H.T.st i == 1) with _ | _
  ·rw [e1] at hs
   have E1:=hid e1
   clear e1
   go_enter Tryz.func227,Tryz.ntmps227
   go_wp2_with fail
   refine (HV.out _).mono ?_
   rintro e w' ⟨rfl,h'⟩
   obtain rfl:=h'.symm
   go_wp2_with fail
   go_quiet (fail)
   go_wp2_with fail
   go_quiet (fail)
   go_wp2
   go_ret
   exact⟨ret_int (by rw [HG.out,if_neg (by intro h;have:=E1.out;simp [h.1] at this)]),(by repeat (first | exact Keeps.refl _ _ | apply Keeps.drewN | apply Keeps.alloc))⟩
  ·rw [e1] at hs
   have E1:=hid e1
   clear e1
   rcases e2:(H.T.gn i == g) with _ | _
   ·have e3:(H.T.gn i != g)=true:=by simp [bne,e2]
    go_enter Tryz.func227,Tryz.ntmps227
    go_wp2_with fail
    refine (HV.out _).mono ?_
    rintro e w' ⟨rfl,h'⟩
    obtain rfl:=h'.symm
    go_wp2_with fail
    go_quiet (fail)
    go_wp2_with fail
    go_quiet (fail)
    go_wp2
    go_ret
    exact⟨ret_int (by rw [HG.out,if_neg (by intro h;simp [h.2] at e2)]),(by repeat (first | exact Keeps.refl _ _ | apply Keeps.drewN | apply Keeps.alloc))⟩
   ·have e3:(H.T.gn i != g)=false:=by simp [bne,e2]
    go_enter Tryz.func227,Tryz.ntmps227
    go_wp2_with fail
    refine (HV.out _).mono ?_
    rintro e w' ⟨rfl,h'⟩
    obtain rfl:=h'.symm
    go_wp2_with fail
    go_quiet (fail)
    go_wp2_with fail
    go_quiet (fail)
    go_wp2
    go_ret
    exact⟨ret_int (by rw [HG.out,if_pos ⟨by simpa using E1.out,by simpa using e2⟩]),(by repeat (first | exact Keeps.refl _ _ | apply Keeps.drewN | apply Keeps.alloc))⟩
theorem has14 (s g:Int) (h:R14 w b r H):
 Calls Tryz.prog 218 #[.pointer (some ⟨b,0,none⟩),.agg #[.int .i64 s,.int .u32 g]] w fun e w'=>e = .returned (.bool (ckV H.T s g == 0))∧Keeps (fun _=>False) w w':=by
 have HC:=hid (fun o=>check14 s g (h.keeps (S:=fun _=>False) ((Keeps.refl _ _).alloc o) (fun h=>h) (fun h=>h)))
 clear h
 go_enter Tryz.func218,Tryz.ntmps218
 go_wp2_with fail
 refine (HC.out _).mono ?_
 rintro e w1 ⟨rfl,k1⟩
 have HK:=hid (Keeps.trans ((Keeps.refl (fun _=>False) w).alloc _) k1)
 clear k1
 go_wp2_with fail
 go_ret
 exact⟨rfl,HK.out⟩
theorem object14_bad (s g:Int) (h:R14 w b r H) (hc:ckV H.T s g≠0):
 Calls Tryz.prog 250 #[.pointer (some ⟨b,0,none⟩),.agg #[.int .i64 s,.int .u32 g]] w fun e w'=>e = .returned (.tuple #[.agg (Ob.new 0 false).arr,.int .i64 (ckV H.T s g)])∧Keeps (fun _=>False) w w':=by
 have HC:=hid (fun o o'=>check14 s g (h.keeps (S:=fun _=>False) (((Keeps.refl _ _).alloc o).alloc o') (fun h=>h) (fun h=>h)))
 obtain⟨x,hx⟩:∃ x,ckV H.T s g=x:=⟨_,rfl⟩
 rw [hx] at HC hc ⊢
 have hx0:(x != 0)=true:=by simpa using hc
 clear h hx hc
 simp only [Ob.arr,Ob.new,Rf.no]
 go_enter Tryz.func250,Tryz.ntmps250
 go_wp2_with fail
 refine (HC.out _ _).mono ?_
 rintro e w1 ⟨rfl,hk1⟩
 have HK1:=hid ((((Keeps.refl (fun y=>w.heap.size≤y) w).alloc _).alloc _).trans hk1.up)
 obtain⟨a0,a1,a2,a3,a4,a5,a6,a7,a8,a9,af,al⟩:=cells10 (block_keep (alloc_new' (n:=w.heap.size+1) (by simp)) hk1 (fun h=>h))
 have hl0:w.heap.size<w1.heap.size:=by omega
 clear hk1
 go_wp2_with fail
 refine bodyPost_ret_by (v:=.tuple #[.agg #[.int .i64 0,.int .i64 0,.int .u32 0,.int .i64 0,.int .u32 0,.int .i64 0,.int .u32 0,.int .i64 0,.int .u32 0,.bool false],.int .i64 x]) (by simp [results,Tryz.results250,go_sem, *]) rfl ⟨rfl,?_⟩
 refine Keeps.fresh ?_
 repeat (first | (with_reducible exact HK1.out) | with_reducible refine Keeps.setCell ?_ ?_ _ | with_reducible refine Keeps.alloc ?_ _ | with_reducible refine Keeps.drewN ?_ _ | with_reducible refine Keeps.drew ?_)
 all_goals first | (left;simp;done) | (left;simp;omega) | (right;simp;done) | (right;simp;omega)
theorem R14.oten (h:R14 w b r H) {i:Nat} (hi:i<H.T.n):∀ j,j<10→w.cell? ⟨r,i * 13+3+j,none⟩=(H.obx i).arr[j]?:=by
 intro j hj
 have hs:(H.obx i).arr.toList.length=10:=rfl
 have:=h.ob hi j _ (List.getElem?_eq_getElem (by rw [hs];exact hj))
 rw [this]
 rw [← List.getElem?_eq_getElem (by rw [hs];exact hj)]
 simp
theorem object14_ok (i:Nat) (g:Int) (h:R14 w b r H) (hc:ckV H.T i g=0):
 Calls Tryz.prog 250 #[.pointer (some ⟨b,0,none⟩),.agg #[.int .i64 i,.int .u32 g]] w fun e w'=>e = .returned (.tuple #[.agg (H.ob i).arr,.int .i64 0])∧Keeps (fun _=>False) w w':=by
 obtain⟨j,hj,hkn,hst,hgn⟩:=ckV_ok hc
 obtain rfl:i=j:=by omega
 have n2:=h.n2
 have HC:=hid (fun o o'=>check14 i g (h.keeps (S:=fun _=>False) (((Keeps.refl _ _).alloc o).alloc o') (fun h=>h) (fun h=>h)))
 rw [hc] at HC
 have HH:=hid (fun W (hk:Keeps (fun _=>False) w W)=>h.keeps hk (fun h=>h) (fun h=>h))
 obtain⟨O,hO⟩:∃ O,H.ob i=O:=⟨_,rfl⟩
 have HX:=hid (show H.obx i=O by unfold Hp.obx;rw [if_pos hst,hO])
 have HI:=hid hkn
 obtain⟨n,hn⟩:∃ n,H.T.n=n:=⟨_,rfl⟩
 rw [hO]
 rw [hn] at n2 hkn
 have HN:=hid hn
 clear h hc hst hgn hO hj hn
 simp only [Ob.arr]
 go_enter Tryz.func250,Tryz.ntmps250
 go_wp2_with fail
 refine (HC.out _ _).mono ?_
 rintro e w1 ⟨rfl,hk1⟩
 have k1:Keeps (fun _=>False) w w1:=Keeps.trans (((Keeps.refl (fun _=>False) w).alloc _).alloc _) hk1
 have h1:=HH.out w1 k1
 have HK1:=hid ((((Keeps.refl (fun y=>w.heap.size≤y) w).alloc _).alloc _).trans hk1.up)
 obtain⟨b0,b1,bf,bl⟩:=cells2 (block_keep (alloc_old (alloc_new (w:=w))) hk1 (fun h=>h))
 obtain⟨a0,a1,a2,a3,a4,a5,a6,a7,a8,a9,af,al⟩:=cells10 (block_keep (alloc_new' (n:=w.heap.size+1) (by simp)) hk1 (fun h=>h))
 obtain⟨cap,m1,m2,hsl⟩:=h1.sl
 rw [HN.out] at m1 hsl
 unfold maxLen at m2
 have ho:=h1.oten HI.out
 rw [HX.out] at ho
 obtain⟨o0,o1,o2,o3,o4,o5,o6,o7,o8,o9⟩:=ten ho
 have hl0:w.heap.size<w1.heap.size:=by omega
 have hi0:(0:Int)≤(i:Int):=by omega
 have hi1:(i:Int)<n:=by omega
 have af0:=af 0;have af1:=af 1;have af2:=af 2;have af3:=af 3;have af4:=af 4;have af5:=af 5;have af6:=af 6;have af7:=af 7;have af8:=af 8;have af9:=af 9
 clear hk1 k1 h1 ho af bf
 go_wp2_with fail
 go_still_tail 9,(by kernel_rfl)
 change wpList _ _ _ _ _ (World.drew _)
 go_wp2_with fail
 refine bodyPost_ret_by (v:=.tuple #[.agg #[.int .i64 O.n,.int .i64 O.f0.s,.int .u32 O.f0.g,.int .i64 O.f1.s,.int .u32 O.f1.g,.int .i64 O.f2.s,.int .u32 O.f2.g,.int .i64 O.f3.s,.int .u32 O.f3.g,.bool O.h],.int .i64 0]) (by simp [results,Tryz.results250,go_sem, *]) rfl ⟨rfl,?_⟩
 refine Keeps.fresh ?_
 repeat (first | (with_reducible exact HK1.out) | with_reducible refine Keeps.setCell ?_ ?_ _ | with_reducible refine Keeps.alloc ?_ _ | with_reducible refine Keeps.drewN ?_ _ | with_reducible refine Keeps.drew ?_)
 all_goals first | (left;simp;done) | (left;simp;omega) | (right;simp;done) | (right;simp;omega)
theorem load14 (q:Rf) (i:Int) (h:R14 w b r H):
 Calls Tryz.prog 205 #[.pointer (some ⟨b,0,none⟩),.agg #[.int .i64 q.s,.int .u32 q.g],.int .i64 i] w fun e w'=>e = .returned (.tuple #[(H.loadR q i).1.val,.int .i64 (H.loadR q i).2])∧Keeps (fun _=>False) w w':=by
 have HH:=hid (fun W (hk:Keeps (fun _=>False) w W)=>h.keeps hk (fun h=>h) (fun h=>h))
 have hgd:=h.good
 clear h
 by_cases hc:ckV H.T q.s q.g=0
 ·obtain⟨j,hj,hkn,hst,hgn⟩:=ckV_ok hc
  have HO:=hid (fun W (hk:Keeps (fun _=>False) w W)=>object14_ok j q.g (HH.out W hk) (by rw [← hj];exact hc))
  have HG:=hid (fun W=>get13 (H.ob j) i W (hgd j))
  have HR:=hid (show H.loadR q i=(H.ob j).getC i by
   unfold Hp.loadR Ob.getC
   rw [if_neg (by rw [hc];simp),hj,Int.toNat_natCast])
  rw [HR.out]
  obtain⟨⟨⟨vs,vg⟩,ve⟩,hv⟩:∃ v,(H.ob j).getC i=v:=⟨_,rfl⟩
  rw [hv] at HG ⊢
  obtain⟨O,hO⟩:∃ O,H.ob j=O:=⟨_,rfl⟩
  rw [hO] at HO HG
  rw [hj]
  clear hgd hc hst hgn hkn HR hv hO
  simp only [Rf.val,Ob.arr] at HO HG ⊢
  go_enter Tryz.func205,Tryz.ntmps205
  go_wp2_with fail
  refine (HO.out _ (((Keeps.refl (fun _=>False) w).alloc _).alloc _)).mono ?_
  rintro e w1 ⟨rfl,k1⟩
  have HK1:=hid ((((Keeps.refl (fun y=>w.heap.size≤y) w).alloc _).alloc _).trans k1.up)
  have HQ:=hid (block_keep (alloc_new' (n:=w.heap.size+1) (by simp)) k1 (fun h=>h))
  have hl1:=k1.size
  simp only [World.size_alloc] at hl1
  clear k1
  go_wp2_with fail
  refine (HG.out _).mono ?_
  rintro e w2 ⟨rfl,k2⟩
  have HK2:=hid ((HK1.out.alloc (.cells #[.int .i64 O.n,.int .i64 O.f0.s,.int .u32 O.f0.g,.int .i64 O.f1.s,.int .u32 O.f1.g,.int .i64 O.f2.s,.int .u32 O.f2.g,.int .i64 O.f3.s,.int .u32 O.f3.g,.bool O.h] 218)).trans k2.up)
  obtain⟨b0,b1,bf,bl⟩:=cells2 (block_keep (alloc_old HQ.out) k2 (fun h=>h))
  have bf0:=bf 0;have bf1:=bf 1
  clear k2 bf
  go_wp2_with fail
  refine bodyPost_ret_by (v:=.tuple #[.agg #[.int .i64 vs,.int .u32 vg],.int .i64 ve]) (by simp [results,Tryz.results205,go_sem, *]) rfl ⟨rfl,?_⟩
  refine Keeps.fresh ?_
  repeat (first | (with_reducible exact HK2.out) | with_reducible refine Keeps.setCell ?_ ?_ _ | with_reducible refine Keeps.alloc ?_ _ | with_reducible refine Keeps.drewN ?_ _ | with_reducible refine Keeps.drew ?_)
  all_goals first | (left;simp;done) | (left;simp;omega) | (right;simp;done) | (right;simp;omega)
 ·have HO:=hid (fun W (hk:Keeps (fun _=>False) w W)=>object14_bad q.s q.g (HH.out W hk) hc)
  have HR:=hid (show H.loadR q i=(.no,ckV H.T q.s q.g) by unfold Hp.loadR;rw [if_pos hc])
  rw [HR.out]
  obtain⟨x,hx⟩:∃ x,ckV H.T q.s q.g=x:=⟨_,rfl⟩
  rw [hx] at HO hc ⊢
  have hx0:(x != 0)=true:=by simpa using hc
  clear hgd hc HR hx
  simp only [Rf.val,Rf.no,Ob.arr,Ob.new] at HO ⊢
  go_enter Tryz.func205,Tryz.ntmps205
  go_wp2_with fail
  refine (HO.out _ (((Keeps.refl (fun _=>False) w).alloc _).alloc _)).mono ?_
  rintro e w1 ⟨rfl,k1⟩
  have HK1:=hid ((((Keeps.refl (fun y=>w.heap.size≤y) w).alloc _).alloc _).trans k1.up)
  obtain⟨b0,b1,bf,bl⟩:=cells2 (block_keep (alloc_new' (n:=w.heap.size+1) (by simp)) k1 (fun h=>h))
  have bf0:=bf 0;have bf1:=bf 1
  have hl1:=k1.size
  simp only [World.size_alloc] at hl1
  clear k1 bf
  go_wp2_with fail
  refine bodyPost_ret_by (v:=.tuple #[.agg #[.int .i64 0,.int .u32 0],.int .i64 x]) (by simp [results,Tryz.results205,go_sem, *]) rfl ⟨rfl,?_⟩
  refine Keeps.fresh ?_
  repeat (first | (with_reducible exact HK1.out) | with_reducible refine Keeps.setCell ?_ ?_ _ | with_reducible refine Keeps.alloc ?_ _ | with_reducible refine Keeps.drewN ?_ _ | with_reducible refine Keeps.drew ?_)
  all_goals first | (left;simp;done) | (left;simp;omega) | (right;simp;done) | (right;simp;omega)
end
end Go.Proofs.YtnlkfbndlngjaaaGreat
namespace Go.Proofs.YtnlkfbndlngjaaaGreat
open Go.RowKit
set_option linter.unusedVariables false
set_option linter.unusedSimpArgs false
def slotA (t q:Bool) (g:Int) (o:Ob):Array Value:=#[.bool t,.bool q,.int .u32 g,.int .i64 o.n,.int .i64 o.f0.s,.int .u32 o.f0.g,.int .i64 o.f1.s,.int .u32 o.f1.g,.int .i64 o.f2.s,.int .u32 o.f2.g,.int .i64 o.f3.s,.int .u32 o.f3.g,.bool o.h]
section
variable {w w':World} {b r:Nat} {H:Hp}
theorem R14.news (h:R14 w b r H):∀ j u,(slotsL H.slot H.T.n)[j]?=some u→w.cell? ((⟨r,0,none⟩:Addr).add j)=some u:=by
 intro j u hu
 have hj:j<H.T.n * 13:=by
  have:=(List.getElem?_eq_some_iff.1 hu).1
  rwa [slotsL_len (slot_len H)] at this
 have h1:j / 13<H.T.n:=Nat.div_lt_of_lt_mul (by omega)
 have h2:j % 13<13:=Nat.mod_lt _ (by omega)
 have h3:j / 13 * 13+j % 13=j:=by omega
 rw [← h3,slotsL_get (slot_len H) _ _ _ h1 h2] at hu
 have:=h.cell h1 h2 hu
 rw [h3] at this
 rw [Addr.add_mid,Nat.zero_add]
 exact this
theorem slot_one (H:Hp) (i:Nat):∀ u∈H.slot i,u.oneCell'=true:=slotL_one _ _ _ _
theorem rowS_of {base n g cap:Nat} {f:Nat→List Value} {sz:Nat} {E:TypeId} (hf:∀ i,(f i).length=sz) (h:w.ownsRow base E sz (.slice (some ⟨g,0,none⟩) n cap) n (slotsL f n)):
 ∃ c,w.heap[g]?=some (.cells c E)∧n≤cap∧cap≤maxLen∧n * sz≤c.size∧∀ i j,i<n→j<sz→c[i * sz+j]?=(f i)[j]?:=by
 obtain⟨_,⟨h1,_⟩ | ⟨g',cap',cur,h1,h2,h3,h4,h5,h6,h7⟩⟩:=h
 ·cases h1
 ·injection h1 with e1 e2 e3
  obtain rfl:g=g':=by simpa using e1
  subst e3
  have hle:n * sz≤cur.size:=by rw [h6];exact Nat.mul_le_mul_right _ h4
  refine⟨cur,h3,h4,h5,hle,fun i j hi hj=>?_⟩
  have hij:i * sz+j<n * sz:=Nat.lt_of_lt_of_le (show i * sz+j<(i+1) * sz by rw [Nat.succ_mul];omega) (Nat.mul_le_mul_right sz hi)
  rw [← slotsL_get hf n i j hi hj,← h7,List.getElem?_take_of_lt hij]
  simp
theorem set14 (i:Nat) (t q:Bool) (g:Int) (o:Ob) {H':Hp} (h:R14 w b r H) (hi:i<H.T.n) (hn:H'.T.n=H.T.n) (ho:∀ j,j≠i→H'.slot j=H.slot j) (hs:H'.slot i=slotL t q g o) (hg:∀ j,(H'.ob j).Good) (hgn:∀ j,j<H'.T.n→1≤H'.T.gn j∧H'.T.gn j≤4294967295):
 Calls Tryz.prog 228 #[.pointer (some ⟨b,0,none⟩),.int .i64 i,.agg (slotA t q g o)] w fun e w'=>e = .returned (.tuple #[])∧Keeps (fun y=>y=b) w w'∧∃ r',w.heap.size≤r'∧R14 w' b r' H':=by
 obtain⟨cap,m1,m2,hsl⟩:=h.sl
 obtain⟨hlb,hlr⟩:=h.lt
 have n1:=h.n1;have n2:=h.n2
 obtain⟨ri,hi1,hi2,hi3,hi4⟩:=slot_info
 obtain⟨_,_,_,hown0⟩:=h.own
 have HB:=hid hown0
 obtain⟨n,hnn⟩:∃ n,H.T.n=n:=⟨_,rfl⟩
 have HNEWS:=hid (fun W (hk:Keeps (fun _=>False) w W)=>(h.keeps hk (fun h=>h) (fun h=>h)).news)
 rw [hnn] at hi hsl m1 n1 n2 HNEWS
 have HN:=hid hnn
 have HOWN:=hid (World.ownsRow_made (base:=w.heap.size) (e:=220) (size:=13) (w.alloc (.cells (slotA t q g o) 220)) #[] 0 (by simp) (by simp) rfl)
 have HMID:=hid (And.intro (Tryz.underlying220) (show (Tryz.prog.info? 220).map (·.size)=some 13 by rw [hi1];simp [hi3]))
 have HEND:=hid (And.intro hn (And.intro ho (And.intro hs (And.intro hg hgn))))
 have hi0:(0:Int)≤(i:Int):=by omega
 have hin:(i:Int)<n:=by omega
 clear h hown0 hnn hn ho hs hg hgn
 unfold maxLen at m2
 simp only [slotA] at HOWN ⊢
 go_enter Tryz.func228,Tryz.ntmps228
 go_wp2_with (first
  | (at_builtin;refine wpList_append_lies _ rfl _ _ 215 rfl w.heap.size 220 ri (.agg (slotL false false 0 (Ob.new 0 false)).toArray) 13 88 Tryz.underlying215 hi1 hi2 hi3 hi4 rfl (by decide) (.slice (some ⟨w.heap.size+1,0,none⟩) 0 0) 0 [] rfl (by simpa using HOWN.out) ⟨r,0,none⟩ n cap (slotsL H.slot n) rfl (by rw [slotsL_len (slot_len H)]) ?c1 ?c2 (by omega) ?c3 ?c4 ?c5 (w.heap.size+1+1) (by simp) ?_)
  | fail)
 case c1=>exact HNEWS.out _ (((Keeps.refl _ _).alloc _).alloc _)
 case c2=>exact slotsL_one (slot_one H) n
 case c3=>simp [maxLen];omega
 case c4=>omega
 case c5=>simp;omega
 intro g' cap' w3 hown3 hgr hat hlt
 have hgk:=grown_keeps hgr
 have hg0:w.heap.size<g':=by
  rcases hat with h | h
  ·simp [Value.ownBlock] at h;omega
  ·omega
 have K3:Keeps (fun _=>False) w w3:=Keeps.fresh ((((Keeps.refl (fun y=>w.heap.size≤y) w).alloc _).alloc _).trans' hgk (fun _ _ h=>h) (fun k hk h=>by simp [Value.ownBlock] at h;omega))
 have q0:=block_keep (alloc_old (alloc_new (w:=w))) hgk (fun h=>by simp [Value.ownBlock] at h)
 obtain⟨cur,hcur,k1,k2,k3,k4⟩:=rowS_of (slot_len H) (show w3.ownsRow w.heap.size 220 13 (.slice (some ⟨g',0,none⟩) n cap') n (slotsL H.slot n) by simpa using hown3)
 have qb:=block_keep HB.out K3 (fun h=>h)
 have hHT:w3.there g' (i * 13) 13:=fun j hj=>⟨by
  rw [cell_block hcur,Array.getElem?_eq_getElem (show i * 13+j<cur.size by have:(i+1) * 13≤n * 13:=Nat.mul_le_mul_right _ hi;omega)];rfl,frozen_block hcur _⟩
 have z0:=cell_at (i:=0) q0 rfl;have z1:=cell_at (i:=1) q0 rfl;have z2:=cell_at (i:=2) q0 rfl;have z3:=cell_at (i:=3) q0 rfl;have z4:=cell_at (i:=4) q0 rfl;have z5:=cell_at (i:=5) q0 rfl;have z6:=cell_at (i:=6) q0 rfl
 have z7:=cell_at (i:=7) q0 rfl;have z8:=cell_at (i:=8) q0 rfl;have z9:=cell_at (i:=9) q0 rfl;have z10:=cell_at (i:=10) q0 rfl;have z11:=cell_at (i:=11) q0 rfl;have z12:=cell_at (i:=12) q0 rfl
 have k1i:(n:Int)≤cap':=by omega
 have HTH:=hid hHT;have HCUR:=hid (And.intro hcur (And.intro k1 (And.intro k2 (And.intro k3 k4))));have HK3:=hid K3;have HQB:=hid qb
 have hlb3:=lt_block qb
 have hbg:b≠g':=by omega
 clear hHT hcur k1 k2 k3 k4 K3 qb hown3 hgr hgk hat q0
 have there:=fun j (hj:j<13)=>Option.isSome_iff_exists.1 (HTH.out j hj).1
 obtain⟨u0,t0⟩:=there 0 (by omega);obtain⟨u1,t1⟩:=there 1 (by omega);obtain⟨u2,t2⟩:=there 2 (by omega);obtain⟨u3,t3⟩:=there 3 (by omega);obtain⟨u4,t4⟩:=there 4 (by omega)
 obtain⟨u5,t5⟩:=there 5 (by omega);obtain⟨u6,t6⟩:=there 6 (by omega);obtain⟨u7,t7⟩:=there 7 (by omega);obtain⟨u8,t8⟩:=there 8 (by omega);obtain⟨u9,t9⟩:=there 9 (by omega)
 obtain⟨u10,t10⟩:=there 10 (by omega);obtain⟨u11,t11⟩:=there 11 (by omega);obtain⟨u12,t12⟩:=there 12 (by omega)
 have f0:=(HTH.out 0 (by omega)).2;have f1:=(HTH.out 1 (by omega)).2;have f2:=(HTH.out 2 (by omega)).2;have f3:=(HTH.out 3 (by omega)).2;have f4:=(HTH.out 4 (by omega)).2;have f5:=(HTH.out 5 (by omega)).2;have f6:=(HTH.out 6 (by omega)).2
 have f7:=(HTH.out 7 (by omega)).2;have f8:=(HTH.out 8 (by omega)).2;have f9:=(HTH.out 9 (by omega)).2;have f10:=(HTH.out 10 (by omega)).2;have f11:=(HTH.out 11 (by omega)).2;have f12:=(HTH.out 12 (by omega)).2
 rw [Nat.add_zero] at t0 f0
 clear there
 go_upto_region 3 with (fail)
 change Code.wp _ _ _ _ (w3.setCells g' (i * 13) (slotL t q g o))
 obtain⟨w4,hw4⟩:∃ w4,w3.setCells g' (i * 13) (slotL t q g o)=w4:=⟨_,rfl⟩
 have q4:=setL_block (slotL t q g o) (i * 13) w3 HCUR.out.1
 have k4:Keeps (fun y=>y=g') w3 w4:=by rw [← hw4];exact Keeps.setCells (S:=fun y=>y=g') (.inl rfl) _ _ _ (Keeps.refl _ _)
 rw [hw4] at q4 ⊢
 have qb:=block_keep HQB.out k4 hbg
 have b1:=cell_at (i:=1) qb rfl;have bf:=frozen_block qb 1;have bl:=lt_block qb
 have Q4:=hid q4;have K4:=hid k4;have QB4:=hid qb
 clear q4 k4 qb hw4 z0 z1 z2 z3 z4 z5 z6 z7 z8 z9 z10 z11 z12 t0 t1 t2 t3 t4 t5 t6 t7 t8 t9 t10 t11 t12 f0 f1 f2 f3 f4 f5 f6 f7 f8 f9 f10 f11 f12
 go_wp2_with fail
 go_end0
 obtain⟨e1,e2,e3,e4,e5⟩:=HEND.out
 have hn':H'.T.n=n:=by rw [e1];exact HN.out
 obtain⟨_,k1,k2,k3,k4⟩:=HCUR.out
 have kf:Keeps (fun y=>y=b) w w4:=(Keeps.fresh (HK3.out.up.trans' K4.out (U:=fun y=>w.heap.size≤y) (fun _ _ h=>h) (fun y _ h=>by omega))).up
 refine⟨rfl,kf.setCell (.inl rfl) _,g',by omega,⟨cap',by omega,k2,by rw [hn'];exact set_block QB4.out 1 _⟩,⟨_,set_oth Q4.out (Ne.symm hbg),fun i' j hi' hj=>?_⟩,by omega,by omega,e4,e5⟩
 rw [hn'] at hi'
 have h13:(i+1) * 13≤n * 13:=Nat.mul_le_mul_right _ hi
 rw [layL_get _ _ _ _ (by rw [slotL_len];omega),slotL_len]
 by_cases e:i'=i
 ·subst e
  rw [if_pos (by omega),e3,Nat.add_sub_cancel_left]
 ·rw [if_neg (by omega),k4 i' j hi' hj,e2 i' e]
end
end Go.Proofs.YtnlkfbndlngjaaaGreat
namespace Go.Proofs.YtnlkfbndlngjaaaGreat
open Go.RowKit
set_option linter.unusedVariables false
set_option linter.unusedSimpArgs false
theorem keeps_two (w:World) (B:Nat) (u v:Value):Keeps (fun y=>y=B) w ((w.setCell ⟨B,0,none⟩ u).setCell ⟨B,1,none⟩ v):=
 Keeps.setCell (S:=fun y=>y=B) (p:=⟨B,1,none⟩) (Keeps.setCell (S:=fun y=>y=B) (p:=⟨B,0,none⟩) (Keeps.refl _ _) (.inl rfl) _) (.inl rfl) _
theorem Tb.inn_nil {T:Tb} {s:Int}:∀ {n:Nat},T.inn s n=[]→∀ j,j<n→T.st j≠s
 | 0,_,j,hj=>by omega
 | n+1,h,j,hj=>by
  by_cases hs:T.st n=s
  ·rw [Tb.inn_yes hs] at h;simp at h
  ·rw [Tb.inn_no hs] at h
   rcases Nat.lt_succ_iff_lt_or_eq.1 hj with hj | rfl
   ·exact Tb.inn_nil h j hj
   ·exact hs
theorem Tb.inn_first {T:Tb} {s:Int} {i:Nat} {g:Int}:∀ {n:Nat} {q:List (Nat × Int)},T.inn s n=(i,g) :: q→i<n∧T.st i=s∧T.gn i=g∧∀ j,j<i→T.st j≠s
 | 0,q,h=>by simp [Tb.inn] at h
 | n+1,q,h=>by
  by_cases hs:T.st n=s
  ·rw [Tb.inn_yes hs] at h
   rcases hl:T.inn s n with _ | ⟨⟨i',g'⟩,q'⟩
   ·rw [hl] at h
    simp at h
    obtain⟨⟨rfl,rfl⟩,_⟩:=h
    exact⟨by omega,hs,rfl,Tb.inn_nil hl⟩
   ·rw [hl] at h
    simp at h
    obtain⟨⟨rfl,rfl⟩,_⟩:=h
    obtain⟨a,b⟩:=Tb.inn_first hl
    exact⟨by omega,b⟩
  ·rw [Tb.inn_no hs] at h
   obtain⟨a,b⟩:=Tb.inn_first h
   exact⟨by omega,b⟩
theorem upd_same (f:Nat→Int) (i:Nat) (x:Int):upd f i x i=x:=by simp [upd]
theorem upd_ne (f:Nat→Int) {i j:Nat} (x:Int) (h:j≠i):upd f i x j=f j:=by simp [upd,h]
theorem slot_put {H:Hp} {i:Nat} {s g:Int} {ob:Nat→Ob} (ho:∀ j,j≠i→ob j=H.ob j) {j:Nat} (hj:j≠i):(Hp.mk (H.T.put i s g) ob).slot j=H.slot j:=by
 have e1:(H.T.put i s g).st j=H.T.st j:=upd_ne _ _ hj
 have e2:(H.T.put i s g).gn j=H.T.gn j:=upd_ne _ _ hj
 simp only [Hp.slot,Hp.obx,e1,e2,ho j hj]
theorem slot_at {H:Hp} {i:Nat} {s g:Int} {ob:Nat→Ob}:(Hp.mk (H.T.put i s g) ob).slot i=slotL (s == 1) (!(s == 1) && !(s == 0)) g (if s=1 then ob i else Ob.new 0 false):=by
 have e1:(H.T.put i s g).st i=s:=upd_same _ _ _
 have e2:(H.T.put i s g).gn i=g:=upd_same _ _ _
 simp only [Hp.slot,Hp.obx,e1,e2]
theorem gn_put {H:Hp} {i:Nat} {s g:Int} (hgn:∀ j,j<H.T.n→1≤H.T.gn j∧H.T.gn j≤4294967295) (hg:1≤g∧g≤4294967295):∀ j,j<H.T.n→1≤(H.T.put i s g).gn j∧(H.T.put i s g).gn j≤4294967295:=by
 intro j hj
 by_cases e:j=i
 ·subst e;rw [show (H.T.put j s g).gn j=g from upd_same _ _ _];exact hg
 ·rw [show (H.T.put i s g).gn j=H.T.gn j from upd_ne _ _ e];exact hgn j hj
section
variable {w w':World} {b r:Nat} {H:Hp}
theorem make14 (n:Int) (hd:Bool) (i:Nat) (g:Int) (q:List (Nat × Int)) (h:R14 w b r H) (hk:okNew n hd) (hi:H.T.inn 0 H.T.n=(i,g) :: q):
 Calls Tryz.prog 199 #[.pointer (some ⟨b,0,none⟩),.int .i64 n,.bool hd] w fun e w'=>e = .returned (.tuple #[.agg #[.int .i64 i,.int .u32 g],.int .i64 0])∧Keeps (fun y=>y=b) w w'∧∃ r',w.heap.size≤r'∧R14 w' b r' (H.mk1 i g (Ob.new n hd)):=by
 obtain⟨hin,hst,hgn,hbef⟩:=Tb.inn_first hi
 have hgd:1≤g∧g≤4294967295:=by rw [← hgn];exact h.gn i hin
 have HN13:=hid (fun W=>new13_ok n hd W hk)
 have HV:=hid (fun W (hk:Keeps (fun _=>False) w W)=>h.keeps hk (fun h=>h) (fun h=>h))
 have HST:=hid (fun W (hW:R14 W b r H)=>set14 (H':=H.mk1 i g (Ob.new n hd)) i true false g (Ob.new n hd) hW hin rfl (fun j hj=>slot_put (fun j hj=>updf_ne _ _ hj) hj) (by rw [show (H.mk1 i g (Ob.new n hd)).slot i=_ from slot_at];simp [updf_same]) (fun j=>by
  show (updf H.ob i (Ob.new n hd) j).Good
  by_cases e:j=i
  ·rw [e,updf_same];exact Ob.new_good hk
  ·rw [updf_ne _ _ e];exact hW.good j) (gn_put hW.gn hgd))
 have n1:=h.n1;have n2:=h.n2
 have HBEF:=hid hbef
 have hlb:=h.lt.1
 have HSTI:=hid (And.intro hst hgn)
 obtain⟨m,hm⟩:∃ m,H.T.n=m:=⟨_,rfl⟩
 rw [hm] at hin n1 n2
 have HM:=hid hm
 clear h hk hi hst hgn hbef hm
 simp only [slotA,Ob.new,Rf.no,Ob.arr] at HST HN13
 go_enter Tryz.func199,Tryz.ntmps199
 go_wp2_with fail
 refine (valid14 b _ (HV.out _ ((Keeps.refl _ _).alloc _)).made).mono ?_
 rintro e w' ⟨rfl,h'⟩
 obtain rfl:=h'.symm
 go_wp2_with fail
 refine (HN13.out _).mono ?_
 rintro e w1 ⟨rfl,k1⟩
 have K1:Keeps (fun _=>False) w w1:=((Keeps.refl _ _).alloc _).trans k1
 have h1:=HV.out w1 K1
 obtain⟨cap,m1,m2,hsl⟩:=h1.sl
 rw [HM.out] at m1 hsl
 unfold maxLen at m2
 obtain⟨hb1,hr1⟩:=h1.lt
 have HQ0:=hid (block_keep (alloc_new (w:=w)) k1 (fun h=>h))
 have HK1:=hid K1
 have H1:=hid h1
 have hlw:=lt_block HQ0.out
 clear K1 h1 k1
 go_wp2_with fail
 go_loop [10] (fun ix=>∃ k:Nat,k≤i∧ix = .int .i64 k) (fun ix=>i+1 - (intOf ix).toNat)
 case atStart=>exact⟨0,by omega,rfl⟩
 case round=>
  obtain⟨k,hk,rfl⟩:=hrel
  have hk0:(0:Int)≤k:=by omega
  have hkm:k<m:=by omega
  have hkm':(k:Int)<m:=by omega
  have c0:=H1.out.c0 (i:=k) (by rw [HM.out];exact hkm)
  have c1:=H1.out.c1 (i:=k) (by rw [HM.out];exact hkm)
  by_cases hki:k<i
  ·have hs:=HBEF.out k hki
   rcases hs1:(H.T.st k == 1) with _ | _
   ·have hs0:(H.T.st k == 0)=false:=by simpa using hs
    rw [hs1] at c0 c1
    rw [hs0] at c1
    simp only [Bool.not_false,Bool.and_self] at c1
    clear hs hs0 hs1
    go_wp2_with fail
    go_round
    case rel=>exact⟨k+1,by omega,by go_num⟩
    case measure=>simp [intOf];omega
   ·rw [hs1] at c0
    clear hs hs1 c1
    go_wp2_with fail
    go_round
    case rel=>exact⟨k+1,by omega,by go_num⟩
    case measure=>simp [intOf];omega
  ·obtain rfl:k=i:=by omega
   have c2:=H1.out.c2 (i:=k) (by rw [HM.out];exact hkm)
   obtain⟨s1,s2⟩:=HSTI.out
   rw [s1] at c0 c1
   rw [s2] at c2
   simp only [show ((0:Int) == 1)=false from rfl,show ((0:Int) == 0)=true from rfl,Bool.not_false,Bool.not_true,Bool.and_false] at c0 c1
   clear s1 s2
   go_wp2_with fail
   refine (HST.out _ (H1.out.keeps (S:=fun _=>False) ((Keeps.refl _ _).alloc _) (fun h=>h) (fun h=>h))).mono ?_
   rintro e w3 ⟨rfl,k3,r',hr',h3⟩
   have q0:=block_keep (alloc_old HQ0.out) k3 (by omega)
   obtain⟨b0,b1,bf,bl⟩:=cells2 q0
   have bf0:=bf 0;have bf1:=bf 1
   have KF:=hid ((HK1.out.alloc (.cells #[.int .i64 n,.int .i64 0,.int .u32 0,.int .i64 0,.int .u32 0,.int .i64 0,.int .u32 0,.int .i64 0,.int .u32 0,.bool hd] 218)).up.trans k3)
   have H3:=hid h3;have HR:=hid hr'
   clear k3 hr' h3 bf q0 c0 c1 c2
   go_wp2_with fail
   have hne:b≠w.heap.size:=by omega
   have hr:=HR.out
   simp only [World.size_alloc] at hr
   refine bodyPost_ret_by (v:=.tuple #[.agg #[.int .i64 k,.int .u32 g],.int .i64 0]) (by simp [results,Tryz.results199,go_sem, *]) rfl ⟨rfl,?_,r',by omega,?_⟩
   ·exact (Keeps.setCell (Keeps.setCell KF.out (.inr (Nat.le_refl _)) _) (.inr (Nat.le_refl _)) _)
   ·exact H3.out.keeps (keeps_two _ _ _ _) hne (by omega)
theorem free14_bad (q:Rf) (h:R14 w b r H) (hc:ckV H.T q.s q.g≠0):
 Calls Tryz.prog 148 #[.pointer (some ⟨b,0,none⟩),.agg #[.int .i64 q.s,.int .u32 q.g]] w fun e w'=>e = .returned (.int .i64 (ckV H.T q.s q.g))∧Keeps (fun _=>False) w w':=by
 have HC:=hid (fun o=>check14 q.s q.g (h.keeps (S:=fun _=>False) ((Keeps.refl _ _).alloc o) (fun h=>h) (fun h=>h)))
 obtain⟨x,hx⟩:∃ x,ckV H.T q.s q.g=x:=⟨_,rfl⟩
 rw [hx] at HC hc ⊢
 have hx0:(x != 0)=true:=by simpa using hc
 clear h hx hc
 go_enter Tryz.func148,Tryz.ntmps148
 go_wp2_with fail
 refine (HC.out _).mono ?_
 rintro e w1 ⟨rfl,k1⟩
 have HK:=hid (Keeps.trans ((Keeps.refl (fun _=>False) w).alloc _) k1)
 clear k1
 go_wp2_with fail
 go_ret
 exact⟨rfl,HK.out⟩
theorem Hp.free_slot {H:Hp} {i:Nat}:(H.T.gn i<4294967295→(H.free i).slot i=slotL false false (H.T.gn i+1) (Ob.new 0 false))∧(¬ H.T.gn i<4294967295→(H.free i).slot i=slotL false true (H.T.gn i) (Ob.new 0 false))∧∀ j,j≠i→(H.free i).slot j=H.slot j:=by
 refine⟨fun h=>?_,fun h=>?_,fun j hj=>?_⟩
 ·have e:H.free i=⟨H.T.put i 0 (H.T.gn i+1),updf H.ob i (Ob.new 0 false)⟩:=by unfold Hp.free Tb.give;rw [if_pos h]
  rw [e,slot_at];simp
 ·have e:H.free i=⟨H.T.put i 2 (H.T.gn i),updf H.ob i (Ob.new 0 false)⟩:=by unfold Hp.free Tb.give;rw [if_neg h]
  rw [e,slot_at];simp
 ·unfold Hp.free Tb.give
  split <;> exact slot_put (fun j hj=>updf_ne _ _ hj) hj
theorem Hp.free_gn {H:Hp} {i:Nat} (hgn:∀ j,j<H.T.n→1≤H.T.gn j∧H.T.gn j≤4294967295) (hi:i<H.T.n):∀ j,j<(H.free i).T.n→1≤(H.free i).T.gn j∧(H.free i).T.gn j≤4294967295:=by
 intro j hj
 rw [show (H.free i).T.n=H.T.n from Tb.give_n _ _] at hj
 have hg:=hgn i hi
 unfold Hp.free Tb.give
 split
 ·exact gn_put hgn ⟨by omega,by omega⟩ j hj
 ·exact gn_put hgn hg j hj
theorem free14_ok (i:Nat) (g:Int) (h:R14 w b r H) (hc:ckV H.T i g=0):
 Calls Tryz.prog 148 #[.pointer (some ⟨b,0,none⟩),.agg #[.int .i64 i,.int .u32 g]] w fun e w'=>e = .returned (.int .i64 0)∧Keeps (fun y=>y=b) w w'∧∃ r',w.heap.size≤r'∧R14 w' b r' (H.free i):=by
 obtain⟨j,hj,hkn,hst,hgn⟩:=ckV_ok hc
 obtain rfl:i=j:=by omega
 have HC:=hid (fun o=>check14 i g (h.keeps (S:=fun _=>False) ((Keeps.refl _ _).alloc o) (fun h=>h) (fun h=>h)))
 rw [hc] at HC
 have hgood:∀ j,((H.free i).ob j).Good:=fun j=>by
  show (updf H.ob i (Ob.new 0 false) j).Good
  by_cases e:j=i
  ·rw [e,updf_same];exact Ob.new_good ⟨by decide,by decide,fun h=>by cases h⟩
  ·rw [updf_ne _ _ e];exact h.good j
 have HV:=hid (fun W (hk:Keeps (fun _=>False) w W)=>h.keeps hk (fun h=>h) (fun h=>h))
 have hgg:=h.gn i hkn
 rw [hgn] at hgg
 obtain⟨f1,f2,f3⟩:=Hp.free_slot (H:=H) (i:=i)
 rw [hgn] at f1 f2
 have hfg:=Hp.free_gn h.gn hkn
 have hlb:=h.lt.1
 by_cases hm:g<4294967295
 ·have HST:=hid (fun W (hW:R14 W b r H)=>set14 i false false (g+1) (Ob.new 0 false) hW hkn (Tb.give_n _ _) f3 (f1 hm) hgood hfg)
  have hm':(g == 4294967295)=false:=by simp;omega
  clear f1 f2 f3 hfg hgood h hc hst hgn hj hkn
  simp only [slotA,Ob.new,Rf.no] at HST
  go_enter Tryz.func148,Tryz.ntmps148
  go_wp2_with fail
  refine (HC.out _).mono ?_
  rintro e w1 ⟨rfl,k1⟩
  have K1:=hid (Keeps.trans ((Keeps.refl (fun _=>False) w).alloc _) k1)
  obtain⟨b0,b1,bf,bl⟩:=cells2 (block_keep (alloc_new (w:=w)) k1 (fun h=>h))
  clear k1 bf
  go_wp2_with fail
  refine (HST.out _ (HV.out _ K1.out)).mono ?_
  rintro e w3 ⟨rfl,k3,r',hr',h3⟩
  have KF:=hid (K1.out.up.trans k3);have H3:=hid h3;have HR:=hid (Nat.le_trans K1.out.size hr')
  clear k3 hr' h3 b0 b1
  go_wp2_with fail
  go_ret
  exact⟨rfl,KF.out,r',HR.out,H3.out⟩
 ·have HST:=hid (fun W (hW:R14 W b r H)=>set14 i false true g (Ob.new 0 false) hW hkn (Tb.give_n _ _) f3 (f2 hm) hgood hfg)
  have hm':(g == 4294967295)=true:=by simp;omega
  clear f1 f2 f3 hfg hgood h hc hst hgn hj hkn
  simp only [slotA,Ob.new,Rf.no] at HST
  go_enter Tryz.func148,Tryz.ntmps148
  go_wp2_with fail
  refine (HC.out _).mono ?_
  rintro e w1 ⟨rfl,k1⟩
  have K1:=hid (Keeps.trans ((Keeps.refl (fun _=>False) w).alloc _) k1)
  obtain⟨b0,b1,bf,bl⟩:=cells2 (block_keep (alloc_new (w:=w)) k1 (fun h=>h))
  clear k1 bf
  go_wp2_with fail
  refine (HST.out _ (HV.out _ K1.out)).mono ?_
  rintro e w3 ⟨rfl,k3,r',hr',h3⟩
  have KF:=hid (K1.out.up.trans k3);have H3:=hid h3;have HR:=hid (Nat.le_trans K1.out.size hr')
  clear k3 hr' h3 b0 b1
  go_wp2_with fail
  go_ret
  exact⟨rfl,KF.out,r',HR.out,H3.out⟩
end
end Go.Proofs.YtnlkfbndlngjaaaGreat
namespace Go.Proofs.YtnlkfbndlngjaaaGreat
open Go.RowKit
set_option linter.unusedVariables false
set_option linter.unusedSimpArgs false
section
variable {w w':World} {b r:Nat} {H:Hp}
structure Trs (w W:World) (q v:Rf):Prop where
 k:Keeps (fun _=>False) w W
 a:W.heap[w.heap.size]?=some (.cells #[.int .i64 q.s,.int .u32 q.g] 34)
 b:W.heap[w.heap.size+1]?=some (.cells #[.int .i64 v.s,.int .u32 v.g] 34)
 c:W.heap[w.heap.size+2]?=some (.cells #[.int .i64 0,.int .u32 0] 34)
theorem Trs.same {W W':World} {q v:Rf} (h:Trs w W q v) (hk:Keeps (fun _=>False) W W'):Trs w W' q v:=
 ⟨h.k.trans hk,block_keep h.a hk (fun h=>h),block_keep h.b hk (fun h=>h),block_keep h.c hk (fun h=>h)⟩
theorem Trs.mk0 (w:World) (q v:Rf):Trs w (((w.alloc (.cells #[.int .i64 q.s,.int .u32 q.g] 34)).alloc (.cells #[.int .i64 v.s,.int .u32 v.g] 34)).alloc (.cells #[.int .i64 0,.int .u32 0] 34)) q v:=
 ⟨(((Keeps.refl _ _).alloc _).alloc _).alloc _,alloc_old (alloc_old alloc_new),alloc_old (alloc_new' (by simp)),alloc_new' (by simp)⟩
theorem Trs.kb {W W':World} {q v:Rf} (h:Trs w W q v) (hk:Keeps (fun y=>y=b) W W') (hb:b<w.heap.size):W'.heap[w.heap.size+2]?=some (.cells #[.int .i64 0,.int .u32 0] 34):=block_keep h.c hk (by omega)
theorem store14_1 (q:Rf) (i:Int) (v:Rf) (h:R14 w b r H) (hc:ckV H.T q.s q.g≠0):
 Calls Tryz.prog 207 #[.pointer (some ⟨b,0,none⟩),.agg #[.int .i64 q.s,.int .u32 q.g],.int .i64 i,.agg #[.int .i64 v.s,.int .u32 v.g]] w fun e w'=>e = .returned (.tuple #[Rf.no.val,.int .i64 (ckV H.T q.s q.g)])∧Keeps (fun _=>False) w w':=by
 obtain⟨w0,hw0⟩:∃ w0,((w.alloc (.cells #[.int .i64 q.s,.int .u32 q.g] 34)).alloc (.cells #[.int .i64 v.s,.int .u32 v.g] 34)).alloc (.cells #[.int .i64 0,.int .u32 0] 34)=w0:=⟨_,rfl⟩
 have T0:=hid (show Trs w w0 q v from by rw [← hw0];exact Trs.mk0 w q v)
 have HW0:=hid hw0
 obtain⟨a0,a1,_,al⟩:=cells2 T0.out.a
 have HO:=hid (object14_bad q.s q.g (h.keeps T0.out.k (fun h=>h) (fun h=>h)) hc)
 obtain⟨x,hx⟩:∃ x,ckV H.T q.s q.g=x:=⟨_,rfl⟩
 rw [hx] at HO hc ⊢
 have hx0:(x != 0)=true:=by simpa using hc
 clear h hx hc hw0
 simp only [Rf.val,Rf.no,Ob.arr,Ob.new] at HO ⊢
 go_enter Tryz.func207,Tryz.ntmps207
 go_upto_region 1 with (fail)
 rw [HW0.out]
 go_wp2_with fail
 refine HO.out.mono ?_
 rintro e w1 ⟨rfl,k1⟩
 have T1:=hid (T0.out.same k1)
 obtain⟨c0,c1,cf,cl⟩:=cells2 T1.out.c
 have cf0:=cf 0;have cf1:=cf 1
 clear k1 cf a0 a1 al
 go_wp2_with fail
 refine bodyPost_ret_by (v:=.tuple #[.agg #[.int .i64 0,.int .u32 0],.int .i64 x]) (by simp [results,Tryz.results207,go_sem, *]) rfl ⟨rfl,?_⟩
 refine Keeps.fresh ?_
 repeat (first | (with_reducible exact T1.out.k.up) | with_reducible refine Keeps.setCell ?_ ?_ _ | with_reducible refine Keeps.alloc ?_ _ | with_reducible refine Keeps.drewN ?_ _ | with_reducible refine Keeps.drew ?_)
 all_goals first | (left;simp;done) | (left;simp;omega) | (right;simp;done) | (right;simp;omega)
theorem store14_2 (k:Nat) (q:Rf) (i:Int) (v:Rf) (h:R14 w b r H) (hq:q.s=k) (hc:ckV H.T q.s q.g=0) (hi:i<0∨(H.ob k).n≤i):
 Calls Tryz.prog 207 #[.pointer (some ⟨b,0,none⟩),.agg #[.int .i64 q.s,.int .u32 q.g],.int .i64 i,.agg #[.int .i64 v.s,.int .u32 v.g]] w fun e w'=>e = .returned (.tuple #[Rf.no.val,.int .i64 3])∧Keeps (fun _=>False) w w':=by
 obtain⟨w0,hw0⟩:∃ w0,((w.alloc (.cells #[.int .i64 q.s,.int .u32 q.g] 34)).alloc (.cells #[.int .i64 v.s,.int .u32 v.g] 34)).alloc (.cells #[.int .i64 0,.int .u32 0] 34)=w0:=⟨_,rfl⟩
 have T0:=hid (show Trs w w0 q v from by rw [← hw0];exact Trs.mk0 w q v)
 have HW0:=hid hw0
 obtain⟨a0,a1,_,al⟩:=cells2 T0.out.a
 have HO:=hid (object14_ok k q.g (h.keeps T0.out.k (fun h=>h) (fun h=>h)) (by rw [← hq];exact hc))
 have HG:=hid (fun W=>get13 (H.ob k) i W (h.good k))
 have hg:(H.ob k).getC i=(.no,3):=by unfold Ob.getC;rw [if_pos hi]
 rw [hg] at HG
 rw [hq] at HW0 a0 ⊢
 obtain⟨O,hO⟩:∃ O,H.ob k=O:=⟨_,rfl⟩
 rw [hO] at HO HG
 clear h hc hw0 hi hg hq hO
 simp only [Rf.val,Rf.no,Ob.arr] at HO HG ⊢
 go_enter Tryz.func207,Tryz.ntmps207
 go_upto_region 1 with (fail)
 rw [HW0.out]
 go_wp2_with fail
 refine HO.out.mono ?_
 rintro e w1 ⟨rfl,k1⟩
 have T1:=hid (T0.out.same k1)
 have hl1:=lt_block T1.out.c
 clear k1 a0 a1 al
 go_wp2_with fail
 refine (HG.out _).mono ?_
 rintro e w2 ⟨rfl,k2⟩
 have T2:=hid ((T1.out.same ((Keeps.refl _ _).alloc _)).same k2)
 obtain⟨c0,c1,cf,cl⟩:=cells2 T2.out.c
 have cf0:=cf 0;have cf1:=cf 1
 clear k2 cf
 go_wp2_with fail
 refine bodyPost_ret_by (v:=.tuple #[.agg #[.int .i64 0,.int .u32 0],.int .i64 3]) (by simp [results,Tryz.results207,go_sem, *]) rfl ⟨rfl,?_⟩
 refine Keeps.fresh ?_
 repeat (first | (with_reducible exact T2.out.k.up) | with_reducible refine Keeps.setCell ?_ ?_ _ | with_reducible refine Keeps.alloc ?_ _ | with_reducible refine Keeps.drewN ?_ _ | with_reducible refine Keeps.drew ?_)
 all_goals first | (left;simp;done) | (left;simp;omega) | (right;simp;done) | (right;simp;omega)
theorem store14_3 (k i:Nat) (q v:Rf) (h:R14 w b r H) (hq:q.s=k) (hc:ckV H.T q.s q.g=0) (hi:(i:Int)<(H.ob k).n) (hz:v.nz=true) (hcv:ckV H.T v.s v.g≠0):
 Calls Tryz.prog 207 #[.pointer (some ⟨b,0,none⟩),.agg #[.int .i64 q.s,.int .u32 q.g],.int .i64 i,.agg #[.int .i64 v.s,.int .u32 v.g]] w fun e w'=>e = .returned (.tuple #[Rf.no.val,.int .i64 (ckV H.T v.s v.g)])∧Keeps (fun _=>False) w w':=by
 obtain⟨w0,hw0⟩:∃ w0,((w.alloc (.cells #[.int .i64 q.s,.int .u32 q.g] 34)).alloc (.cells #[.int .i64 v.s,.int .u32 v.g] 34)).alloc (.cells #[.int .i64 0,.int .u32 0] 34)=w0:=⟨_,rfl⟩
 have T0:=hid (show Trs w w0 q v from by rw [← hw0];exact Trs.mk0 w q v)
 have HW0:=hid hw0
 obtain⟨a0,a1,_,al⟩:=cells2 T0.out.a
 have HO:=hid (object14_ok k q.g (h.keeps T0.out.k (fun h=>h) (fun h=>h)) (by rw [← hq];exact hc))
 have HG:=hid (fun W=>get13 (H.ob k) i W (h.good k))
 have hg:(H.ob k).getC i=((H.ob k).fs i,0):=by unfold Ob.getC;rw [if_neg (by omega)];simp
 rw [hg] at HG
 have HCV:=hid (fun W (hk:Keeps (fun _=>False) w W)=>check14 v.s v.g (h.keeps hk (fun h=>h) (fun h=>h)))
 have hneq:=fun W=>neq_ref W v.s v.g 0 0
 rw [show (!(v.s == 0 && v.g == 0))=true from hz] at hneq
 rw [hq] at HW0 a0 ⊢
 obtain⟨x,hx⟩:∃ x,ckV H.T v.s v.g=x:=⟨_,rfl⟩
 rw [hx] at HCV hcv ⊢
 have hx0:(x != 0)=true:=by simpa using hcv
 obtain⟨O,hO⟩:∃ O,H.ob k=O:=⟨_,rfl⟩
 rw [hO] at HO HG
 obtain⟨⟨us,ug⟩,hu⟩:∃ u,O.fs i=u:=⟨_,rfl⟩
 rw [hu] at HG
 clear h hc hw0 hi hg hq hO hz hx hcv hu
 simp only [Rf.val,Rf.no,Ob.arr] at HO HG ⊢
 go_enter Tryz.func207,Tryz.ntmps207
 go_upto_region 1 with (fail)
 rw [HW0.out]
 go_wp2_with fail
 refine HO.out.mono ?_
 rintro e w1 ⟨rfl,k1⟩
 have T1:=hid (T0.out.same k1)
 have hl1:=lt_block T1.out.c
 clear k1 a0 a1 al
 go_wp2_with fail
 refine (HG.out _).mono ?_
 rintro e w2 ⟨rfl,k2⟩
 have T2:=hid ((T1.out.same ((Keeps.refl _ _).alloc _)).same k2)
 obtain⟨b0,b1,_,bl⟩:=cells2 T2.out.b
 clear k2
 go_wp2_with fail
 refine (HCV.out _ (T2.out.k.alloc _)).mono ?_
 rintro e w3 ⟨rfl,k3⟩
 have T3:=hid ((T2.out.same ((Keeps.refl _ _).alloc _)).same k3)
 obtain⟨c0,c1,cf,cl⟩:=cells2 T3.out.c
 have cf0:=cf 0;have cf1:=cf 1
 clear k3 cf b0 b1 bl
 go_wp2_with fail
 refine bodyPost_ret_by (v:=.tuple #[.agg #[.int .i64 0,.int .u32 0],.int .i64 x]) (by simp [results,Tryz.results207,go_sem, *]) rfl ⟨rfl,?_⟩
 refine Keeps.fresh ?_
 repeat (first | (with_reducible exact T3.out.k.up) | with_reducible refine Keeps.setCell ?_ ?_ _ | with_reducible refine Keeps.alloc ?_ _ | with_reducible refine Keeps.drewN ?_ _ | with_reducible refine Keeps.drew ?_)
 all_goals first | (left;simp;done) | (left;simp;omega) | (right;simp;done) | (right;simp;omega)
theorem setF_slot {H:Hp} {k i:Nat} {v:Rf} (hst:H.T.st k=1):(H.setF k i v).slot k=slotL true false (H.T.gn k) ((H.ob k).set i v)∧∀ j,j≠k→(H.setF k i v).slot j=H.slot j:=by
 refine⟨?_,fun j hj=>?_⟩
 ·show slotL (H.T.st k == 1) (!(H.T.st k == 1) && !(H.T.st k == 0)) (H.T.gn k) (if H.T.st k=1 then updf H.ob k _ k else _)=_
  rw [hst,if_pos rfl,updf_same];rfl
 ·show slotL (H.T.st j == 1) _ (H.T.gn j) (if H.T.st j=1 then updf H.ob k _ j else _)=slotL _ _ _ (if H.T.st j=1 then H.ob j else _)
  rw [updf_ne _ _ hj];rfl
theorem store14_4 (k i:Nat) (q v:Rf) (h:R14 w b r H) (hq:q.s=k) (hc:ckV H.T q.s q.g=0) (hi:(i:Int)<(H.ob k).n) (hcv:v.nz=true→ckV H.T v.s v.g=0) (hb:v.bad=false) (hw:v.Wf):
 Calls Tryz.prog 207 #[.pointer (some ⟨b,0,none⟩),.agg #[.int .i64 q.s,.int .u32 q.g],.int .i64 i,.agg #[.int .i64 v.s,.int .u32 v.g]] w fun e w'=>e = .returned (.tuple #[((H.ob k).fs i).val,.int .i64 0])∧Keeps (fun y=>y=b) w w'∧∃ r',w.heap.size≤r'∧R14 w' b r' (H.setF k i v):=by
 obtain⟨w0,hw0⟩:∃ w0,((w.alloc (.cells #[.int .i64 q.s,.int .u32 q.g] 34)).alloc (.cells #[.int .i64 v.s,.int .u32 v.g] 34)).alloc (.cells #[.int .i64 0,.int .u32 0] 34)=w0:=⟨_,rfl⟩
 have T0:=hid (show Trs w w0 q v from by rw [← hw0];exact Trs.mk0 w q v)
 have HW0:=hid hw0
 obtain⟨a0,a1,_,al⟩:=cells2 T0.out.a
 obtain⟨k',hk',hkn,hst,hgn⟩:=ckV_ok hc
 obtain rfl:k=k':=by omega
 have HO:=hid (object14_ok k q.g (h.keeps T0.out.k (fun h=>h) (fun h=>h)) (by rw [← hq];exact hc))
 have HG:=hid (fun W=>get13 (H.ob k) i W (h.good k))
 have hg:(H.ob k).getC i=((H.ob k).fs i,0):=by unfold Ob.getC;rw [if_neg (by omega)];simp
 rw [hg] at HG
 have HCV:=hid (fun W (hk:Keeps (fun _=>False) w W)=>check14 v.s v.g (h.keeps hk (fun h=>h) (fun h=>h)))
 have HS:=hid (fun W=>set13 (H.ob k) i v W (h.good k) hi hb)
 obtain⟨f1,f2⟩:=setF_slot (H:=H) (k:=k) (i:=i) (v:=v) hst
 rw [hgn] at f1
 have HST:=hid (fun W (hk:Keeps (fun _=>False) w W)=>set14 k true false q.g ((H.ob k).set i v) (H':=H.setF k i v) (h.keeps hk (fun h=>h) (fun h=>h)) hkn rfl f2 f1 (fun j=>by
  show (updf H.ob k ((H.ob k).set i v) j).Good
  by_cases e:j=k
  ·rw [e,updf_same];exact Ob.set_good (h.good k) hi hb hw
  ·rw [updf_ne _ _ e];exact h.good j) h.gn)
 have hbl:=h.lt.1
 rw [hq] at HW0 a0 ⊢
 have HQK:=hid hq
 have hcase:(v.nz=true∧ckV H.T v.s v.g=0)∨v.nz=false:=by
  rcases hz:v.nz with _ | _
  ·exact .inr rfl
  ·exact .inl ⟨rfl,hcv hz⟩
 obtain⟨x,hx⟩:∃ x,ckV H.T v.s v.g=x:=⟨_,rfl⟩
 rw [hx] at HCV hcase
 obtain⟨O,hO⟩:∃ O,H.ob k=O:=⟨_,rfl⟩
 obtain⟨O',hO'⟩:∃ O',O.set i v=O':=⟨_,rfl⟩
 rw [hO] at HO HG HS HST ⊢
 rw [hO'] at HS HST
 obtain⟨⟨us,ug⟩,hu⟩:∃ u,O.fs i=u:=⟨_,rfl⟩
 rw [hu] at HG HS ⊢
 clear h hc hw0 hi hg hq hO hO' hx hcv hu hb hw hkn hst hgn f1 f2 hk'
 simp only [Rf.val,Rf.no,Ob.arr,slotA] at HO HG HS HST ⊢
 have hneq:=fun W=>neq_ref W v.s v.g 0 0
 rcases hcase with⟨hz,hx0⟩ | hz
 ·rw [show (!(v.s == 0 && v.g == 0))=true from hz] at hneq
  subst hx0
  clear hz
  go_enter Tryz.func207,Tryz.ntmps207
  go_upto_region 1 with (fail)
  rw [HW0.out]
  go_wp2_with fail
  refine HO.out.mono ?_
  rintro e w1 ⟨rfl,k1⟩
  have T1:=hid (T0.out.same k1)
  have hl1:=lt_block T1.out.c
  clear k1 a0 a1 al
  go_wp2_with fail
  refine (HG.out _).mono ?_
  rintro e w2 ⟨rfl,k2⟩
  have T2:=hid ((T1.out.same ((Keeps.refl _ _).alloc _)).same k2)
  have QO:=hid (block_keep (alloc_new (w:=w1)) k2 (fun h=>h))
  obtain⟨b0,b1,_,bl⟩:=cells2 T2.out.b
  have hl2:=k2.size
  simp only [World.size_alloc] at hl2
  clear k2
  go_wp2_with fail
  refine (HCV.out _ (T2.out.k.alloc _)).mono ?_
  rintro e w3 ⟨rfl,k3⟩
  have T3:=hid ((T2.out.same ((Keeps.refl _ _).alloc _)).same k3)
  have QO3:=hid (block_keep (alloc_old QO.out) k3 (fun h=>h))
  have QW:=hid (block_keep (alloc_new (w:=w2)) k3 (fun h=>h))
  clear k3 b0 b1 bl hl1 hl2 QO
  obtain⟨o0,o1,o2,o3,o4,o5,o6,o7,o8,o9,_,ol⟩:=cells10 QO3.out
  obtain⟨b0,b1,_,bl⟩:=cells2 T3.out.b
  go_wp2_with fail
  refine (HS.out _).mono ?_
  rintro e w4 ⟨rfl,k4⟩
  have T4:=hid (T3.out.same k4)
  have QW4:=hid (block_keep QW.out k4 (fun h=>h))
  obtain⟨a0,a1,_,al⟩:=cells2 T4.out.a
  rw [HQK.out] at a0
  have hl4:=k4.size
  clear k4 o0 o1 o2 o3 o4 o5 o6 o7 o8 o9 ol b0 b1 bl QO3 QW
  go_wp2_with fail
  refine (HST.out _ ((T4.out.k.alloc _).alloc _)).mono ?_
  rintro e w5 ⟨rfl,k5,r',hr',h5⟩
  have hlw:=lt_block QW4.out
  have q5:=block_keep (alloc_old (alloc_old QW4.out)) k5 (by have:=T2.out.k.size;omega)
  obtain⟨u0,u1,_,ul⟩:=cells2 q5
  obtain⟨c0,c1,cf,cl⟩:=cells2 (((T4.out.same ((Keeps.refl _ _).alloc _)).same ((Keeps.refl _ _).alloc _)).kb k5 hbl)
  have cf0:=cf 0;have cf1:=cf 1
  have KF:=hid (((T4.out.k.alloc _).alloc _).up.trans k5)
  have HR:=hid (show w.heap.size+2<r' from by have:=lt_block T4.out.c;simp only [World.size_alloc] at hr';omega)
  have H5:=hid h5;have T5:=hid (T4.out)
  clear k5 hr' h5 cf q5 hlw a0 a1 al hl4
  go_wp2_with fail
  refine bodyPost_ret_by (v:=.tuple #[.agg #[.int .i64 us,.int .u32 ug],.int .i64 0]) (by simp [results,Tryz.results207,go_sem, *]) rfl ⟨rfl,?_,r',by have:=HR.out;omega,?_⟩
  ·repeat (first | (with_reducible exact KF.out) | with_reducible refine Keeps.setCell ?_ ?_ _ | with_reducible refine Keeps.alloc ?_ _ | with_reducible refine Keeps.drewN ?_ _ | with_reducible refine Keeps.drew ?_)
   all_goals first | (left;simp;done) | (left;simp;omega) | (right;simp;done) | (right;simp;omega)
  ·exact H5.out.keeps (keeps_two _ _ _ _) (by omega) (by have:=HR.out;omega)
 ·rw [show (!(v.s == 0 && v.g == 0))=false from hz] at hneq
  clear hz HCV
  go_enter Tryz.func207,Tryz.ntmps207
  go_upto_region 1 with (fail)
  rw [HW0.out]
  go_wp2_with fail
  refine HO.out.mono ?_
  rintro e w1 ⟨rfl,k1⟩
  have T1:=hid (T0.out.same k1)
  have hl1:=lt_block T1.out.c
  clear k1 a0 a1 al
  go_wp2_with fail
  refine (HG.out _).mono ?_
  rintro e w2 ⟨rfl,k2⟩
  have T2:=hid ((T1.out.same ((Keeps.refl _ _).alloc _)).same k2)
  have QO:=hid (block_keep (alloc_new (w:=w1)) k2 (fun h=>h))
  obtain⟨b0,b1,_,bl⟩:=cells2 T2.out.b
  obtain⟨o0,o1,o2,o3,o4,o5,o6,o7,o8,o9,_,ol⟩:=cells10 QO.out
  clear k2 hl1
  go_wp2_with fail
  refine (HS.out _).mono ?_
  rintro e w4 ⟨rfl,k4⟩
  have T4:=hid ((T2.out.same ((Keeps.refl _ _).alloc _)).same k4)
  have QW4:=hid (block_keep (alloc_new (w:=w2)) k4 (fun h=>h))
  obtain⟨a0,a1,_,al⟩:=cells2 T4.out.a
  rw [HQK.out] at a0
  have hl4:=k4.size
  simp only [World.size_alloc] at hl4
  clear k4 o0 o1 o2 o3 o4 o5 o6 o7 o8 o9 ol b0 b1 bl QO
  go_wp2_with fail
  refine (HST.out _ ((T4.out.k.alloc _).alloc _)).mono ?_
  rintro e w5 ⟨rfl,k5,r',hr',h5⟩
  have hlw:=lt_block QW4.out
  have q5:=block_keep (alloc_old (alloc_old QW4.out)) k5 (by have:=T2.out.k.size;omega)
  obtain⟨u0,u1,_,ul⟩:=cells2 q5
  obtain⟨c0,c1,cf,cl⟩:=cells2 (((T4.out.same ((Keeps.refl _ _).alloc _)).same ((Keeps.refl _ _).alloc _)).kb k5 hbl)
  have cf0:=cf 0;have cf1:=cf 1
  have KF:=hid (((T4.out.k.alloc _).alloc _).up.trans k5)
  have HR:=hid (show w.heap.size+2<r' from by have:=lt_block T4.out.c;simp only [World.size_alloc] at hr';omega)
  have H5:=hid h5
  clear k5 hr' h5 cf q5 hlw a0 a1 al hl4
  go_wp2_with fail
  refine bodyPost_ret_by (v:=.tuple #[.agg #[.int .i64 us,.int .u32 ug],.int .i64 0]) (by simp [results,Tryz.results207,go_sem, *]) rfl ⟨rfl,?_,r',by have:=HR.out;omega,?_⟩
  ·repeat (first | (with_reducible exact KF.out) | with_reducible refine Keeps.setCell ?_ ?_ _ | with_reducible refine Keeps.alloc ?_ _ | with_reducible refine Keeps.drewN ?_ _ | with_reducible refine Keeps.drew ?_)
   all_goals first | (left;simp;done) | (left;simp;omega) | (right;simp;done) | (right;simp;omega)
  ·exact H5.out.keeps (keeps_two _ _ _ _) (by omega) (by have:=HR.out;omega)
theorem store14 (q:Rf) (i:Int) (v:Rf) (h:R14 w b r H) (hb:v.bad=false) (hw:v.Wf):
 Calls Tryz.prog 207 #[.pointer (some ⟨b,0,none⟩),.agg #[.int .i64 q.s,.int .u32 q.g],.int .i64 i,.agg #[.int .i64 v.s,.int .u32 v.g]] w
  fun e w'=>e = .returned (.tuple #[(H.storeR q i v).2.1.val,.int .i64 (H.storeR q i v).2.2])∧Keeps (fun y=>y=b) w w'∧∃ r',(r'=r∨w.heap.size≤r')∧R14 w' b r' (H.storeR q i v).1:=by
 have stay:∀ {w':World},Keeps (fun _=>False) w w'→R14 w' b r H:=fun hk=>h.keeps hk (fun h=>h) (fun h=>h)
 by_cases hc:ckV H.T q.s q.g=0
 ·obtain⟨k,hk,hkn,hst,hgn⟩:=ckV_ok hc
  by_cases hi:i<0∨(H.ob k).n≤i
  ·have e:H.storeR q i v=(H,.no,3):=by unfold Hp.storeR;rw [if_neg (by rw [hc];simp),hk,Int.toNat_natCast,if_pos hi]
   rw [e]
   exact (store14_2 k q i v h hk hc hi).mono fun e w' ⟨h1,h2⟩=>⟨h1,h2.up,r,.inl rfl,stay h2⟩
  ·obtain⟨j,rfl⟩:∃ j:Nat,i=j:=⟨i.toNat,by omega⟩
   by_cases hv:v.nz=true∧ckV H.T v.s v.g≠0
   ·have e:H.storeR q j v=(H,.no,ckV H.T v.s v.g):=by unfold Hp.storeR;rw [if_neg (by rw [hc];simp),hk,Int.toNat_natCast,if_neg hi,if_pos hv]
    rw [e]
    exact (store14_3 k j q v h hk hc (by omega) hv.1 hv.2).mono fun e w' ⟨h1,h2⟩=>⟨h1,h2.up,r,.inl rfl,stay h2⟩
   ·have e:H.storeR q j v=(H.setF k j v,(H.ob k).fs j,0):=by unfold Hp.storeR;rw [if_neg (by rw [hc];simp),hk,Int.toNat_natCast,if_neg hi,if_neg hv];simp
    rw [e]
    exact (store14_4 k j q v h hk hc (by omega) (fun hz=>Classical.byContradiction fun hn=>hv ⟨hz,hn⟩) hb hw).mono fun e w' ⟨h1,h2,r',h3,h4⟩=>⟨h1,h2,r',.inr h3,h4⟩
 ·have e:H.storeR q i v=(H,.no,ckV H.T q.s q.g):=by unfold Hp.storeR;rw [if_pos hc]
  rw [e]
  exact (store14_1 q i v h hc).mono fun e w' ⟨h1,h2⟩=>⟨h1,h2.up,r,.inl rfl,stay h2⟩
end
end Go.Proofs.YtnlkfbndlngjaaaGreat
namespace Go.Proofs.YtnlkfbndlngjaaaGreat
open Go.RowKit
set_option linter.unusedVariables false
set_option linter.unusedSimpArgs false
section
variable {w w':World} {b r:Nat} {H:Hp}
theorem all14 (h:R14 w b r H):
 Calls Tryz.prog 256 #[.pointer (some ⟨b,0,none⟩)] w fun e w'=>∃ v,e = .returned v∧Row w' w.heap.size v H.T.tk∧Keeps (fun _=>False) w w':=by
 have HH:=hid (fun W (hk:Keeps (fun _=>False) w W)=>h.keeps hk (fun h=>h) (fun h=>h))
 have n1:=h.n1;have n2:=h.n2
 obtain⟨n,hn⟩:∃ n,H.T.n=n:=⟨_,rfl⟩
 rw [hn] at n1 n2
 have HN:=hid hn
 clear h hn
 go_enter Tryz.func256,Tryz.ntmps256
 go_wp2_with fail
 go_loopw [3,4] (fun s3 ix wr=>∃ (k:Nat) (p:Option Addr) (c:Nat),k≤n∧ix = .int .i64 k∧s3 = .slice p (H.T.inn 1 k).length c∧Hid (Row wr w.heap.size (.slice p (H.T.inn 1 k).length c) ((H.T.inn 1 k).map rfOf))∧Hid (Keeps (fun _=>False) w wr)) (fun _ ix _=>n - (intOf ix).toNat)
 case atStart=>exact⟨0,none,0,Nat.zero_le _,rfl,rfl,hid (Row.nil _ _),hid (Keeps.refl _ _)⟩
 case round=>
  obtain⟨k,p,c,hk,rfl,rfl,HR,HK⟩:=hrel
  have hk0:(0:Int)≤k:=by omega
  have hq:=HH.out wr HK.out
  have HQ:=hid hq
  obtain⟨cap,m1,m2,hsl⟩:=hq.sl
  rw [HN.out] at m1 hsl
  unfold maxLen at m2
  obtain⟨hlb,hlr⟩:=hq.lt
  by_cases hlt:k<n
  ·have hlt':(k:Int)<(n:Int):=by omega
   have c0:=hq.c0 (i:=k) (by rw [HN.out];exact hlt)
   have c2:=hq.c2 (i:=k) (by rw [HN.out];exact hlt)
   rcases hs:(H.T.st k == 1) with _ | _
   ·rw [hs] at c0
    have HI:=hid (Tb.inn_no (T:=H.T) (s:=1) (k:=k) (by simpa using hs))
    clear hs hq c2
    go_wp2_with (go_at_call 235;refine (valid14 b _ HQ.out.made).mono ?_;rintro e w' ⟨rfl,h'⟩;obtain rfl:=h'.symm)
    refine⟨⟨k+1,p,c,by omega,by go_num,by rw [HI.out],by rw [HI.out];exact HR,HK⟩,by simp [intOf];omega⟩
   ·rw [hs] at c0
    have HI:=hid (Tb.inn_yes (T:=H.T) (s:=1) (k:=k) (by simpa using hs))
    have hll:((H.T.inn 1 k).map rfOf).length≤256:=by rw [List.length_map];exact Nat.le_trans (Tb.inn_len _ _ _) (by omega)
    have HVD:=hid (HR.out.keeps ((Keeps.refl (fun _=>False) wr).alloc (.cells #[.int .i64 k,.int .u32 (H.T.gn k)] 34)) (fun _ _ _ _ h=>h))
    have HRO:=hid (refs_one (x:=⟨k,H.T.gn k⟩) (alloc_new (w:=wr) (o:=.cells #[.int .i64 k,.int .u32 (H.T.gn k)] 34)))
    have hsb:=HK.out.size
    clear hs hq
    go_wp2_with (first
     | (go_at_call 235;refine (valid14 b _ HQ.out.made).mono ?_;rintro e w' ⟨rfl,h'⟩;obtain rfl:=h'.symm)
     | (at_builtin;refine wpList_append_refs _ rfl _ _ rfl w.heap.size _ _ ((H.T.inn 1 k).map rfOf) [⟨k,H.T.gn k⟩] rfl rfl HVD.out HRO.out (by rw [List.length_singleton];omega) (by rw [World.size_alloc];omega) ?_;intro v5 w5 hr5 hk5 ho5;obtain⟨p5,c5,rfl⟩:=hr5.refs.slice)
     | fail)
    have hlt5:=HVD.out.lt
    have e1:(H.T.inn 1 (k+1)).map rfOf=(H.T.inn 1 k).map rfOf ++ [Rf.mk k (H.T.gn k)]:=by rw [HI.out,List.map_append];rfl
    have e2:((H.T.inn 1 k).map rfOf ++ [Rf.mk k (H.T.gn k)]).length=(H.T.inn 1 (k+1)).length:=by rw [← e1,List.length_map]
    rw [e2] at hr5
    refine⟨⟨k+1,p5,c5,by omega,by go_num,by rw [← e2];simp,by rw [e1];exact hid hr5,hid ((HK.out.alloc _).trans' hk5 (fun _ _ h=>h) (fun y hy hz=>by have:=(hlt5 y hz).1;omega))⟩,by simp [intOf];omega⟩
  ·obtain rfl:k=n:=by omega
   have hlt':¬ (k:Int)<(k:Int):=by omega
   go_wp2_with (go_at_call 235;refine (valid14 b _ HQ.out.made).mono ?_;rintro e w' ⟨rfl,h'⟩;obtain rfl:=h'.symm)
   go_ret
   refine⟨_,rfl,?_,HK.out⟩
   unfold Tb.tk
   rw [HN.out]
   exact HR.out
theorem left14 (h:R14 w b r H):
 Calls Tryz.prog 198 #[.pointer (some ⟨b,0,none⟩)] w fun e w'=>e = .returned (.int .i64 (H.T.inn 0 H.T.n).length)∧w'=w:=by
 have hsl0:=h.sl
 have n1:=h.n1;have n2:=h.n2
 have HM:=hid h.made
 have HQ:=hid h
 obtain⟨hlb,hlr⟩:=h.lt
 obtain⟨n,hn⟩:∃ n,H.T.n=n:=⟨_,rfl⟩
 obtain⟨cap,m1,m2,hsl⟩:=hsl0
 rw [hn] at n1 n2 m1 hsl ⊢
 unfold maxLen at m2
 have HN:=hid hn
 clear h hn
 go_enter Tryz.func198,Tryz.ntmps198
 go_wp2_with fail
 go_loop [3,4] (fun s3 ix=>∃ (k:Nat),k≤n∧ix = .int .i64 k∧s3 = .int .i64 (H.T.inn 0 k).length) (fun _ ix=>n - (intOf ix).toNat)
 case atStart=>exact⟨0,Nat.zero_le _,rfl,rfl⟩
 case round=>
  obtain⟨k,hk,rfl,rfl⟩:=hrel
  have hk0:(0:Int)≤k:=by omega
  have hil:=Tb.inn_len H.T 0 k
  by_cases hlt:k<n
  ·have hlt':(k:Int)<(n:Int):=by omega
   have c0:=HQ.out.c0 (i:=k) (by rw [HN.out];exact hlt)
   have c1:=HQ.out.c1 (i:=k) (by rw [HN.out];exact hlt)
   rcases hs0:(H.T.st k == 0) with _ | _
   ·have HI:=hid (Tb.inn_no (T:=H.T) (s:=0) (k:=k) (by simpa using hs0))
    rw [hs0] at c1
    rcases hs1:(H.T.st k == 1) with _ | _
    ·rw [hs1] at c0 c1
     simp only [Bool.not_false,Bool.and_self] at c1
     clear hs0 hs1
     go_wp2_with (go_at_call 235;refine (valid14 b _ HM.out).mono ?_;rintro e w' ⟨rfl,h'⟩;obtain rfl:=h'.symm)
     refine⟨⟨k+1,by omega,by go_num,by rw [HI.out]⟩,by simp [intOf];omega⟩
    ·rw [hs1] at c0
     clear hs0 hs1 c1
     go_wp2_with (go_at_call 235;refine (valid14 b _ HM.out).mono ?_;rintro e w' ⟨rfl,h'⟩;obtain rfl:=h'.symm)
     refine⟨⟨k+1,by omega,by go_num,by rw [HI.out]⟩,by simp [intOf];omega⟩
   ·have HI:=hid (Tb.inn_yes (T:=H.T) (s:=0) (k:=k) (by simpa using hs0))
    have hs1:(H.T.st k == 1)=false:=by
     have:H.T.st k=0:=by simpa using hs0
     rw [this];rfl
    rw [hs0,hs1] at c1
    rw [hs1] at c0
    simp only [Bool.not_false,Bool.not_true,Bool.and_false] at c1
    clear hs0 hs1
    go_wp2_with (go_at_call 235;refine (valid14 b _ HM.out).mono ?_;rintro e w' ⟨rfl,h'⟩;obtain rfl:=h'.symm)
    refine⟨⟨k+1,by omega,by go_num,by rw [HI.out,List.length_append,List.length_singleton];go_num⟩,by simp [intOf];omega⟩
  ·obtain rfl:k=n:=by omega
   have hlt':¬ (k:Int)<(k:Int):=by omega
   go_wp2_with (go_at_call 235;refine (valid14 b _ HM.out).mono ?_;rintro e w' ⟨rfl,h'⟩;obtain rfl:=h'.symm)
   go_ret
   exact⟨rfl,rfl⟩
theorem copy14 (h:R14 w b r H):
 Calls Tryz.prog 158 #[.pointer (some ⟨b,0,none⟩)] w fun e w'=>∃ b' r',e = .returned (.pointer (some ⟨b',0,none⟩))∧Keeps (fun _=>False) w w'∧w.heap.size≤b'∧w.heap.size≤r'∧R14 w' b' r' H:=by
 obtain⟨cap,m1,m2,hsl⟩:=h.sl
 obtain⟨hlb,hlr⟩:=h.lt
 have n1:=h.n1;have n2:=h.n2
 obtain⟨ri,hi1,hi2,hi3,hi4⟩:=slot_info
 have HM:=hid h.made
 have HE:=hid (And.intro h.n1 (And.intro h.n2 (And.intro h.good h.gn)))
 obtain⟨n,hnn⟩:∃ n,H.T.n=n:=⟨_,rfl⟩
 have HNEWS:=hid (fun W (hk:Keeps (fun _=>False) w W)=>(h.keeps hk (fun h=>h) (fun h=>h)).news)
 rw [hnn] at hsl m1 n1 n2 HNEWS
 have HN:=hid hnn
 have HOWN:=hid (World.ownsRow_made (base:=w.heap.size) (e:=220) (size:=13) w #[] 0 (by simp) (by simp) rfl)
 clear h hnn
 unfold maxLen at m2
 go_enter Tryz.func158,Tryz.ntmps158
 go_wp2_with (first
  | (go_at_call 235;refine (valid14 b _ HM.out).mono ?_;rintro e w' ⟨rfl,h'⟩;obtain rfl:=h'.symm)
  | (at_builtin;refine wpList_append_lies _ rfl _ _ 215 rfl w.heap.size 220 ri (.agg (slotL false false 0 (Ob.new 0 false)).toArray) 13 88 Tryz.underlying215 hi1 hi2 hi3 hi4 rfl (by decide) (.slice (some ⟨w.heap.size,0,none⟩) 0 0) 0 [] rfl HOWN.out ⟨r,0,none⟩ n cap (slotsL H.slot n) rfl (by rw [slotsL_len (slot_len H)]) ?c1 ?c2 (by omega) ?c3 ?c4 ?c5 (w.heap.size+1) (by simp) ?_)
  | fail)
 case c1=>exact HNEWS.out _ ((Keeps.refl _ _).alloc _)
 case c2=>exact slotsL_one (slot_one H) n
 case c3=>simp [maxLen];omega
 case c4=>omega
 case c5=>simp
 intro g' cap' w3 hown3 hgr hat hlt
 have hgk:=grown_keeps hgr
 have hg0:w.heap.size≤g':=by
  rcases hat with h | h
  ·simp [Value.ownBlock] at h;omega
  ·omega
 have K3:Keeps (fun _=>False) w w3:=Keeps.fresh (((Keeps.refl (fun y=>w.heap.size≤y) w).alloc _).trans' hgk (fun _ _ h=>h) (fun k hk h=>by simp [Value.ownBlock] at h;omega))
 obtain⟨cur,hcur,k1,k2,k3,k4⟩:=rowS_of (slot_len H) (show w3.ownsRow w.heap.size 220 13 (.slice (some ⟨g',0,none⟩) n cap') n (slotsL H.slot n) by simpa using hown3)
 have HCUR:=hid (And.intro hcur (And.intro k1 (And.intro k2 (And.intro k3 k4))));have HK3:=hid K3
 clear hcur k1 k2 k3 k4 K3 hown3 hgr hgk hat
 go_wp2_with fail
 go_ret
 obtain⟨hcur,k1,k2,k3,k4⟩:=HCUR.out
 obtain⟨e1,e2,e3,e4⟩:=HE.out
 refine⟨_,g',rfl,HK3.out.alloc _,HK3.out.size,hg0,⟨cap',by rw [HN.out];exact k1,k2,by rw [HN.out];exact alloc_new⟩,⟨cur,alloc_old hcur,fun i j hi hj=>k4 i j (by rw [← HN.out];exact hi) hj⟩,e1,e2,e3,e4⟩
theorem new14_bad (n g:Int) (hb:n<1∨256<n∨g<1):
 Calls Tryz.prog 69 #[.int .i64 n,.int .u32 g] w fun e w'=>e = .returned (.tuple #[.pointer none,.int .i64 2])∧w'=w:=by
 have hc:n<1∨(1≤n∧256<n)∨(1≤n∧n≤256∧g<1):=by omega
 clear hb
 rcases hc with h1 | ⟨h1,h2⟩ | ⟨h1,h2,h3⟩
 all_goals
  go_enter Tryz.func69,Tryz.ntmps69
  go_wp2_with fail
  go_ret2
  exact⟨rfl,rfl⟩
theorem new14_ok (n:Nat) (g:Int) (h1:1≤n) (h2:n≤256) (h3:1≤g) (h4:g≤4294967295):
 Calls Tryz.prog 69 #[.int .i64 n,.int .u32 g] w fun e w'=>∃ b' r',e = .returned (.tuple #[.pointer (some ⟨b',0,none⟩),.int .i64 0])∧Keeps (fun _=>False) w w'∧w.heap.size≤b'∧w.heap.size≤r'∧R14 w' b' r' (Hp.new n g):=by
 obtain⟨ri,hi1,hi2,hi3,hi4⟩:=slot_info
 obtain⟨sf,hsf⟩:∃ sf:Nat→List Value,(fun _=>slotL false false g (Ob.new 0 false))=sf:=⟨_,rfl⟩
 have hfl:∀ i,(sf i).length=13:=fun i=>by rw [← hsf];rfl
 have HSF:=hid hsf;have HFL:=hid hfl
 clear hsf hfl
 have g1':¬ g<1:=by omega
 have n1':¬ (n:Int)<1:=by omega
 have n2':¬ 256<(n:Int):=by omega
 go_enter Tryz.func69,Tryz.ntmps69
 go_wp2_with fail
 go_loopw [7] (fun ix wr=>∃ (k:Nat) (v:Value),k≤n∧ix = .int .i64 k∧Hid (wr.heap[w.heap.size]?=some (.cells #[.bool true,v] 217))∧Hid (wr.ownsRow (w.heap.size+1) 220 13 v k (slotsL sf k))∧Hid (Keeps (fun _=>False) w wr)) (fun ix _=>n - (intOf ix).toNat)
 case atStart=>exact⟨0,.slice none 0 0,Nat.zero_le _,rfl,hid alloc_new,hid (World.ownsRow_nil _ _ _ _),hid ((Keeps.refl _ _).alloc _)⟩
 case round=>
  obtain⟨k,v,hk,rfl,HB,HR,HK⟩:=hrel
  have hk0:(0:Int)≤k:=by omega
  obtain⟨b0,b1,bf,bl⟩:=cells2 HB.out
  have bf1:=bf 1
  by_cases hlt:k<n
  ·have hlt':(k:Int)<(n:Int):=by omega
   have hsz:=HK.out.size
   have HV:=hid (HR.out.alloc (.cells (slotA false false g (Ob.new 0 false)) 220))
   have HNW:=hid (alloc_new (w:=wr) (o:=.cells (slotA false false g (Ob.new 0 false)) 220))
   clear bf
   simp only [slotA,Ob.new,Rf.no] at HV HNW
   go_wp2_with (first
    | (at_builtin;refine wpList_append_lies _ rfl _ _ 215 rfl (w.heap.size+1) 220 ri (.agg (slotL false false 0 (Ob.new 0 false)).toArray) 13 88 Tryz.underlying215 hi1 hi2 hi3 hi4 rfl (by decide) v k (slotsL sf k) rfl HV.out ⟨wr.heap.size,0,none⟩ 1 1 (slotL false false g (Ob.new 0 false)) rfl rfl ?c1 ?c2 (by omega) ?c3 ?c4 ?c5 (wr.heap.size+1) (by simp) ?_)
    | fail)
   case c1=>
    intro j u hj
    rw [Addr.add_mid,Nat.zero_add,cell_block HNW.out j]
    rw [← List.getElem?_toArray] at hj
    exact hj
   case c2=>exact slotL_one _ _ _ _
   case c3=>simp [maxLen];omega
   case c4=>omega
   case c5=>simp;omega
   intro g' cap' w3 hown3 hgr hat hlt3
   have hgk:=grown_keeps hgr
   have hvl:=HV.out.lt
   have K3:Keeps (fun _=>False) w w3:=Keeps.fresh ((((HK.out.up (T:=fun y=>w.heap.size≤y)).alloc _).trans' hgk (fun _ _ h=>h) (fun y hy h=>by have:=(hvl y h).1;omega)))
   have qb:=block_keep (alloc_old HB.out) hgk (fun h=>by have:=(hvl _ h).1;omega)
   obtain⟨z0,z1,zf,zl⟩:=cells2 qb
   have zf1:=zf 1
   have hg1:w.heap.size<g':=by
    rcases hat with h | h
    ·have:=(hvl _ h).1;omega
    ·omega
   have HO:=hid (show w3.ownsRow (w.heap.size+1) 220 13 (.slice (some ⟨g',0,none⟩) (k+1) cap') (k+1) (slotsL sf (k+1)) by
    rw [slotsL_succ,← HSF.out]
    rw [← HSF.out] at hown3
    exact hown3)
   have K3H:=hid K3;have QB:=hid qb
   clear hown3 hgr hgk hvl K3 qb zf hat b0 b1 bf1 bl
   go_wp2_with fail
   refine⟨⟨k+1,.slice (some ⟨g',0,none⟩) (k+1) cap',by omega,by go_num,hid (set_block QB.out 1 _),?_,hid (Keeps.fresh ((K3H.out.up (T:=fun y=>w.heap.size≤y)).setCell (.inl (Nat.le_refl _)) _))⟩,by simp [intOf];omega⟩
   obtain⟨a1,a2⟩:=HO.out
   refine hid ⟨a1,?_⟩
   rcases a2 with a2 | ⟨g2,cap2,cur2,e1,e2,e3,e4⟩
   ·exact .inl a2
   ·exact .inr ⟨g2,cap2,cur2,e1,e2,set_oth e3 (by show g2≠w.heap.size;omega),e4⟩
  ·obtain rfl:k=n:=by omega
   have hlt':¬ (k:Int)<(k:Int):=by omega
   go_wp2_with fail
   go_ret2
   have hs:∀ i,i<k→(Hp.new k g).slot i=sf i:=fun i hi=>by
    have e1:(Hp.new k g).T.gn i=g:=by show (if i<k then g else 0)=g;rw [if_pos hi]
    rw [← HSF.out]
    show slotL ((0:Int) == 1) _ ((Hp.new k g).T.gn i) _=_
    rw [e1];rfl
   have hgn:∀ i,i<k→1≤(Hp.new k g).T.gn i∧(Hp.new k g).T.gn i≤4294967295:=fun i hi=>by
    have e1:(Hp.new k g).T.gn i=g:=by show (if i<k then g else 0)=g;rw [if_pos hi]
    rw [e1];exact⟨h3,h4⟩
   obtain⟨_,a2⟩:=HR.out
   rcases a2 with⟨_,e⟩ | ⟨g2,cap2,cur2,rfl,e2,e3,e4⟩
   ·omega
   ·obtain⟨cur,hcur,k1,k2,k3,k4⟩:=rowS_of HFL.out HR.out
    refine⟨_,rfl,HK.out,Nat.le_refl _,g2,by omega,⟨cap2,k1,k2,HB.out⟩,⟨cur,hcur,fun i j hi hj=>by rw [k4 i j hi hj,hs i hi]⟩,h1,h2,fun i=>Ob.new_good ⟨by decide,by decide,fun h=>by cases h⟩,hgn⟩
end
end Go.Proofs.YtnlkfbndlngjaaaGreat
