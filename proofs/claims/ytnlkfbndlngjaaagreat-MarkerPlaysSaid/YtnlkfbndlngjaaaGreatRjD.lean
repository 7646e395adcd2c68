import Derived.Test.YtnlkfbndlngjaaaGreatRiV
import Derived.Test.YtnlkfbndlngjaaaGreatRiX
import Derived.Deep.CutBlock
set_option maxHeartbeats 4000000
set_option maxRecDepth 100000
namespace Go.Proofs.YtnlkfbndlngjaaaGreat
section
variable {P:Program} {ops:Array Oper} {Q:Exit→Act→World→Prop} {md:Region.Mode} {S:World→Prop} {t:Nat}
theorem wpAnyU_free {i:Nat} {oi:Oper} {v:Value} (hi:ops[i]?=some oi) (hsel:∀ (j:Nat) (o:Oper) cs b,ops[j]?=some o→o.op≠.select cs b)
 (hQ:∀ c a w,Q (.panic c) (a.put oi.dst v) w→Q (.panic c) a w) (hit:i≠t):
 ∀ (fuel:Nat) (listed:Array Bool) (a:Act) (w:World),
  (∀ j oj,ops[j]?=some oj→j≠i→listed.getD j true=false→(∀ e∈oj.after,Region.binds md e=true→e.on≠i)→oi.apart ops oj=true)→
  i∈Region.ready md ops listed→Yields P ops oi v a→S w→
  wpAnyU P md ops Q S t fuel (listed.setIfInBounds i true) (a.put oi.dst v) w→wpAnyU P md ops Q S t (fuel+1) listed a w:=by
 intro fuel
 induction fuel with
 | zero=>
  intro listed a w _ hr hy hS H
  refine⟨fun h=>(by rw [h] at hr;cases hr),fun j hj=>?_⟩
  by_cases hji:j=i
  ·subst hji;exact hy.wpOp hi ⟨fun e=>absurd e hit,fun _=>⟨hS,H⟩⟩
  ·have:=ready_mono hj hji
   rw [H.1] at this
   cases this
 | succ fuel ih=>
  intro listed a w hfree hr hy hS H
  refine⟨fun h=>(by rw [h] at hr;cases hr),fun j hj=>?_⟩
  by_cases hji:j=i
  ·subst hji;exact hy.wpOp hi ⟨fun e=>absurd e hit,fun _=>⟨hS,H⟩⟩
  ·have h1:=H.2 j (ready_mono hj hji)
   obtain⟨hjun,oj,hoj,hall⟩:=mem_ready.1 hj
   have hnot:∀ e∈oj.after,Region.binds md e=true→e.on≠i:=fun e he hb heq=>by
    have h1:=hall e he hb
    have h0:=(mem_ready.1 hr).1
    rw [heq] at h1
    rcases Nat.lt_or_ge i listed.size with h' | h'
    ·simp [h'] at h0 h1;rw [h0] at h1;cases h1
    ·simp [Array.getElem?_eq_none h'] at h1
   have h2:=wpOp_put hoj (hfree j oj hoj hji hjun hnot) (fun cs b=>hsel i oi cs b hi) (fun cs b=>hsel j oj cs b hoj) hQ hy h1
   have hfree':∀ k ok,ops[k]?=some ok→k≠i→(listed.setIfInBounds j true).getD k true=false→
    (∀ e∈ok.after,Region.binds md e=true→e.on≠i)→oi.apart ops ok=true:=fun k ok hk hki hun hno=>by
    refine hfree k ok hk hki ?_ hno
    by_cases hjk:j=k
    ·subst hjk;exact hjun
    ·rw [getD_set_ne true hjk] at hun;exact hun
   refine wpOp_mono (fun a' w' h3=>⟨fun e=>wpAny_first hi hsel hQ fuel (listed.setIfInBounds j true) a' w' hfree' (ready_mono hr (Ne.symm hji)) h3.1 ?_,fun e=>⟨(h3.2.2 e).1,ih (listed.setIfInBounds j true) a' w' hfree' (ready_mono hr (Ne.symm hji)) h3.1 (h3.2.2 e).1 ?_⟩⟩) h2
   ·rw [Array.setIfInBounds_comm _ _ hji]
    exact h3.2.1 e
   ·rw [Array.setIfInBounds_comm _ _ hji]
    exact (h3.2.2 e).2
theorem wpAnyU_takeW (i:Nat) {oi:Oper} {v:Value} {fuel:Nat} {listed:Array Bool} {a:Act} {w:World} (hi:ops[i]?=some oi)
 (hs:Region.noSelect ops=true) (hf:Region.free md ops listed i=true) (hr:(Region.ready md ops listed).contains i=true) (hd:(i == t)=false)
 (hQ:∀ c a w,Q (.panic c) (a.put oi.dst v) w→Q (.panic c) a w) (hy:Yields P ops oi v a) (hS:S w)
 (h:wpAnyU P md ops Q S t fuel (listed.setIfInBounds i true) (a.put oi.dst v) w):wpAnyU P md ops Q S t (fuel+1) listed a w:=
 wpAnyU_free hi (Region.noSelect_spec hs) hQ (by simpa using hd) fuel listed a w (Region.free_spec hi hf) (by simpa using hr) hy hS h
end
open Go.RowKit
attribute [local go_sem] Oper.semAt_some
set_option linter.unusedVariables false
set_option linter.unusedSimpArgs false
structure Dw (w0 w W:World) (B p a m:Nat) (LA:ArL) (LM:MkL) (x y:Nat) (s:Mp) (A:Ar) (M:Mk) (A2:Ar) (M2:Mk) (q:Nat):Prop where
 fo:Fo (fun _=>False) w0 W a m LA LM x y A M A2 M2 q
 own:W.heap[p]?=some (.cells (pairC a m x y) 63)
 s0:W.heap[B]?=some (.cells s.arr 66)
 lo0:w0.heap.size≤w.heap.size
 k:Keeps (Ft w w0.heap.size) w W
section
variable {w0 w w' W W':World} {p a m x y q B:Nat} {LA:ArL} {LM:MkL} {A A' A2 A2':Ar} {M M' M2 M2':Mk} {s:Mp}
theorem Dw.op (h:Dw w0 w W B p a m LA LM x y s A M A2 M2 q) (ho:Fo.Op (fun _=>False) w0 W W' a m LA LM x y A' M' A2' M2' q):Dw w0 w W' B p a m LA LM x y s A' M' A2' M2' q:=by
 obtain⟨h1,h2⟩:=ho
 exact⟨h1,Ft.block h2 h.own (by decide),Ft.block h2 h.s0 (by decide),h.lo0,Ft.trans h.k h2⟩
theorem Dw.quiet (h:Dw w0 w W B p a m LA LM x y s A M A2 M2 q) (hk:Keeps (fun _=>False) W W'):Dw w0 w W' B p a m LA LM x y s A M A2 M2 q:=h.op ⟨h.fo.quiet hk,hk.up⟩
theorem Dw.nx (h:Dw w0 w W B p a m LA LM x y s A' M' A' M' q) (ok:A'.Ok) (mo:M'.Ok) (hn:A'.H.T.n=M'.P.n) (hm:A'.many=M'.K.many) (h1:M'.K.cy≤M.K.cy+1) (h2:M'.P.n=M.P.n) (h3:M'.K.many=M.K.many):Nx w0 w W p a m LA LM x y M q:=
 ⟨A',M',⟨h.own,h.fo,ok,mo,hn,hm⟩,h1,h2,h3,h.k⟩
theorem Pq.dw (h:Pq w0 w p a m LA LM x y A M q) (s:Mp):Dw w0 w (w.alloc (.cells s.arr 66)) w.heap.size p a m LA LM x y s A M A M q:=
 ⟨h.fo.quiet ((Keeps.refl _ _).alloc _),alloc_old h.own,alloc_new,h.fo.du.kp.size,((Keeps.refl _ _).alloc _)⟩
theorem Dw.cells (h:Dw w0 w W B p a m LA LM x y s A M A2 M2 q):(W.cell? ⟨p,0,none⟩=some (.pointer (some ⟨a,0,none⟩))∧W.cell? ⟨p,1,none⟩=some (.pointer (some ⟨m,0,none⟩))∧W.cell? ⟨p,2,none⟩=some (.pointer (some ⟨x,0,none⟩))∧W.cell? ⟨p,3,none⟩=some (.pointer (some ⟨y,0,none⟩)))∧
 (W.cell? ⟨B,0,none⟩=some (.int .i64 s.d)∧W.cell? ⟨B,1,none⟩=some (.int .i64 s.m)∧W.cell? ⟨B,2,none⟩=some (.int .i64 s.a)∧W.cell? ⟨B,3,none⟩=some (.int .i64 s.b)∧W.cell? ⟨B,4,none⟩=some (.int .i64 s.c))∧
 (W.cell? ⟨B,5,none⟩=some (.int .i64 s.r.s)∧W.cell? ⟨B,6,none⟩=some (.int .u32 s.r.g))∧(W.cell? ⟨B,7,none⟩=some (.int .i64 s.z.s)∧W.cell? ⟨B,8,none⟩=some (.int .u32 s.z.g)):=
 ⟨⟨cell_at h.own rfl,cell_at h.own rfl,cell_at h.own rfl,cell_at h.own rfl⟩,⟨cell_at h.s0 rfl,cell_at h.s0 rfl,cell_at h.s0 rfl,cell_at h.s0 rfl,cell_at h.s0 rfl⟩,⟨cell_at h.s0 rfl,cell_at h.s0 rfl⟩,⟨cell_at h.s0 rfl,cell_at h.s0 rfl⟩⟩
end
def Mk.Nxt (M M':Mk):Prop:=M'.K.cy≤M.K.cy+1∧M'.P.n=M.P.n∧M'.K.many=M.K.many
section
variable {M:Mk} {A:Ar}
theorem Mk.Nxt.rfl' (M:Mk):M.Nxt M:=⟨Nat.le_succ _,rfl,rfl⟩
theorem Ck.go_cy (K:Ck):K.go.cy≤K.cy+1:=by
 show (if K.ph=5 then K.cy+1 else K.cy)≤K.cy+1
 split <;> omega
theorem Mk.nxt_go (M:Mk):M.Nxt { M with K:=M.K.go }:=⟨Ck.go_cy _,rfl,rfl⟩
theorem Mk.nxt_step (M:Mk) (A:Ar):M.Nxt (M.stepR A):=by
 unfold Mk.stepR
 split
 ·split
  ·exact⟨Ck.go_cy _,Mk.shade24_n _ _,rfl⟩
  ·exact Mk.Nxt.rfl' M
 ·split
  ·split
   ·exact M.nxt_go
   ·exact Mk.Nxt.rfl' M
  ·split
   ·have hd:=M.drains_K M.K.many
    unfold Mk.traceR
    obtain⟨M1,h1⟩:∃ M1,M.drains M.K.many=M1:=⟨_,rfl⟩
    rw [h1] at hd ⊢
    have fin:∀ M2:Mk,M1.Nxt M2→M.Nxt M2:=fun M2 h=>⟨by rw [← hd.1];exact h.1,h.2.1.trans hd.2,h.2.2.trans (by rw [hd.1])⟩
    refine fin _ ?_
    have sc:∀ (M3:Mk) (i:Nat),M3.K=M1.K→M3.P.n=M1.P.n→M1.Nxt (M3.scanAt A.H i):=fun M3 i e1 e2=>by
     have:=M3.scanAt_K A.H i
     exact⟨by rw [this.1,e1];exact Nat.le_succ _,this.2.trans e2,by rw [this.1,e1]⟩
    unfold Mk.trace1
    split
    ·split
     ·exact M1.nxt_go
     ·exact sc _ _ rfl rfl
    ·split
     ·exact sc _ _ rfl rfl
     ·exact⟨Nat.le_succ _,rfl,rfl⟩
   ·exact Mk.Nxt.rfl' M
theorem Mk.nxt_ack (M:Mk) (A:Ar) (i:Int):M.Nxt (M.ackR A i).M:=by
 unfold Mk.ackR
 split
 ·exact Mk.Nxt.rfl' M
 ·split
  ·exact Mk.Nxt.rfl' M
  ·split
   ·exact⟨Nat.le_succ _,Mk.shade24_n _ _,rfl⟩
   ·exact⟨Nat.le_succ _,rfl,rfl⟩
theorem Mk.nxt_goR (M:Mk):M.Nxt M.goR.1:=by
 unfold Mk.goR
 split
 ·exact Mk.Nxt.rfl' M
 ·split
  ·exact M.nxt_go
  ·exact⟨Ck.go_cy _,rfl,rfl⟩
theorem Mk.nxt_begin (M:Mk):M.Nxt M.beginR.1:=by
 unfold Mk.beginR
 split
 ·exact⟨Nat.le_succ _,rfl,rfl⟩
 ·exact Mk.Nxt.rfl' M
theorem Mk.nxt_wrote (M:Mk) (i:Int) (r q:Rf):M.Nxt (M.wroteR i r q).1:=by
 have:=M.wroteR_K i r q
 exact⟨by rw [this.1];exact Nat.le_succ _,this.2,by rw [this.1]⟩
theorem Mk.nxt_made (M:Mk) (r:Rf):M.Nxt (M.madeR r).1:=by
 have:=M.madeR_K r
 exact⟨by rw [this.1];exact Nat.le_succ _,this.2,by rw [this.1]⟩
theorem Mk.nxt_freed (M:Mk) (s:Int):M.Nxt (M.freedR s).1:=by
 unfold Mk.freedR
 split
 ·exact Mk.Nxt.rfl' M
 ·exact⟨Nat.le_succ _,rfl,rfl⟩
end
section
variable {w0 w w':World} {p a m x y q:Nat} {LA:ArL} {LM:MkL} {A:Ar} {M:Mk}
theorem Dw.nx' {W:World} {B:Nat} {s:Mp} {A':Ar} {M':Mk} (h:Dw w0 w W B p a m LA LM x y s A' M' A' M' q) (ok:A'.Ok) (mo:M'.Ok) (hA:A'.H.T.n=M.P.n∧A'.many=M.K.many) (hN:M.Nxt M'):Nx w0 w W p a m LA LM x y M q:=
 h.nx ok mo (hA.1.trans hN.2.1.symm) (hA.2.trans hN.2.2.symm) hN.1 hN.2.1 hN.2.2
theorem do_rest (d mm aa bb cc:Int) (r z:Rf) (h:Pq w0 w p a m LA LM x y A M q) (hcy:M.K.cy<4611686018427387904) (hd:d≠14) (h05:¬ (0≤d∧d≤5)):
 Calls Tryz.prog 25 #[.pointer (some ⟨p,0,none⟩),.agg #[.int .i64 d,.int .i64 mm,.int .i64 aa,.int .i64 bb,.int .i64 cc,.int .i64 r.s,.int .u32 r.g,.int .i64 z.s,.int .u32 z.g]] w fun e w'=>e = .returned (.bool true)∧Nx w0 w w' p a m LA LM x y M q:=by
 obtain⟨wB,hwB⟩:∃ wB,w.alloc (.cells #[.int .i64 d,.int .i64 mm,.int .i64 aa,.int .i64 bb,.int .i64 cc,.int .i64 r.s,.int .u32 r.g,.int .i64 z.s,.int .u32 z.g] 66)=wB:=⟨_,rfl⟩
 have hD:=h.dw ⟨d,mm,aa,bb,cc,r,z⟩
 have HD:=hid (show Dw w0 w wB w.heap.size p a m LA LM x y ⟨d,mm,aa,bb,cc,r,z⟩ A M A M q from by rw [← hwB];exact hD)
 have kB:Keeps (fun _=>False) w wB:=by rw [← hwB];exact (Keeps.refl _ _).alloc _
 have HWB:=hid hwB;have KB:=hid kB
 have HOK:=hid (And.intro h.ok (And.intro h.mo (And.intro h.hn h.hm)))
 have HCY:=hid hcy
 have HPQ:=hid (show Pq w0 wB p a m LA LM x y A M q from⟨HD.out.own,HD.out.fo,h.ok,h.mo,h.hn,h.hm⟩)
 have HPS:=hid (fun W (h:∃ A' M' A2 M2,Dw w0 w W w.heap.size p a m LA LM x y ⟨d,mm,aa,bb,cc,r,z⟩ A' M' A2 M2 q)=>(by obtain⟨_,_,_,_,h⟩:=h;exact h.cells:((W.cell? ⟨p,0,none⟩=some (.pointer (some ⟨a,0,none⟩))∧W.cell? ⟨p,1,none⟩=some (.pointer (some ⟨m,0,none⟩))∧W.cell? ⟨p,2,none⟩=some (.pointer (some ⟨x,0,none⟩))∧W.cell? ⟨p,3,none⟩=some (.pointer (some ⟨y,0,none⟩)))∧(W.cell? ⟨w.heap.size,0,none⟩=some (.int .i64 d)∧W.cell? ⟨w.heap.size,1,none⟩=some (.int .i64 mm)∧W.cell? ⟨w.heap.size,2,none⟩=some (.int .i64 aa)∧W.cell? ⟨w.heap.size,3,none⟩=some (.int .i64 bb)∧W.cell? ⟨w.heap.size,4,none⟩=some (.int .i64 cc))∧(W.cell? ⟨w.heap.size,5,none⟩=some (.int .i64 r.s)∧W.cell? ⟨w.heap.size,6,none⟩=some (.int .u32 r.g))∧(W.cell? ⟨w.heap.size,7,none⟩=some (.int .i64 z.s)∧W.cell? ⟨w.heap.size,8,none⟩=some (.int .u32 z.g)))))
 obtain⟨_,⟨d0,d1,d2,d3,d4⟩,⟨d5,d6⟩,d7,d8⟩:=HD.out.cells
 have HDD:=hid hd
 clear h hD hwB hd kB hcy
 have n0:(d == 0)=false:=by simp;omega
 have n1:(d == 1)=false:=by simp;omega
 have n2:(d == 2)=false:=by simp;omega
 have n3:(d == 3)=false:=by simp;omega
 have n4:(d == 4)=false:=by simp;omega
 have n5:(d == 5)=false:=by simp;omega
 have hcs:d=6∨d=7∨d=8∨d=9∨d=10∨d=11∨d=12∨d=13∨(d≠6∧d≠7∧d≠8∧d≠9∧d≠10∧d≠11∧d≠12∧d≠13):=by omega
 clear h05
 have HA:=hid (show A.H.T.n=M.P.n∧A.many=M.K.many from HOK.out.2.2)
 rcases hcs with rfl | rfl | rfl | rfl | rfl | rfl | rfl | rfl | ⟨n6,n7,n8,n9,n10,n11,n12,n13⟩
 ·go_enter Tryz.func25,Tryz.ntmps25
  go_upto_region 1 with (fail)
  rw [HWB.out]
  go_wp2_with fail
  go_upto_region 10 with (fail)
  have hMd:=HD.out.quiet (Keeps.refl (fun _=>False) _).drew
  have HC:=hid (hMd.fo.pack HOK.out.2.2.1 HOK.out.2.2.2 mm)
  go_region_held3 (fun W=>((W.cell? ⟨p,0,none⟩=some (.pointer (some ⟨a,0,none⟩))∧W.cell? ⟨p,1,none⟩=some (.pointer (some ⟨m,0,none⟩))∧W.cell? ⟨p,2,none⟩=some (.pointer (some ⟨x,0,none⟩))∧W.cell? ⟨p,3,none⟩=some (.pointer (some ⟨y,0,none⟩)))∧(W.cell? ⟨w.heap.size,0,none⟩=some (.int .i64 6)∧W.cell? ⟨w.heap.size,1,none⟩=some (.int .i64 mm)∧W.cell? ⟨w.heap.size,2,none⟩=some (.int .i64 aa)∧W.cell? ⟨w.heap.size,3,none⟩=some (.int .i64 bb)∧W.cell? ⟨w.heap.size,4,none⟩=some (.int .i64 cc))∧(W.cell? ⟨w.heap.size,5,none⟩=some (.int .i64 r.s)∧W.cell? ⟨w.heap.size,6,none⟩=some (.int .u32 r.g))∧(W.cell? ⟨w.heap.size,7,none⟩=some (.int .i64 z.s)∧W.cell? ⟨w.heap.size,8,none⟩=some (.int .u32 z.g))))
   ((refine HPS.out _ ?_;first | with_reducible exact⟨_,_,_,_,hM7⟩ | with_reducible exact⟨_,_,_,_,hMd⟩))
   (first | (go_at_call 54;refine HC.out.mono ?_;rintro e w7 ⟨rfl,ho7⟩;have hM7:=hMd.op ho7))
  have HM7:=hid hM7
  clear hMd hM7 ho7 HC
  go_upto_region 11 with (fail)
  have hMd:=HM7.out.quiet (Keeps.refl (fun _=>False) _).drew
  have HC:=hid (hMd.fo.dack HOK.out.2.2.1 HOK.out.2.2.2 mm)
  go_region_held3 (fun W=>((W.cell? ⟨p,0,none⟩=some (.pointer (some ⟨a,0,none⟩))∧W.cell? ⟨p,1,none⟩=some (.pointer (some ⟨m,0,none⟩))∧W.cell? ⟨p,2,none⟩=some (.pointer (some ⟨x,0,none⟩))∧W.cell? ⟨p,3,none⟩=some (.pointer (some ⟨y,0,none⟩)))∧(W.cell? ⟨w.heap.size,0,none⟩=some (.int .i64 6)∧W.cell? ⟨w.heap.size,1,none⟩=some (.int .i64 mm)∧W.cell? ⟨w.heap.size,2,none⟩=some (.int .i64 aa)∧W.cell? ⟨w.heap.size,3,none⟩=some (.int .i64 bb)∧W.cell? ⟨w.heap.size,4,none⟩=some (.int .i64 cc))∧(W.cell? ⟨w.heap.size,5,none⟩=some (.int .i64 r.s)∧W.cell? ⟨w.heap.size,6,none⟩=some (.int .u32 r.g))∧(W.cell? ⟨w.heap.size,7,none⟩=some (.int .i64 z.s)∧W.cell? ⟨w.heap.size,8,none⟩=some (.int .u32 z.g))))
   ((refine HPS.out _ ?_;first | with_reducible exact⟨_,_,_,_,hM7⟩ | with_reducible exact⟨_,_,_,_,hMd⟩))
   (first | (go_at_call 71;refine HC.out.mono ?_;rintro e w8 ⟨rfl,ho7⟩;have hM7:=hMd.op ho7))
  have HM8:=hid hM7
  clear hMd hM7 ho7 HC
  go_wp2_with fail
  go_ret
  exact⟨rfl,HM8.out.nx' HOK.out.1 (HOK.out.2.1.ackR HOK.out.2.2.1 mm) HA.out (M.nxt_ack A mm)⟩
 ·go_enter Tryz.func25,Tryz.ntmps25
  go_upto_region 1 with (fail)
  rw [HWB.out]
  go_wp2_with fail
  go_upto_region 14 with (fail)
  have hMd:=HD.out.quiet (Keeps.refl (fun _=>False) wB).drew
  have HC:=hid (hMd.fo.pstep HOK.out.2.1 HOK.out.2.2.1 HOK.out.2.2.2 HCY.out)
  go_region_held3 (fun W=>((W.cell? ⟨p,0,none⟩=some (.pointer (some ⟨a,0,none⟩))∧W.cell? ⟨p,1,none⟩=some (.pointer (some ⟨m,0,none⟩))∧W.cell? ⟨p,2,none⟩=some (.pointer (some ⟨x,0,none⟩))∧W.cell? ⟨p,3,none⟩=some (.pointer (some ⟨y,0,none⟩)))∧(W.cell? ⟨w.heap.size,0,none⟩=some (.int .i64 7)∧W.cell? ⟨w.heap.size,1,none⟩=some (.int .i64 mm)∧W.cell? ⟨w.heap.size,2,none⟩=some (.int .i64 aa)∧W.cell? ⟨w.heap.size,3,none⟩=some (.int .i64 bb)∧W.cell? ⟨w.heap.size,4,none⟩=some (.int .i64 cc))∧(W.cell? ⟨w.heap.size,5,none⟩=some (.int .i64 r.s)∧W.cell? ⟨w.heap.size,6,none⟩=some (.int .u32 r.g))∧(W.cell? ⟨w.heap.size,7,none⟩=some (.int .i64 z.s)∧W.cell? ⟨w.heap.size,8,none⟩=some (.int .u32 z.g))))
   ((refine HPS.out _ ?_;first | with_reducible exact⟨_,_,_,_,hM8⟩ | with_reducible exact⟨_,_,_,_,hM7⟩ | with_reducible exact⟨_,_,_,_,hMd⟩))
   (first | (go_at_call 28;refine HC.out.mono ?_;rintro e w7 ⟨rfl,ho7⟩;have hM7:=hMd.op ho7) | (go_at_call 72;refine (hM7.fo.dstep HOK.out.2.1 HOK.out.2.2.1 HOK.out.2.2.2 HCY.out).mono ?_;rintro e w8 ⟨rfl,ho8⟩;have hM8:=hM7.op ho8))
  have HM8:=hid hM8
  clear hMd hM7 hM8 ho7 ho8 HC
  go_wp2_with fail
  go_ret
  exact⟨rfl,HM8.out.nx' HOK.out.1 (HOK.out.2.1.stepR HOK.out.2.2.1) HA.out (M.nxt_step A)⟩
 ·go_enter Tryz.func25,Tryz.ntmps25
  go_upto_region 1 with (fail)
  rw [HWB.out]
  go_wp2_with fail
  go_upto_region 16 with (fail)
  have hMd:=HD.out.quiet (Keeps.refl (fun _=>False) wB).drew
  have HC:=hid (hMd.fo.pbegin)
  go_region_held3 (fun W=>((W.cell? ⟨p,0,none⟩=some (.pointer (some ⟨a,0,none⟩))∧W.cell? ⟨p,1,none⟩=some (.pointer (some ⟨m,0,none⟩))∧W.cell? ⟨p,2,none⟩=some (.pointer (some ⟨x,0,none⟩))∧W.cell? ⟨p,3,none⟩=some (.pointer (some ⟨y,0,none⟩)))∧(W.cell? ⟨w.heap.size,0,none⟩=some (.int .i64 8)∧W.cell? ⟨w.heap.size,1,none⟩=some (.int .i64 mm)∧W.cell? ⟨w.heap.size,2,none⟩=some (.int .i64 aa)∧W.cell? ⟨w.heap.size,3,none⟩=some (.int .i64 bb)∧W.cell? ⟨w.heap.size,4,none⟩=some (.int .i64 cc))∧(W.cell? ⟨w.heap.size,5,none⟩=some (.int .i64 r.s)∧W.cell? ⟨w.heap.size,6,none⟩=some (.int .u32 r.g))∧(W.cell? ⟨w.heap.size,7,none⟩=some (.int .i64 z.s)∧W.cell? ⟨w.heap.size,8,none⟩=some (.int .u32 z.g))))
   ((refine HPS.out _ ?_;first | with_reducible exact⟨_,_,_,_,hM8⟩ | with_reducible exact⟨_,_,_,_,hM7⟩ | with_reducible exact⟨_,_,_,_,hMd⟩))
   (first | (go_at_call 53;refine HC.out.mono ?_;rintro e w7 ⟨rfl,ho7⟩;have hM7:=hMd.op ho7) | (go_at_call 73;refine (hM7.fo.dbegin).mono ?_;rintro e w8 ⟨rfl,ho8⟩;have hM8:=hM7.op ho8))
  have HM8:=hid hM8
  clear hMd hM7 hM8 ho7 ho8 HC
  go_wp2_with fail
  go_ret
  exact⟨rfl,HM8.out.nx' HOK.out.1 HOK.out.2.1.beginR HA.out M.nxt_begin⟩
 ·go_enter Tryz.func25,Tryz.ntmps25
  go_upto_region 1 with (fail)
  rw [HWB.out]
  go_wp2_with fail
  go_upto_region 18 with (fail)
  have hMd:=HD.out.quiet (Keeps.refl (fun _=>False) wB).drew
  have HC:=hid (hMd.fo.pgo HOK.out.2.1 HCY.out)
  go_region_held3 (fun W=>((W.cell? ⟨p,0,none⟩=some (.pointer (some ⟨a,0,none⟩))∧W.cell? ⟨p,1,none⟩=some (.pointer (some ⟨m,0,none⟩))∧W.cell? ⟨p,2,none⟩=some (.pointer (some ⟨x,0,none⟩))∧W.cell? ⟨p,3,none⟩=some (.pointer (some ⟨y,0,none⟩)))∧(W.cell? ⟨w.heap.size,0,none⟩=some (.int .i64 9)∧W.cell? ⟨w.heap.size,1,none⟩=some (.int .i64 mm)∧W.cell? ⟨w.heap.size,2,none⟩=some (.int .i64 aa)∧W.cell? ⟨w.heap.size,3,none⟩=some (.int .i64 bb)∧W.cell? ⟨w.heap.size,4,none⟩=some (.int .i64 cc))∧(W.cell? ⟨w.heap.size,5,none⟩=some (.int .i64 r.s)∧W.cell? ⟨w.heap.size,6,none⟩=some (.int .u32 r.g))∧(W.cell? ⟨w.heap.size,7,none⟩=some (.int .i64 z.s)∧W.cell? ⟨w.heap.size,8,none⟩=some (.int .u32 z.g))))
   ((refine HPS.out _ ?_;first | with_reducible exact⟨_,_,_,_,hM8⟩ | with_reducible exact⟨_,_,_,_,hM7⟩ | with_reducible exact⟨_,_,_,_,hMd⟩))
   (first | (go_at_call 56;refine HC.out.mono ?_;rintro e w7 ⟨rfl,ho7⟩;have hM7:=hMd.op ho7) | (go_at_call 74;refine (hM7.fo.dgo HOK.out.2.1 HCY.out).mono ?_;rintro e w8 ⟨rfl,ho8⟩;have hM8:=hM7.op ho8))
  have HM8:=hid hM8
  clear hMd hM7 hM8 ho7 ho8 HC
  go_wp2_with fail
  go_ret
  exact⟨rfl,HM8.out.nx' HOK.out.1 HOK.out.2.1.goR HA.out M.nxt_goR⟩
 ·obtain⟨fe,hfe⟩:∃ fe,(A.freeR r).2=fe:=⟨_,rfl⟩
  have HFE:=hid hfe
  have HFA:=hid (show (A.freeR r).1.Ok∧(A.freeR r).1.H.T.n=M.P.n∧(A.freeR r).1.many=M.K.many from⟨HOK.out.1.freeR _,(Ar.freeR_n _ _).1.trans HA.out.1,(Ar.freeR_n _ _).2.trans HA.out.2⟩)
  clear hfe
  go_enter Tryz.func25,Tryz.ntmps25
  go_upto_region 1 with (fail)
  rw [HWB.out]
  go_wp2_with fail
  go_upto_region 20 with (fail)
  have hMd:=HD.out.quiet (Keeps.refl (fun _=>False) wB).drew
  have HC:=hid (hMd.fo.pfree HOK.out.1 r)
  rw [HFE.out] at HC
  go_region_held3 (fun W=>((W.cell? ⟨p,0,none⟩=some (.pointer (some ⟨a,0,none⟩))∧W.cell? ⟨p,1,none⟩=some (.pointer (some ⟨m,0,none⟩))∧W.cell? ⟨p,2,none⟩=some (.pointer (some ⟨x,0,none⟩))∧W.cell? ⟨p,3,none⟩=some (.pointer (some ⟨y,0,none⟩)))∧(W.cell? ⟨w.heap.size,0,none⟩=some (.int .i64 10)∧W.cell? ⟨w.heap.size,1,none⟩=some (.int .i64 mm)∧W.cell? ⟨w.heap.size,2,none⟩=some (.int .i64 aa)∧W.cell? ⟨w.heap.size,3,none⟩=some (.int .i64 bb)∧W.cell? ⟨w.heap.size,4,none⟩=some (.int .i64 cc))∧(W.cell? ⟨w.heap.size,5,none⟩=some (.int .i64 r.s)∧W.cell? ⟨w.heap.size,6,none⟩=some (.int .u32 r.g))∧(W.cell? ⟨w.heap.size,7,none⟩=some (.int .i64 z.s)∧W.cell? ⟨w.heap.size,8,none⟩=some (.int .u32 z.g))))
   ((refine HPS.out _ ?_;first | with_reducible exact⟨_,_,_,_,hM7⟩ | with_reducible exact⟨_,_,_,_,hMd⟩))
   (first | (go_at_call 35;refine HC.out.mono ?_;rintro e w7 ⟨rfl,ho7⟩;have hM7:=hMd.op ho7))
  have HM7:=hid hM7
  clear hMd hM7 ho7 HC
  go_upto_region 21 with (fail)
  have hMd:=HM7.out.quiet (Keeps.refl (fun _=>False) w7).drew
  have HC:=hid (hMd.fo.dfree (fun z h=>h.elim) r)
  rw [HFE.out] at HC
  by_cases he:fe=0
  ·subst he
   go_region_held3 (fun W=>((W.cell? ⟨p,0,none⟩=some (.pointer (some ⟨a,0,none⟩))∧W.cell? ⟨p,1,none⟩=some (.pointer (some ⟨m,0,none⟩))∧W.cell? ⟨p,2,none⟩=some (.pointer (some ⟨x,0,none⟩))∧W.cell? ⟨p,3,none⟩=some (.pointer (some ⟨y,0,none⟩)))∧(W.cell? ⟨w.heap.size,0,none⟩=some (.int .i64 10)∧W.cell? ⟨w.heap.size,1,none⟩=some (.int .i64 mm)∧W.cell? ⟨w.heap.size,2,none⟩=some (.int .i64 aa)∧W.cell? ⟨w.heap.size,3,none⟩=some (.int .i64 bb)∧W.cell? ⟨w.heap.size,4,none⟩=some (.int .i64 cc))∧(W.cell? ⟨w.heap.size,5,none⟩=some (.int .i64 r.s)∧W.cell? ⟨w.heap.size,6,none⟩=some (.int .u32 r.g))∧(W.cell? ⟨w.heap.size,7,none⟩=some (.int .i64 z.s)∧W.cell? ⟨w.heap.size,8,none⟩=some (.int .u32 z.g))))
    ((refine HPS.out _ ?_;first | with_reducible exact⟨_,_,_,_,hM10⟩ | with_reducible exact⟨_,_,_,_,hM9⟩ | with_reducible exact⟨_,_,_,_,hM8⟩ | with_reducible exact⟨_,_,_,_,hMd⟩))
    (first | (go_at_call 75;refine HC.out.mono ?_;rintro e w8 ⟨rfl,ho8⟩;have hM8:=hMd.op ho8) | (go_at_call 36;refine (hM8.fo.pfreed r.s).mono ?_;rintro e w9 ⟨rfl,ho9⟩;have hM9:=hM8.op ho9) | (go_at_call 76;refine (hM9.fo.dfreed r.s).mono ?_;rintro e w10 ⟨rfl,ho10⟩;have hM10:=hM9.op ho10))
   have HM8:=hid hM10
   clear hMd hM8 ho8 hM9 ho9 hM10 ho10 HC
   go_wp2_with fail
   go_ret
   exact⟨rfl,HM8.out.nx' HFA.out.1 (HOK.out.2.1.freedR _) HFA.out.2 (M.nxt_freed _)⟩
  ·have hne:(fe != 0)=true:=by simp [he]
   clear he
   refine wp_region_first 32 (fun W=>((W.cell? ⟨p,0,none⟩=some (.pointer (some ⟨a,0,none⟩))∧W.cell? ⟨p,1,none⟩=some (.pointer (some ⟨m,0,none⟩))∧W.cell? ⟨p,2,none⟩=some (.pointer (some ⟨x,0,none⟩))∧W.cell? ⟨p,3,none⟩=some (.pointer (some ⟨y,0,none⟩)))∧(W.cell? ⟨w.heap.size,0,none⟩=some (.int .i64 10)∧W.cell? ⟨w.heap.size,1,none⟩=some (.int .i64 mm)∧W.cell? ⟨w.heap.size,2,none⟩=some (.int .i64 aa)∧W.cell? ⟨w.heap.size,3,none⟩=some (.int .i64 bb)∧W.cell? ⟨w.heap.size,4,none⟩=some (.int .i64 cc))∧(W.cell? ⟨w.heap.size,5,none⟩=some (.int .i64 r.s)∧W.cell? ⟨w.heap.size,6,none⟩=some (.int .u32 r.g))∧(W.cell? ⟨w.heap.size,7,none⟩=some (.int .i64 z.s)∧W.cell? ⟨w.heap.size,8,none⟩=some (.int .u32 z.g)))) (by kernel_rfl) (HPS.out _ ⟨_,_,_,_,hMd⟩) (fun hS=>?_)
   refine wpAnyU_take 0 (v:=?_) rfl (by kernel_rfl) (by kernel_rfl) (by kernel_rfl) (by kernel_rfl) (fun _ _ _ h=>h) (Or.inl ⟨by rfl,?_⟩) (by assumption) ?_
   rotate_left
   ·(intro w hSw;(try dsimp only at hSw);simp only [List.getElem_toArray,List.getElem_cons_zero,List.getElem_cons_succ];go_simp;(first | done | with_reducible rfl))
   simp only [List.getElem_toArray,List.getElem_cons_zero,List.getElem_cons_succ,Act.put,List.setIfInBounds_toArray,List.set_cons_zero,List.set_cons_succ]
   refine wpAnyU_take 1 (v:=?_) rfl (by kernel_rfl) (by kernel_rfl) (by kernel_rfl) (by kernel_rfl) (fun _ _ _ h=>h) (Or.inl ⟨by rfl,?_⟩) (by assumption) ?_
   rotate_left
   ·(intro w hSw;(try dsimp only at hSw);simp only [List.getElem_toArray,List.getElem_cons_zero,List.getElem_cons_succ];go_simp;(first | done | with_reducible rfl))
   simp only [List.getElem_toArray,List.getElem_cons_zero,List.getElem_cons_succ,Act.put,List.setIfInBounds_toArray,List.set_cons_zero,List.set_cons_succ]
   refine wpAnyU_take 2 (v:=?_) rfl (by kernel_rfl) (by kernel_rfl) (by kernel_rfl) (by kernel_rfl) (fun _ _ _ h=>h) (Or.inl ⟨by rfl,?_⟩) (by assumption) ?_
   rotate_left
   ·(intro w hSw;(try dsimp only at hSw);simp only [List.getElem_toArray,List.getElem_cons_zero,List.getElem_cons_succ];go_simp;(first | done | with_reducible rfl))
   simp only [List.getElem_toArray,List.getElem_cons_zero,List.getElem_cons_succ,Act.put,List.setIfInBounds_toArray,List.set_cons_zero,List.set_cons_succ]
   refine wpAnyU_take 3 (v:=?_) rfl (by kernel_rfl) (by kernel_rfl) (by kernel_rfl) (by kernel_rfl) (fun _ _ _ h=>h) (Or.inl ⟨by rfl,?_⟩) (by assumption) ?_
   rotate_left
   ·(intro w hSw;(try dsimp only at hSw);simp only [List.getElem_toArray,List.getElem_cons_zero,List.getElem_cons_succ];go_simp;(first | done | with_reducible rfl))
   simp only [List.getElem_toArray,List.getElem_cons_zero,List.getElem_cons_succ,Act.put,List.setIfInBounds_toArray,List.set_cons_zero,List.set_cons_succ]
   refine wpAnyU_take 4 (v:=?_) rfl (by kernel_rfl) (by kernel_rfl) (by kernel_rfl) (by kernel_rfl) (fun _ _ _ h=>h) (Or.inl ⟨by rfl,?_⟩) (by assumption) ?_
   rotate_left
   ·(intro w hSw;(try dsimp only at hSw);simp only [List.getElem_toArray,List.getElem_cons_zero,List.getElem_cons_succ];go_simp;(first | done | with_reducible rfl))
   simp only [List.getElem_toArray,List.getElem_cons_zero,List.getElem_cons_succ,Act.put,List.setIfInBounds_toArray,List.set_cons_zero,List.set_cons_succ]
   refine wpAnyU_take 5 (v:=?_) rfl (by kernel_rfl) (by kernel_rfl) (by kernel_rfl) (by kernel_rfl) (fun _ _ _ h=>h) (Or.inl ⟨by rfl,?_⟩) (by assumption) ?_
   rotate_left
   ·(intro w hSw;(try dsimp only at hSw);simp only [List.getElem_toArray,List.getElem_cons_zero,List.getElem_cons_succ];go_simp;(first | done | with_reducible rfl))
   simp only [List.getElem_toArray,List.getElem_cons_zero,List.getElem_cons_succ,Act.put,List.setIfInBounds_toArray,List.set_cons_zero,List.set_cons_succ]
   refine wpAnyU_take 6 (v:=?_) rfl (by kernel_rfl) (by kernel_rfl) (by kernel_rfl) (by kernel_rfl) (fun _ _ _ h=>h) (Or.inl ⟨by rfl,?_⟩) (by assumption) ?_
   rotate_left
   ·(intro w hSw;(try dsimp only at hSw);simp only [List.getElem_toArray,List.getElem_cons_zero,List.getElem_cons_succ];go_simp;(first | done | with_reducible rfl))
   simp only [List.getElem_toArray,List.getElem_cons_zero,List.getElem_cons_succ,Act.put,List.setIfInBounds_toArray,List.set_cons_zero,List.set_cons_succ]
   refine wpAnyU_one (i:=7) (by kernel_rfl) rfl rfl (fun K hK=>?_)
   go_simp
   go_at_call 75
   refine HC.out.mono ?_
   rintro e w8 ⟨rfl,ho8⟩
   have hM8:=hMd.op ho8
   refine hK.out _ _ ?_ (fun hHeld=>?_)
   ·exact (HPS.out _ ⟨_,_,_,_,hM8⟩)
   clear hK K
   try dsimp only [Act.put,List.setIfInBounds_toArray,List.set_cons_zero,List.set_cons_succ]
   refine wpAnyU_take 8 (v:=?_) rfl (by kernel_rfl) (by kernel_rfl) (by kernel_rfl) (by kernel_rfl) (fun _ _ _ h=>h) (Or.inl ⟨by rfl,?_⟩) (by assumption) ?_
   rotate_left
   ·(intro w hSw;(try dsimp only at hSw);simp only [List.getElem_toArray,List.getElem_cons_zero,List.getElem_cons_succ];go_simp;(first | done | with_reducible rfl))
   simp only [List.getElem_toArray,List.getElem_cons_zero,List.getElem_cons_succ,Act.put,List.setIfInBounds_toArray,List.set_cons_zero,List.set_cons_succ]
   refine wpAnyU_take 9 (v:=?_) rfl (by kernel_rfl) (by kernel_rfl) (by kernel_rfl) (by kernel_rfl) (fun _ _ _ h=>h) (Or.inl ⟨by rfl,?_⟩) (by assumption) ?_
   rotate_left
   ·(intro w hSw;(try dsimp only at hSw);simp only [List.getElem_toArray,List.getElem_cons_zero,List.getElem_cons_succ];go_simp;(first | done | with_reducible rfl))
   simp only [List.getElem_toArray,List.getElem_cons_zero,List.getElem_cons_succ,Act.put,List.setIfInBounds_toArray,List.set_cons_zero,List.set_cons_succ]
   refine wpAnyU_take 10 (v:=?_) rfl (by kernel_rfl) (by kernel_rfl) (by kernel_rfl) (by kernel_rfl) (fun _ _ _ h=>h) (Or.inl ⟨by rfl,?_⟩) (by assumption) ?_
   rotate_left
   ·(intro w hSw;(try dsimp only at hSw);simp only [List.getElem_toArray,List.getElem_cons_zero,List.getElem_cons_succ];go_simp;(first | done | with_reducible rfl))
   simp only [List.getElem_toArray,List.getElem_cons_zero,List.getElem_cons_succ,Act.put,List.setIfInBounds_toArray,List.set_cons_zero,List.set_cons_succ]
   refine wpAnyU_take 11 (v:=?_) rfl (by kernel_rfl) (by kernel_rfl) (by kernel_rfl) (by kernel_rfl) (fun _ _ _ h=>h) (Or.inl ⟨by rfl,?_⟩) (by assumption) ?_
   rotate_left
   ·(intro w hSw;(try dsimp only at hSw);simp only [List.getElem_toArray,List.getElem_cons_zero,List.getElem_cons_succ];go_simp;(first | done | with_reducible rfl))
   simp only [List.getElem_toArray,List.getElem_cons_zero,List.getElem_cons_succ,Act.put,List.setIfInBounds_toArray,List.set_cons_zero,List.set_cons_succ]
   refine wpAnyU_take 12 (v:=?_) rfl (by kernel_rfl) (by kernel_rfl) (by kernel_rfl) (by kernel_rfl) (fun _ _ _ h=>h) (Or.inl ⟨by rfl,?_⟩) (by assumption) ?_
   rotate_left
   ·(intro w hSw;(try dsimp only at hSw);simp only [List.getElem_toArray,List.getElem_cons_zero,List.getElem_cons_succ];go_simp;(first | done | with_reducible rfl))
   simp only [List.getElem_toArray,List.getElem_cons_zero,List.getElem_cons_succ,Act.put,List.setIfInBounds_toArray,List.set_cons_zero,List.set_cons_succ]
   refine wpAnyU_take 13 (v:=undef) rfl (by kernel_rfl) (by kernel_rfl) (by kernel_rfl) (by kernel_rfl) (fun _ _ _ h=>h) (Or.inr ⟨by rfl,rfl⟩) (by assumption) ?_
   simp only [List.getElem_toArray,List.getElem_cons_zero,List.getElem_cons_succ,Act.put,List.setIfInBounds_toArray,List.set_cons_zero,List.set_cons_succ]
   refine wpAnyU_take 14 (v:=undef) rfl (by kernel_rfl) (by kernel_rfl) (by kernel_rfl) (by kernel_rfl) (fun _ _ _ h=>h) (Or.inr ⟨by rfl,rfl⟩) (by assumption) ?_
   simp only [List.getElem_toArray,List.getElem_cons_zero,List.getElem_cons_succ,Act.put,List.setIfInBounds_toArray,List.set_cons_zero,List.set_cons_succ]
   refine wpAnyU_take 15 (v:=undef) rfl (by kernel_rfl) (by kernel_rfl) (by kernel_rfl) (by kernel_rfl) (fun _ _ _ h=>h) (Or.inr ⟨by rfl,rfl⟩) (by assumption) ?_
   simp only [List.getElem_toArray,List.getElem_cons_zero,List.getElem_cons_succ,Act.put,List.setIfInBounds_toArray,List.set_cons_zero,List.set_cons_succ]
   refine wpAnyU_take 16 (v:=undef) rfl (by kernel_rfl) (by kernel_rfl) (by kernel_rfl) (by kernel_rfl) (fun _ _ _ h=>h) (Or.inr ⟨by rfl,rfl⟩) (by assumption) ?_
   simp only [List.getElem_toArray,List.getElem_cons_zero,List.getElem_cons_succ,Act.put,List.setIfInBounds_toArray,List.set_cons_zero,List.set_cons_succ]
   refine wpAnyU_take 17 (v:=undef) rfl (by kernel_rfl) (by kernel_rfl) (by kernel_rfl) (by kernel_rfl) (fun _ _ _ h=>h) (Or.inr ⟨by rfl,rfl⟩) (by assumption) ?_
   simp only [List.getElem_toArray,List.getElem_cons_zero,List.getElem_cons_succ,Act.put,List.setIfInBounds_toArray,List.set_cons_zero,List.set_cons_succ]
   refine wpAnyU_take 18 (v:=undef) rfl (by kernel_rfl) (by kernel_rfl) (by kernel_rfl) (by kernel_rfl) (fun _ _ _ h=>h) (Or.inr ⟨by rfl,rfl⟩) (by assumption) ?_
   simp only [List.getElem_toArray,List.getElem_cons_zero,List.getElem_cons_succ,Act.put,List.setIfInBounds_toArray,List.set_cons_zero,List.set_cons_succ]
   refine wpAnyU_take 19 (v:=undef) rfl (by kernel_rfl) (by kernel_rfl) (by kernel_rfl) (by kernel_rfl) (fun _ _ _ h=>h) (Or.inr ⟨by rfl,rfl⟩) (by assumption) ?_
   simp only [List.getElem_toArray,List.getElem_cons_zero,List.getElem_cons_succ,Act.put,List.setIfInBounds_toArray,List.set_cons_zero,List.set_cons_succ]
   refine wpAnyU_take 20 (v:=undef) rfl (by kernel_rfl) (by kernel_rfl) (by kernel_rfl) (by kernel_rfl) (fun _ _ _ h=>h) (Or.inr ⟨by rfl,rfl⟩) (by assumption) ?_
   simp only [List.getElem_toArray,List.getElem_cons_zero,List.getElem_cons_succ,Act.put,List.setIfInBounds_toArray,List.set_cons_zero,List.set_cons_succ]
   refine wpAnyU_take 21 (v:=undef) rfl (by kernel_rfl) (by kernel_rfl) (by kernel_rfl) (by kernel_rfl) (fun _ _ _ h=>h) (Or.inr ⟨by rfl,rfl⟩) (by assumption) ?_
   simp only [List.getElem_toArray,List.getElem_cons_zero,List.getElem_cons_succ,Act.put,List.setIfInBounds_toArray,List.set_cons_zero,List.set_cons_succ]
   refine wpAnyU_take 22 (v:=undef) rfl (by kernel_rfl) (by kernel_rfl) (by kernel_rfl) (by kernel_rfl) (fun _ _ _ h=>h) (Or.inr ⟨by rfl,rfl⟩) (by assumption) ?_
   simp only [List.getElem_toArray,List.getElem_cons_zero,List.getElem_cons_succ,Act.put,List.setIfInBounds_toArray,List.set_cons_zero,List.set_cons_succ]
   refine wpAnyU_take 23 (v:=undef) rfl (by kernel_rfl) (by kernel_rfl) (by kernel_rfl) (by kernel_rfl) (fun _ _ _ h=>h) (Or.inr ⟨by rfl,rfl⟩) (by assumption) ?_
   simp only [List.getElem_toArray,List.getElem_cons_zero,List.getElem_cons_succ,Act.put,List.setIfInBounds_toArray,List.set_cons_zero,List.set_cons_succ]
   refine wpAnyU_take 24 (v:=undef) rfl (by kernel_rfl) (by kernel_rfl) (by kernel_rfl) (by kernel_rfl) (fun _ _ _ h=>h) (Or.inr ⟨by rfl,rfl⟩) (by assumption) ?_
   simp only [List.getElem_toArray,List.getElem_cons_zero,List.getElem_cons_succ,Act.put,List.setIfInBounds_toArray,List.set_cons_zero,List.set_cons_succ]
   refine wpAnyU_take 25 (v:=undef) rfl (by kernel_rfl) (by kernel_rfl) (by kernel_rfl) (by kernel_rfl) (fun _ _ _ h=>h) (Or.inr ⟨by rfl,rfl⟩) (by assumption) ?_
   simp only [List.getElem_toArray,List.getElem_cons_zero,List.getElem_cons_succ,Act.put,List.setIfInBounds_toArray,List.set_cons_zero,List.set_cons_succ]
   refine wpAnyU_take 26 (v:=undef) rfl (by kernel_rfl) (by kernel_rfl) (by kernel_rfl) (by kernel_rfl) (fun _ _ _ h=>h) (Or.inr ⟨by rfl,rfl⟩) (by assumption) ?_
   simp only [List.getElem_toArray,List.getElem_cons_zero,List.getElem_cons_succ,Act.put,List.setIfInBounds_toArray,List.set_cons_zero,List.set_cons_succ]
   refine wpAnyU_take 27 (v:=undef) rfl (by kernel_rfl) (by kernel_rfl) (by kernel_rfl) (by kernel_rfl) (fun _ _ _ h=>h) (Or.inr ⟨by rfl,rfl⟩) (by assumption) ?_
   simp only [List.getElem_toArray,List.getElem_cons_zero,List.getElem_cons_succ,Act.put,List.setIfInBounds_toArray,List.set_cons_zero,List.set_cons_succ]
   refine wpAnyU_take 28 (v:=undef) rfl (by kernel_rfl) (by kernel_rfl) (by kernel_rfl) (by kernel_rfl) (fun _ _ _ h=>h) (Or.inr ⟨by rfl,rfl⟩) (by assumption) ?_
   simp only [List.getElem_toArray,List.getElem_cons_zero,List.getElem_cons_succ,Act.put,List.setIfInBounds_toArray,List.set_cons_zero,List.set_cons_succ]
   refine wpAnyU_take 29 (v:=undef) rfl (by kernel_rfl) (by kernel_rfl) (by kernel_rfl) (by kernel_rfl) (fun _ _ _ h=>h) (Or.inr ⟨by rfl,rfl⟩) (by assumption) ?_
   simp only [List.getElem_toArray,List.getElem_cons_zero,List.getElem_cons_succ,Act.put,List.setIfInBounds_toArray,List.set_cons_zero,List.set_cons_succ]
   refine wpAnyU_take 30 (v:=?_) rfl (by kernel_rfl) (by kernel_rfl) (by kernel_rfl) (by kernel_rfl) (fun _ _ _ h=>h) (Or.inl ⟨by rfl,?_⟩) (by assumption) ?_
   rotate_left
   ·(intro w hSw;(try dsimp only at hSw);simp only [List.getElem_toArray,List.getElem_cons_zero,List.getElem_cons_succ];go_simp;(first | done | with_reducible rfl))
   simp only [List.getElem_toArray,List.getElem_cons_zero,List.getElem_cons_succ,Act.put,List.setIfInBounds_toArray,List.set_cons_zero,List.set_cons_succ]
   refine wpAnyU_take 31 (v:=?_) rfl (by kernel_rfl) (by kernel_rfl) (by kernel_rfl) (by kernel_rfl) (fun _ _ _ h=>h) (Or.inl ⟨by rfl,?_⟩) (by assumption) ?_
   rotate_left
   ·(intro w hSw;(try dsimp only at hSw);simp only [List.getElem_toArray,List.getElem_cons_zero,List.getElem_cons_succ];go_simp;(first | done | with_reducible rfl))
   simp only [List.getElem_toArray,List.getElem_cons_zero,List.getElem_cons_succ,Act.put,List.setIfInBounds_toArray,List.set_cons_zero,List.set_cons_succ]
   refine wpAnyU_turn (by kernel_rfl) rfl (fun K hK=>?_)
   go_simp
   refine hK.out _ _ ?_
   refine wpAny_last (by kernel_rfl) ?_
   refine NoPanic.normal ?_
   have HM8:=hid hM8
   clear hMd hM8 ho8 HC hS
   go_wp2_with fail
   go_ret
   exact⟨rfl,HM8.out.nx' HFA.out.1 HOK.out.2.1 HFA.out.2 (Mk.Nxt.rfl' M)⟩
 ·go_enter Tryz.func25,Tryz.ntmps25
  go_upto_region 1 with (fail)
  rw [HWB.out]
  go_wp2_with fail
  go_upto_region 23 with (fail)
  have hMd:=HD.out.quiet (Keeps.refl (fun _=>False) wB).drew
  have HC:=hid (hMd.fo.pwrote mm r z)
  go_region_held3 (fun W=>((W.cell? ⟨p,0,none⟩=some (.pointer (some ⟨a,0,none⟩))∧W.cell? ⟨p,1,none⟩=some (.pointer (some ⟨m,0,none⟩))∧W.cell? ⟨p,2,none⟩=some (.pointer (some ⟨x,0,none⟩))∧W.cell? ⟨p,3,none⟩=some (.pointer (some ⟨y,0,none⟩)))∧(W.cell? ⟨w.heap.size,0,none⟩=some (.int .i64 11)∧W.cell? ⟨w.heap.size,1,none⟩=some (.int .i64 mm)∧W.cell? ⟨w.heap.size,2,none⟩=some (.int .i64 aa)∧W.cell? ⟨w.heap.size,3,none⟩=some (.int .i64 bb)∧W.cell? ⟨w.heap.size,4,none⟩=some (.int .i64 cc))∧(W.cell? ⟨w.heap.size,5,none⟩=some (.int .i64 r.s)∧W.cell? ⟨w.heap.size,6,none⟩=some (.int .u32 r.g))∧(W.cell? ⟨w.heap.size,7,none⟩=some (.int .i64 z.s)∧W.cell? ⟨w.heap.size,8,none⟩=some (.int .u32 z.g))))
   ((refine HPS.out _ ?_;first | with_reducible exact⟨_,_,_,_,hM8⟩ | with_reducible exact⟨_,_,_,_,hM7⟩ | with_reducible exact⟨_,_,_,_,hMd⟩))
   (first | (go_at_call 77;refine HC.out.mono ?_;rintro e w7 ⟨rfl,ho7⟩;have hM7:=hMd.op ho7) | (go_at_call 78;refine (hM7.fo.dwrote mm r z).mono ?_;rintro e w8 ⟨rfl,ho8⟩;have hM8:=hM7.op ho8))
  have HM8:=hid hM8
  clear hMd hM7 hM8 ho7 ho8 HC
  go_wp2_with fail
  go_ret
  exact⟨rfl,HM8.out.nx' HOK.out.1 (HOK.out.2.1.wroteR _ _ _) HA.out (M.nxt_wrote _ _ _)⟩
 ·go_enter Tryz.func25,Tryz.ntmps25
  go_upto_region 1 with (fail)
  rw [HWB.out]
  go_wp2_with fail
  go_upto_region 25 with (fail)
  have hMd:=HD.out.quiet (Keeps.refl (fun _=>False) wB).drew
  have HC:=hid (hMd.fo.pmade r)
  go_region_held3 (fun W=>((W.cell? ⟨p,0,none⟩=some (.pointer (some ⟨a,0,none⟩))∧W.cell? ⟨p,1,none⟩=some (.pointer (some ⟨m,0,none⟩))∧W.cell? ⟨p,2,none⟩=some (.pointer (some ⟨x,0,none⟩))∧W.cell? ⟨p,3,none⟩=some (.pointer (some ⟨y,0,none⟩)))∧(W.cell? ⟨w.heap.size,0,none⟩=some (.int .i64 12)∧W.cell? ⟨w.heap.size,1,none⟩=some (.int .i64 mm)∧W.cell? ⟨w.heap.size,2,none⟩=some (.int .i64 aa)∧W.cell? ⟨w.heap.size,3,none⟩=some (.int .i64 bb)∧W.cell? ⟨w.heap.size,4,none⟩=some (.int .i64 cc))∧(W.cell? ⟨w.heap.size,5,none⟩=some (.int .i64 r.s)∧W.cell? ⟨w.heap.size,6,none⟩=some (.int .u32 r.g))∧(W.cell? ⟨w.heap.size,7,none⟩=some (.int .i64 z.s)∧W.cell? ⟨w.heap.size,8,none⟩=some (.int .u32 z.g))))
   ((refine HPS.out _ ?_;first | with_reducible exact⟨_,_,_,_,hM8⟩ | with_reducible exact⟨_,_,_,_,hM7⟩ | with_reducible exact⟨_,_,_,_,hMd⟩))
   (first | (go_at_call 79;refine HC.out.mono ?_;rintro e w7 ⟨rfl,ho7⟩;have hM7:=hMd.op ho7) | (go_at_call 80;refine (hM7.fo.dmade r).mono ?_;rintro e w8 ⟨rfl,ho8⟩;have hM8:=hM7.op ho8))
  have HM8:=hid hM8
  clear hMd hM7 hM8 ho7 ho8 HC
  go_wp2_with fail
  go_ret
  exact⟨rfl,HM8.out.nx' HOK.out.1 (HOK.out.2.1.madeR _) HA.out (M.nxt_made _)⟩
 ·go_enter Tryz.func25,Tryz.ntmps25
  go_upto_region 1 with (fail)
  rw [HWB.out]
  go_wp2_with fail
  go_upto_region 27 with (fail)
  have hMd:=HD.out.quiet (Keeps.refl (fun _=>False) wB).drew
  have HC:=hid (hMd.fo.pfreed aa)
  go_region_held3 (fun W=>((W.cell? ⟨p,0,none⟩=some (.pointer (some ⟨a,0,none⟩))∧W.cell? ⟨p,1,none⟩=some (.pointer (some ⟨m,0,none⟩))∧W.cell? ⟨p,2,none⟩=some (.pointer (some ⟨x,0,none⟩))∧W.cell? ⟨p,3,none⟩=some (.pointer (some ⟨y,0,none⟩)))∧(W.cell? ⟨w.heap.size,0,none⟩=some (.int .i64 13)∧W.cell? ⟨w.heap.size,1,none⟩=some (.int .i64 mm)∧W.cell? ⟨w.heap.size,2,none⟩=some (.int .i64 aa)∧W.cell? ⟨w.heap.size,3,none⟩=some (.int .i64 bb)∧W.cell? ⟨w.heap.size,4,none⟩=some (.int .i64 cc))∧(W.cell? ⟨w.heap.size,5,none⟩=some (.int .i64 r.s)∧W.cell? ⟨w.heap.size,6,none⟩=some (.int .u32 r.g))∧(W.cell? ⟨w.heap.size,7,none⟩=some (.int .i64 z.s)∧W.cell? ⟨w.heap.size,8,none⟩=some (.int .u32 z.g))))
   ((refine HPS.out _ ?_;first | with_reducible exact⟨_,_,_,_,hM8⟩ | with_reducible exact⟨_,_,_,_,hM7⟩ | with_reducible exact⟨_,_,_,_,hMd⟩))
   (first | (go_at_call 36;refine HC.out.mono ?_;rintro e w7 ⟨rfl,ho7⟩;have hM7:=hMd.op ho7) | (go_at_call 76;refine (hM7.fo.dfreed aa).mono ?_;rintro e w8 ⟨rfl,ho8⟩;have hM8:=hM7.op ho8))
  have HM8:=hid hM8
  clear hMd hM7 hM8 ho7 ho8 HC
  go_wp2_with fail
  go_ret
  exact⟨rfl,HM8.out.nx' HOK.out.1 (HOK.out.2.1.freedR _) HA.out (M.nxt_freed _)⟩
 ·have q6:(d == 6)=false:=by simp [n6]
  have q7:(d == 7)=false:=by simp [n7]
  have q8:(d == 8)=false:=by simp [n8]
  have q9:(d == 9)=false:=by simp [n9]
  have q10:(d == 10)=false:=by simp [n10]
  have q11:(d == 11)=false:=by simp [n11]
  have q12:(d == 12)=false:=by simp [n12]
  have q13:(d == 13)=false:=by simp [n13]
  have q14:(d == 14)=false:=by have:=HDD.out;simp [this]
  clear n6 n7 n8 n9 n10 n11 n12 n13
  go_enter Tryz.func25,Tryz.ntmps25
  go_upto_region 1 with (fail)
  rw [HWB.out]
  go_wp2_with fail
  go_ret
  exact⟨rfl,HD.out.nx' HOK.out.1 HOK.out.2.1 HA.out (Mk.Nxt.rfl' M)⟩
end
end Go.Proofs.YtnlkfbndlngjaaaGreat
