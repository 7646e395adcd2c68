import Derived.Test.YtjfmagccmjdhoaaGreatCkJ
set_option maxHeartbeats 4000000
set_option maxRecDepth 100000
namespace Go.Proofs.YtjfmagccmjdhoaaGreat
open Go.RowKit
variable {w0 w w':World} {p a m b c:Nat} {LA:ArL} {LM:MkL} {k:Col} {f:List Rf}
theorem more_len (R:CyRes) (f:List Rf):(R.more f).length≤f.length+1:=by
 unfold CyRes.more
 split
 ·simp
 ·omega
theorem cy_le' {k:Col} (h:k.Ok):k.s.M.K.cy≤k.C.begun:=by have:=h.bg;omega
theorem qJ (h:Pair w0 w p a m b c LA LM k f):w.cell? ⟨p,0,none⟩=some (.pointer (some ⟨a,0,none⟩))∧w.cell? ⟨p,1,none⟩=some (.pointer (some ⟨c,0,none⟩))∧p<w.heap.size:=by
 obtain⟨v,h1,_⟩:=h.ex
 obtain⟨x0,x1,_,_,xl⟩:=cells4 h1
 exact⟨x0,x1,xl⟩
def Col.tn (k:Col) (l:List Mv) (i:Nat):Col × List Rf:=(l.take i).foldl (fun s x=>x.turn26 s.1 s.2) (k,[])
theorem Col.tn_succ (k:Col) (l:List Mv) {i:Nat} {x:Mv} (h:l[i]?=some x):k.tn l (i+1)=x.turn26 (k.tn l i).1 (k.tn l i).2:=by
 unfold Col.tn
 rw [List.take_add_one,h,List.foldl_append]
 rfl
theorem Col.tn_ok {k:Col} (hok:k.Ok) (l:List Mv):∀ i,i≤l.length→(k.tn l i).1.Ok∧k.Like (k.tn l i).1∧(k.tn l i).1.C.begun≤k.C.begun+8 * i∧(k.tn l i).2.length≤8 * i:=by
 intro i
 induction i with
 | zero=>intro _;exact⟨hok,Col.Like.refl k,Nat.le_refl _,Nat.le_refl _⟩
 | succ i ih=>
  intro hi
  obtain⟨h1,h2,h3,h4⟩:=ih (by omega)
  obtain⟨x,hx⟩:∃ x,l[i]?=some x:=⟨_,List.getElem?_eq_getElem (by omega)⟩
  obtain⟨g1,g2,g3,g4⟩:=turn26_ok x h1 (k.tn l i).2
  rw [Col.tn_succ k l hx]
  exact⟨g1,h2.trans g2,by omega,by omega⟩
section
variable {w0 w w':World} {p a m b c:Nat} {LA:ArL} {LM:MkL} {k:Col} {f:List Rf}
theorem pplay {l:List Mv} {i:Nat} {x:Mv} (h:Pair w0 w p a m b c LA LM (k.tn l i).1 (k.tn l i).2) (hok:k.Ok) (hx:l[i]?=some x) (hxb:x.Byte) (hb:k.C.begun+8 * i+100<4611686018427387904) (hl:8 * i+100≤100000):
 Calls Tryz.prog 12 #[.pointer (some ⟨p,0,none⟩),x.val] w fun e w'=>e = .returned (.tuple #[])∧Pair w0 w' p a m b c LA LM (k.tn l (i+1)).1 (k.tn l (i+1)).2∧PKeep w w' p (zV LA LM b c k.s):=by
 have hi:i<l.length:=by
  rcases Nat.lt_or_ge i l.length with h | h
  ·exact h
  ·rw [List.getElem?_eq_none h] at hx;cases hx
 obtain⟨o1,o2,o3,o4⟩:=Col.tn_ok hok l i (by omega)
 have hp:=pturn x h o1 hxb (by omega) (by omega)
 rw [Col.tn_succ k l hx,← foot3_of (LA:=LA) (LM:=LM) (b:=b) (c:=c) o2.2.2 o2.1]
 exact hp
theorem pair_ask (h:Pair w0 w p a m b c LA LM k f) (hb:k.C.begun<4611686018427387904):Calls Tryz.prog 15 #[.pointer (some ⟨c,0,none⟩)] w
 fun e w'=>e = .returned (.bool k.askR.2)∧Pair w0 w' p a m b c LA LM k.askR.1 f:=by
 refine (cyask h.q hb).mono ?_
 rintro e w' ⟨rfl,hq,hk⟩
 exact⟨rfl,(h.fin hk hq).1⟩
theorem pair_acked (h:Pair w0 w p a m b c LA LM k f) (hok:k.Ok) (i:Int):Calls Tryz.prog 16 #[.pointer (some ⟨c,0,none⟩),.pointer (some ⟨a,0,none⟩),.int .i64 i] w
 fun e w'=>e = .returned (.tuple #[.bool (k.s.M.ackR k.s.A i).is,.int .i64 (k.s.M.ackR k.s.A i).e])∧Pair w0 w' p a m b c LA LM ⟨⟨k.s.A,(k.s.M.ackR k.s.A i).M⟩,k.C⟩ f:=by
 refine (cyack h.q hok i).mono ?_
 rintro e w' ⟨rfl,hq,hk⟩
 exact⟨rfl,(h.fin hk hq).1⟩
theorem pair_step1 (h:Pair w0 w p a m b c LA LM k f) (hok:k.Ok) (hb:k.C.begun<4611686018427387904) (hl:f.length≤100000):Calls Tryz.prog 17 #[.pointer (some ⟨p,0,none⟩),.int .i64 1] w
 fun e w'=>e = .returned (.tuple #[])∧Pair w0 w' p a m b c LA LM (k.stepR true).c ((k.stepR true).more f):=by
 refine (pstep h hok 1 (by omega) (by have:=cy_le' hok;omega) hl).mono ?_
 rintro e w' ⟨rfl,hp,_⟩
 exact⟨rfl,hp⟩
theorem pair_step0 (h:Pair w0 w p a m b c LA LM k f) (hok:k.Ok) (hb:k.C.begun<4611686018427387904) (hl:f.length≤100000):Calls Tryz.prog 17 #[.pointer (some ⟨p,0,none⟩),.int .i64 0] w
 fun e w'=>e = .returned (.tuple #[])∧Pair w0 w' p a m b c LA LM (k.stepR false).c ((k.stepR false).more f):=by
 refine (pstep h hok 0 (by omega) (by have:=cy_le' hok;omega) hl).mono ?_
 rintro e w' ⟨rfl,hp,_⟩
 exact⟨rfl,hp⟩
theorem steps_succ (room:Bool) (k:Col) (f:List Rf) (i:Nat):Col.steps room k f (i+1)=(((Col.steps room k f i).1.stepR room).c,((Col.steps room k f i).1.stepR room).more (Col.steps room k f i).2):=rfl
theorem pair_steps (i:Nat) (h:Pair w0 w p a m b c LA LM (Col.steps true k f i).1 (Col.steps true k f i).2) (hok:k.Ok) (hb:k.C.begun+i<4611686018427387904) (hl:f.length+i≤100000):Calls Tryz.prog 17 #[.pointer (some ⟨p,0,none⟩),.int .i64 1] w
 fun e w'=>e = .returned (.tuple #[])∧Pair w0 w' p a m b c LA LM (Col.steps true k f (i+1)).1 (Col.steps true k f (i+1)).2:=by
 obtain⟨h1,h2,h3,h4⟩:=Col.steps_ok hok true f i
 rw [steps_succ]
 exact pair_step1 h h1 (by omega) (by omega)
theorem Pair.found (h:Pair w0 w p a m b c LA LM k f):∃ x n,w.cell? ⟨p,2,none⟩=some (.slice x f.length n)∧Refs w (.slice x f.length n) f∧w.cell? ⟨p,3,none⟩=some (.bool false):=by
 obtain⟨v,h1,h2⟩:=h.ex
 obtain⟨x,n,e⟩:=h2.refs.slice
 subst e
 exact⟨x,n,zD h1 rfl,h2.refs,zD h1 rfl⟩
end
theorem same14 (v1 v2:Value) (l1 l2:List Rf) (w:World) (h1:Refs w v1 l1) (h2:Refs w v2 l2) (hb:l1.length≤100000):
 Calls Tryz.prog 18 #[v1,v2] w fun e w'=>e = .returned (.bool (decide (l1=l2)))∧Kz w w':=by
 obtain⟨a1,c1,rfl⟩:=h1.slice
 obtain⟨a2,c2,rfl⟩:=h2.slice
 have H1:=zC (fun W (hk:Kz w W)=>(h1.keeps hk (fun _ _ h=>h)).cell.2)
 have H2:=zC (fun W (hk:Kz w W)=>(h2.keeps hk (fun _ _ h=>h)).cell.2)
 clear h1 h2
 by_cases hl:l1.length=l2.length
 ·obtain⟨n,hn⟩:∃ n,l1.length=n:=⟨_,rfl⟩
  have hn2:l2.length=n:=hl.symm.trans hn
  rw [hn,hn2]
  rw [hn] at hb
  clear hl
  go_in
  go_wp2_with fail
  go_loopw [5] (fun ix wr=>∃ k:Nat,k≤n∧ix = .int .i64 k∧l1.take k=l2.take k∧Kz w wr) (fun ix _=>n - (intOf ix).toNat)
  case atStart=>exact⟨0,Nat.zero_le _,rfl,rfl,zA.refl _ _⟩
  case round=>
   obtain⟨k,hk,rfl,he,hkr⟩:=hrel
   have HKR:=zC hkr;have HE:=zC he
   by_cases hlt:k<n
   ·obtain⟨x,hx⟩:∃ x,l1[k]?=some x:=⟨_,List.getElem?_eq_getElem (by omega)⟩
    obtain⟨y,hy⟩:∃ y,l2[k]?=some y:=⟨_,List.getElem?_eq_getElem (by omega)⟩
    obtain⟨g1,rfl,b1,p0,p1⟩:=H1.out wr hkr k x hx
    obtain⟨g2,rfl,b2,q0,q1⟩:=H2.out wr hkr k y hy
    have hlt':(k:Int)<(n:Int):=by omega
    have hk0:(0:Int)≤k:=by omega
    have HX:=zC hx;have HY:=zC hy
    have hneq:=fun w=>neq_ref w x.s x.g y.s y.g
    simp only [Rf.eq_iff] at hneq
    clear hkr he hx hy
    by_cases hxy:x=y
    ·rw [decide_eq_true hxy] at hneq
     have HXY:=zC hxy
     clear hxy
     go_wp2_with fail
     go_quiet (fail)
     go_wp2_with fail
     refine⟨⟨k+1,by omega,by go_num,?_,(HKR.out.drewN _)⟩,by simp [intOf];omega⟩
     rw [List.take_add_one,List.take_add_one,HE.out,HX.out,HY.out,HXY.out]
    ·rw [decide_eq_false hxy] at hneq
     have hd:decide (l1=l2)=false:=decide_eq_false (fun h=>hxy (by have h1:=HX.out;rw [h,HY.out] at h1;exact (Option.some.inj h1).symm))
     have HD:=zC hd
     clear hxy hd
     go_wp2_with fail
     go_quiet (fail)
     go_wp2_with fail
     go_ret
     exact⟨ret_bool HD.out.symm,HKR.out.drewN _⟩
   ·have hlt':¬ (k:Int)<(n:Int):=by omega
    have hall:l1=l2:=by
     rw [← List.take_of_length_le (l:=l1) (i:=k) (by omega),← List.take_of_length_le (l:=l2) (i:=k) (by omega)];exact he
    have HALL:=zC hall
    clear hkr he hall
    go_wp2_with fail
    go_ret
    exact⟨ret_bool (by simp [HALL.out]),HKR.out⟩
 ·have hd:decide (l1=l2)=false:=decide_eq_false (fun h=>hl (by rw [h]))
  have hl':((l1.length:Int) == l2.length)=false:=by simpa using (by omega:¬ (l1.length:Int)=l2.length)
  rw [hd]
  clear hl
  go_in
  go_wp2_with fail
  go_ret
  exact⟨rfl,zA.refl _ _⟩
def wQ:List Mv:=[⟨1,0,0,0,0⟩,⟨0,0,1,0,0⟩,⟨1,0,0,0,0⟩,⟨3,0,1,0,2⟩,⟨6,0,2,0,0⟩,⟨6,0,0,0,0⟩]
def vK:Col:=Col.new 3 1 1 1
def vA:Col:=(vK.tn wQ 6).1
def vB:Col:=vA.askR.1
def vC:Col:=vB.askR.1
def vD:Col:=⟨⟨vC.s.A,(vC.s.M.ackR vC.s.A 0).M⟩,vC.C⟩
def vE:Col:=(vD.stepR true).c
def vF:Col:=⟨⟨vE.s.A,(vE.s.M.ackR vE.s.A 0).M⟩,vE.C⟩
def vG:Col:=(Col.steps true vF [] 4).1
def vH:Col:=(vG.stepR false).c
def vI:Col:=(Col.steps true vH [] 6).1
theorem vK_ok:vK.Ok:=Col.new_ok (by decide) (by decide) (by decide) (by decide)
theorem vA_f:(vK.tn wQ 6).2=[]:=by kernel_rfl
theorem vA_ok:vA.Ok∧vA.C.begun≤48:=by
 obtain⟨h1,h2,h3,h4⟩:=Col.tn_ok vK_ok wQ 6 (by decide)
 exact⟨h1,by have e:vK.C.begun=0:=rfl;unfold vA;omega⟩
theorem vB_is:vA.askR.2=true:=by kernel_rfl
theorem vB_b:vB.C.begun=1:=by kernel_rfl
theorem vC_is:vB.askR.2=false:=by kernel_rfl
theorem vC_ok:vC.Ok:=(Col.ask_ok (Col.ask_ok vA_ok.1).1).1
theorem vD_r:(vC.s.M.ackR vC.s.A 0).is=true∧(vC.s.M.ackR vC.s.A 0).e=0:=⟨by kernel_rfl,by kernel_rfl⟩
theorem vD_ok:vD.Ok:=(Col.ack_ok vC_ok 0).1
theorem vE_f:(vD.stepR true).more []=[]:=by kernel_rfl
theorem vE_ok:vE.Ok:=(Col.step_ok vD_ok true).1
theorem vF_r:(vE.s.M.ackR vE.s.A 0).is=true∧(vE.s.M.ackR vE.s.A 0).e=0:=⟨by kernel_rfl,by kernel_rfl⟩
theorem vF_ok:vF.Ok:=(Col.ack_ok vE_ok 0).1
theorem vF_b:vF.C.begun=1:=by kernel_rfl
theorem vG_f:(Col.steps true vF [] 4).2=[]:=by kernel_rfl
theorem vG_ph:vG.s.M.K.ph=4:=by kernel_rfl
theorem vG_ok:vG.Ok:=(Col.steps_ok vF_ok true [] 4).1
theorem vH_f:(vG.stepR false).more []=[]:=by kernel_rfl
theorem vH_ok:vH.Ok:=(Col.step_ok vG_ok false).1
theorem vH_b:vH.C.begun=1:=by kernel_rfl
theorem vI_f:(Col.steps true vH [] 6).2=[⟨0,1⟩]:=by kernel_rfl
theorem vI_ph:vI.s.M.K.ph=0:=by kernel_rfl
theorem vI_b:vI.C.begun=1:=by kernel_rfl
theorem vI_cy:vI.s.M.K.cy=1:=by kernel_rfl
theorem vI_no:(qH vI.s.A.H.T 0 1 == 0)=false:=by kernel_rfl
section
variable {w0 w w':World} {p a m b c:Nat} {LA:ArL} {LM:MkL}
theorem wbegin (W:World):Calls Tryz.prog 6 #[.agg #[.int .i64 3,.int .i64 1,.int .i64 1,.int .i64 1,.int .i64 0,.int .i64 0,.int .i64 0,.int .i64 0,.int .i64 0,.int .u32 0]] W fun e w'=>∃ q,pbeg W w' q vK e:=by
 unfold vK
 exact begin26 3 1 1 1 (fun _=>0) W (by decide) (by decide) (by decide) (by decide) (by decide) (by decide) (by decide) (by decide)
theorem wturn (i:Nat) (x:Mv) (hx:wQ[i]?=some x) (hxb:x.Byte) (hi:i≤10) (h:Pair w0 w p a m b c LA LM (vK.tn wQ i).1 (vK.tn wQ i).2) (v:Value) (hv:v=x.val):
 Calls Tryz.prog 12 #[.pointer (some ⟨p,0,none⟩),v] w fun e w'=>e = .returned (.tuple #[])∧Pair w0 w' p a m b c LA LM (vK.tn wQ (i+1)).1 (vK.tn wQ (i+1)).2:=by
 subst hv
 refine (pplay h vK_ok hx hxb (by have e:vK.C.begun=0:=rfl;omega) (by omega)).mono ?_
 rintro e w' ⟨rfl,h1,_⟩
 exact⟨rfl,h1⟩
end
theorem works26 (w:World):Calls Tryz.prog 4 #[] w fun e w'=>e = .returned (.bool true)∧Kz w w':=by
 go_in
 go_wp2_with fail
 refine (wbegin _).mono ?_
 rintro e wt ⟨p,rfl,w0,a,m,b,c,LA,LM,k0,hp⟩
 have HK0:=zC k0
 have HP:=zC (show Pair w0 wt p a m b c LA LM (vK.tn wQ 0).1 (vK.tn wQ 0).2 from hp)
 clear k0 hp
 go_wp2_with fail
 refine (wturn 0 ⟨1,0,0,0,0⟩ rfl ⟨by decide,by decide,by decide,by decide,by decide⟩ (by decide) HP.out _ rfl).mono ?_
 clear HP
 rintro e wt ⟨rfl,hp⟩
 have HP:=zC hp
 clear hp
 go_wp2_with fail
 refine (wturn 1 ⟨0,0,1,0,0⟩ rfl ⟨by decide,by decide,by decide,by decide,by decide⟩ (by decide) HP.out _ rfl).mono ?_
 clear HP
 rintro e wt ⟨rfl,hp⟩
 have HP:=zC hp
 clear hp
 go_wp2_with fail
 refine (wturn 2 ⟨1,0,0,0,0⟩ rfl ⟨by decide,by decide,by decide,by decide,by decide⟩ (by decide) HP.out _ rfl).mono ?_
 clear HP
 rintro e wt ⟨rfl,hp⟩
 have HP:=zC hp
 clear hp
 go_wp2_with fail
 refine (wturn 3 ⟨3,0,1,0,2⟩ rfl ⟨by decide,by decide,by decide,by decide,by decide⟩ (by decide) HP.out _ rfl).mono ?_
 clear HP
 rintro e wt ⟨rfl,hp⟩
 have HP:=zC hp
 clear hp
 go_wp2_with fail
 refine (wturn 4 ⟨6,0,2,0,0⟩ rfl ⟨by decide,by decide,by decide,by decide,by decide⟩ (by decide) HP.out _ rfl).mono ?_
 clear HP
 rintro e wt ⟨rfl,hp⟩
 have HP:=zC hp
 clear hp
 go_wp2_with fail
 refine (wturn 5 ⟨6,0,0,0,0⟩ rfl ⟨by decide,by decide,by decide,by decide,by decide⟩ (by decide) HP.out _ rfl).mono ?_
 clear HP
 rintro e w7 ⟨rfl,hp⟩
 have HP7:=zC (show Pair w0 w7 p a m b c LA LM vA [] from by rw [vA_f] at hp;exact hp)
 clear hp
 have HA:=zC (fun W (hk:Kz w7 W)=>pair_ask (HP7.out.same hk) (by have:=vA_ok.2;omega))
 have HB:=zC (fun W (h:Pair w0 W p a m b c LA LM vB [])=>pair_ask h (by rw [vB_b];decide))
 rw [vB_is] at HA;rw [vC_is] at HB
 obtain⟨x0,x1,xl⟩:=qJ HP7.out
 go_upto_region 10 with (fail)
 go_cut [3,4] (fun s3 s4 wx=>s3 = .bool true∧s4 = .bool false∧Pair w0 wx p a m b c LA LM vC [])
 case first=>
  go_region_held3 (fun W=>W.cell? ⟨p,1,none⟩=some (.pointer (some ⟨c,0,none⟩)))
   ((first | exact x1 | exact (qJ he3).2.1 | exact (qJ he4).2.1))
   (first
    | (go_at_call 15;refine (HA.out _ (zA.refl _ _).drew).mono ?_;rintro e w3 ⟨rfl,he3⟩)
    | (go_at_call 15;refine (HB.out _ he3).mono ?_;rintro e w4 ⟨rfl,he4⟩))
  all_goals
   go_wp2_with fail
   go_meet
   exact⟨rfl,rfl,he4⟩
 case rest=>
 obtain⟨rfl,rfl,hp⟩:=hcut
 have HP8:=zC hp
 clear hp HA HB HP7 x0 x1 xl
 have HAK:=zC (fun W (hk:Kz wc W)=>pair_acked (HP8.out.same hk) vC_ok 0)
 rw [vD_r.1,vD_r.2] at HAK
 obtain⟨x0,x1,xl⟩:=qJ HP8.out
 obtain⟨w8,hw8⟩:∃ w8,wc=w8:=⟨_,rfl⟩
 rw [hw8] at HAK HP8 x0 x1 xl ⊢
 clear hw8
 go_upto_region 11 with (fail)
 go_cut [5,6] (fun s5 s6 wx=>s5 = .bool true∧s6 = .int .i64 0∧Pair w0 wx p a m b c LA LM vD [])
 case first=>
  go_region_held3 (fun W=>W.cell? ⟨p,1,none⟩=some (.pointer (some ⟨c,0,none⟩))∧W.cell? ⟨p,0,none⟩=some (.pointer (some ⟨a,0,none⟩)))
   ((first | exact⟨x1,x0⟩ | exact⟨(qJ he3).2.1,(qJ he3).1⟩))
   (first | (go_at_call 16;refine (HAK.out _ (zA.refl _ _).drew).mono ?_;rintro e w3 ⟨rfl,he3⟩))
  all_goals
   go_wp2_with fail
   go_meet
   exact⟨rfl,rfl,he3⟩
 case rest=>
 obtain⟨rfl,rfl,hp⟩:=hcut
 have HP9:=zC hp
 clear hp HAK HP8 x0 x1 xl
 go_wp2_with fail
 refine zQ (pair_step1 HP9.out vD_ok (by decide) (by decide)) fun w9 hp=>?_
 have HP10:=zC (show Pair w0 w9 p a m b c LA LM vE [] from by rw [vE_f] at hp;exact hp)
 clear hp HP9
 have HAK:=zC (fun W (hk:Kz w9 W)=>pair_acked (HP10.out.same hk) vE_ok 0)
 rw [vF_r.1,vF_r.2] at HAK
 obtain⟨x0,x1,xl⟩:=qJ HP10.out
 go_upto_region 13 with (fail)
 go_cut [7,8] (fun s7 s8 wx=>s7 = .bool true∧s8 = .int .i64 0∧Pair w0 wx p a m b c LA LM vF [])
 case first=>
  go_region_held3 (fun W=>W.cell? ⟨p,1,none⟩=some (.pointer (some ⟨c,0,none⟩))∧W.cell? ⟨p,0,none⟩=some (.pointer (some ⟨a,0,none⟩)))
   ((first | exact⟨x1,x0⟩ | exact⟨(qJ he3).2.1,(qJ he3).1⟩))
   (first | (go_at_call 16;refine (HAK.out _ (zA.refl _ _).drew).mono ?_;rintro e w3 ⟨rfl,he3⟩))
  all_goals
   go_wp2_with fail
   go_meet
   exact⟨rfl,rfl,he3⟩
 case rest=>
 obtain⟨rfl,rfl,hp⟩:=hcut
 have HP11:=zC (show Pair w0 wc p a m b c LA LM (Col.steps true vF [] 0).1 (Col.steps true vF [] 0).2 from hp)
 clear hp HAK HP10 x0 x1 xl
 go_wp2_with fail
 go_loopw [9] (fun ix wr=>∃ i:Nat,i≤4∧ix = .int .i64 i∧Hid (Pair w0 wr p a m b c LA LM (Col.steps true vF [] i).1 (Col.steps true vF [] i).2)) (fun ix _=>4 - (intOf ix).toNat)
 case atStart=>exact⟨0,by omega,rfl,HP11⟩
 case round=>
  obtain⟨i,hi,rfl,HP⟩:=hrel
  by_cases hlt:i<4
  ·have hlt':(i:Int)<4:=by omega
   have hi0:(0:Int)≤i:=by omega
   have HS:=zC (pair_steps (k:=vF) (f:=[]) i HP.out vF_ok (by rw [vF_b];omega) (by show 0+i≤100000;omega))
   go_wp2_with fail
   refine zQ HS.out fun w12 hp=>?_
   have HP12:=zC hp
   clear hp
   go_wp2_with fail
   exact⟨⟨i+1,by omega,by go_num,HP12⟩,by simp [intOf];omega⟩
  ·obtain rfl:i=4:=by omega
   have hlt':¬ ((4:Nat):Int)<4:=by omega
   obtain⟨w12,hw12⟩:∃ w12,wr=w12:=⟨_,rfl⟩
   have HP12:=zC (show Pair w0 wr p a m b c LA LM vG [] from by have hp:=HP.out;rw [vG_f] at hp;exact hp)
   rw [hw12] at HP12 ⊢
   clear hw12 HP HP11 hlt hi
   have HPH:=zC (show Calls Tryz.prog 9 #[.pointer (some ⟨c,0,none⟩)] w12 (fun e w'=>e = .returned (.int .i64 4)∧w'=w12) from by
    have h:=cyphase HP12.out.q;rw [vG_ph] at h;exact h)
   obtain⟨x0,x1,xl⟩:=qJ HP12.out
   go_wp2_with fail
   refine zP HPH.out ?_
   go_wp2_with fail
   refine zQ (pair_step0 HP12.out vG_ok (by decide) (by decide)) fun w13 hp=>?_
   have HP13:=zC (show Pair w0 w13 p a m b c LA LM vH [] from by rw [vH_f] at hp;exact hp)
   clear hp HP12 x0 x1 xl HPH
   obtain⟨fx,fn,f2,_,_⟩:=HP13.out.found
   obtain⟨x0,x1,xl⟩:=qJ HP13.out
   go_wp2_with fail
   clear f2 x0 x1 xl
   go_loopw [12] (fun ix wr=>∃ i:Nat,i≤6∧ix = .int .i64 i∧Hid (Pair w0 wr p a m b c LA LM (Col.steps true vH [] i).1 (Col.steps true vH [] i).2)) (fun ix _=>6 - (intOf ix).toNat)
   case atStart=>exact⟨0,by omega,rfl,HP13⟩
   case round=>
    obtain⟨i,hi,rfl,HP⟩:=hrel
    by_cases hlt:i<6
    ·have hlt':(i:Int)<6:=by omega
     have hi0:(0:Int)≤i:=by omega
     have HS:=zC (pair_steps (k:=vH) (f:=[]) i HP.out vH_ok (by rw [vH_b];omega) (by show 0+i≤100000;omega))
     go_wp2_with fail
     refine zQ HS.out fun w14 hp=>?_
     have HP14:=zC hp
     clear hp
     go_wp2_with fail
     exact⟨⟨i+1,by omega,by go_num,HP14⟩,by simp [intOf];omega⟩
    ·obtain rfl:i=6:=by omega
     have hlt':¬ ((6:Nat):Int)<6:=by omega
     obtain⟨w15,hw15⟩:∃ w15,wr=w15:=⟨_,rfl⟩
     have HP15:=zC (show Pair w0 wr p a m b c LA LM vI [⟨0,1⟩] from by have hp:=HP.out;rw [vI_f] at hp;exact hp)
     rw [hw15] at HP15 ⊢
     clear hw15 HP HP13 hlt hi
     obtain⟨fx,fn,f2,hrf,f3⟩:=HP15.out.found
     obtain⟨x0,x1,xl⟩:=qJ HP15.out
     have HRF:=zC hrf
     clear hrf
     go_wp2_with fail
     have kS:Kz w15 (w15.alloc (.cells #[.int .i64 0,.int .u32 1] 51)):=(zA.refl _ _).alloc _
     refine zQ (same14 _ _ [⟨0,1⟩] [⟨0,1⟩] _ (HRF.out.keeps kS (fun _ _ h=>h)) (refs_one (x:=⟨0,1⟩) zE) (by decide)) fun w16 k16=>?_
     have HP16:=zC (HP15.out.same (kS.trans k16))
     clear kS k16 HP15 x0 x1 xl f2 f3
     obtain⟨fx',fn',f2,_,f3⟩:=HP16.out.found
     obtain⟨x0,x1,xl⟩:=qJ HP16.out
     have HPH:=zC (show Calls Tryz.prog 9 #[.pointer (some ⟨c,0,none⟩)] w16 (fun e w'=>e = .returned (.int .i64 0)∧w'=w16) from by
      have h:=cyphase HP16.out.q;rw [vI_ph] at h;exact h)
     have HBG:=zC (show Calls Tryz.prog 10 #[.pointer (some ⟨c,0,none⟩)] w16 (fun e w'=>e = .returned (.int .i64 1)∧w'=w16) from by
      have h:=cybegun HP16.out.q;rw [vI_b] at h;exact h)
     have HED:=zC (show Calls Tryz.prog 11 #[.pointer (some ⟨c,0,none⟩)] w16 (fun e w'=>e = .returned (.int .i64 1)∧w'=w16) from by
      have h:=cyended HP16.out.q;rw [vI_cy] at h;exact h)
     have hdt:decide (([⟨0,1⟩]:List Rf)=[⟨0,1⟩])=true:=decide_eq_true rfl
     rw [hdt]
     go_wp2_with fail
     refine zP HPH.out ?_
     go_wp2_with fail
     refine zP HBG.out ?_
     go_wp2_with fail
     refine zP HED.out ?_
     go_wp2_with fail
     refine (aheap_ok a LA vI.s.A w16 HP16.out.q.tr.both.ar).mono ?_
     rintro e w17 ⟨b',t',rfl,k17,_,_,hh⟩
     have HP17:=zC (HP16.out.same k17)
     have HHS:=zC (hhas_any b' t' vI.s.A.H 0 1 w17 hh)
     rw [vI_no] at HHS
     clear hh k17 HP16 x0 x1 xl f2 f3
     go_wp2_with fail
     refine zQ HHS.out fun w18 k18=>?_
     have HP18:=zC (HP17.out.same k18)
     clear k18
     obtain⟨fx'',fn'',f2,_,f3⟩:=HP18.out.found
     obtain⟨x0,x1,xl⟩:=qJ HP18.out
     go_wp2_with fail
     go_ret
     exact⟨rfl,HK0.out.trans HP18.out.kp⟩
end Go.Proofs.YtjfmagccmjdhoaaGreat
