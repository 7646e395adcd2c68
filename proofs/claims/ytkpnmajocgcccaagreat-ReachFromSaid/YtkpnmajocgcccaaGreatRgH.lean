import Derived.Test.YtkpnmajocgcccaaGreatRgG
set_option maxHeartbeats 4000000
set_option maxRecDepth 100000
namespace Go.Proofs.YtkpnmajocgcccaaGreat
open Go.RowKit Go.ChangeShapes Go.WideShapes Go.ChangeAt Go.Deep
set_option linter.unusedVariables false
set_option linter.unusedSimpArgs false
theorem RefsI.up {w w':World} {v:Value} {l:List Rf} (h:RefsI w v l) (hk:Keeps (fun y=>w.heap.size≤y) w w'):RefsI w' v l:=by
 obtain⟨a,cap,e,hc⟩:=h
 refine⟨a,cap,e,fun j r hj=>?_⟩
 obtain⟨g,o,e,hl,h1,h2⟩:=hc j r hj
 have hb:=hk.block g hl (by omega)
 exact⟨g,o,e,Nat.lt_of_lt_of_le hl hk.size,by rw [World.cell?_of_block hb];exact h1,by rw [World.cell?_of_block hb];exact h2⟩
theorem reachFrom_walk (n:Int) (v1 v2:Value) (ls:List Sp) (l:List Rf) (w:World) (h1:SpRow w v1 ls) (h2:RefsI w v2 l) (hw:∀ r∈l,r.Wf):
 Calls Tryz.prog 3 #[.int .i64 n,v1,v2] w fun e w'=>e = .returned (.bool true)∧Keeps (fun _=>False) w w':=by
 have H1:=hid h1;have H2:=hid h2;have HWF:=hid hw
 obtain⟨p1,c1,rfl,_⟩:=h1
 obtain⟨p2,c2,rfl,_⟩:=h2
 clear hw
 have HW:=hid (fun w=>works19 w)
 have hc:60<ls.length∨(¬ 60<ls.length∧200<n)∨(¬ 60<ls.length∧¬ 200<n∧20<l.length)∨(¬ 60<ls.length∧¬ 200<n∧¬ 20<l.length):=by omega
 rcases hc with b1 | ⟨b1,b2⟩ | ⟨b1,b2,b3⟩ | ⟨b1,b2,b3⟩
 ·have b1':(60:Int)<(ls.length:Int):=by omega
  clear b1
  go_enter Tryz.func3,Tryz.ntmps3
  go_wp2_with fail
  refine (HW.out _).mono ?_
  rintro e w1 ⟨rfl,k1⟩
  have K1:=hid k1
  clear k1
  go_wp2_with fail
  go_ret
  exact⟨rfl,K1.out⟩
 ·have b1':¬ (60:Int)<(ls.length:Int):=by omega
  clear b1
  go_enter Tryz.func3,Tryz.ntmps3
  go_wp2_with fail
  refine (HW.out _).mono ?_
  rintro e w1 ⟨rfl,k1⟩
  have K1:=hid k1
  clear k1
  go_wp2_with fail
  go_ret
  exact⟨rfl,K1.out⟩
 ·have b1':¬ (60:Int)<(ls.length:Int):=by omega
  have b3':(20:Int)<(l.length:Int):=by omega
  clear b1 b3
  go_enter Tryz.func3,Tryz.ntmps3
  go_wp2_with fail
  refine (HW.out _).mono ?_
  rintro e w1 ⟨rfl,k1⟩
  have K1:=hid k1
  clear k1
  go_wp2_with fail
  go_ret
  exact⟨rfl,K1.out⟩
 ·have b1':¬ (60:Int)<(ls.length:Int):=by omega
  have b3':¬ (20:Int)<(l.length:Int):=by omega
  by_cases hn:n<1
  ·have HA:=hid (anew_bad n 2 1 w (.inl (.inl hn)) (by omega))
   have HD:=hid (fun W=>new18_bad (w:=W) n 2 1 (.inl (.inl hn)) (by omega))
   have HF:=hid (fun W=>from_no (.pointer none) (.slice p2 l.length c2) W (.inl rfl))
   have HC:=hid (fun W=>closed_no (.pointer none) p2 l.length c2 W (.inl rfl))
   clear b1 b3 hn
   go_enter Tryz.func3,Tryz.ntmps3
   go_wp2_with fail
   refine HA.out.mono ?_
   rintro e w1 ⟨rfl,k1⟩
   have K1:=hid k1
   clear k1
   go_wp2_with fail
   refine (HD.out _).mono ?_
   rintro e w2 ⟨rfl,k2⟩
   have K2:=hid (K1.out.trans k2)
   clear k2
   go_wp2_with fail
   refine (HF.out _).mono ?_
   rintro e w3 ⟨rfl,h'⟩
   obtain rfl:=h'.symm
   go_wp2_with fail
   refine (HC.out _).mono ?_
   rintro e w4 ⟨rfl,k4⟩
   have K4:=hid (K2.out.trans k4)
   clear k4
   go_wp2_with fail
   refine (HW.out _).mono ?_
   rintro e w5 ⟨rfl,k5⟩
   have K5:=hid (K4.out.trans k5)
   clear k5
   go_wp2_with fail
   go_ret
   exact⟨rfl,K5.out⟩
  ·obtain⟨k,rfl⟩:∃ k:Nat,n=k:=⟨n.toNat,by omega⟩
   have HA:=hid (Ay.new k 2 w (by omega) (by omega) (by omega) (by omega))
   have HD:=hid (fun W=>new18_ok (w:=W) k 2 1 (by omega) (by omega) (by omega) (by omega) (by omega) (by omega))
   have b60:ls.length≤60:=by omega
   have b20:l.length≤20:=by omega
   clear b1 b3 hn
   go_enter Tryz.func3,Tryz.ntmps3
   go_wp2_with fail
   refine HA.out.mono ?_
   rintro e w1 ⟨a,LA,rfl,h1⟩
   have HA1:=hid h1
   clear h1
   go_wp2_with fail
   refine (HD.out _).mono ?_
   rintro e w2 ⟨x,LR,rfl,k2,lx,lb,hR⟩
   have hp2:Pr w.heap.size w w2 a LA x (Ar.new k 2 1) (Ar.new k 2 1):=by
    have hs:=HA1.out.k.size
    exact⟨HA1.out.quiet k2,by omega,LR,by omega,hR⟩
   have HP2:=hid hp2
   clear k2 lx lb hR hp2 HA1
   go_wp2_with fail
   refine (build19 _ ls HP2.out H1.out b60).mono ?_
   rintro e w3 ⟨rfl,A,h3⟩
   have HP3:=hid h3
   have HV3:=hid (H2.out.up h3.ay.k)
   clear h3
   go_wp2_with fail
   refine (rcloneI _ l _ HV3.out (by omega)).mono ?_
   rintro e w4 ⟨v4,rfl,hr4,k4⟩
   have HP4:=hid (HP3.out.quiet k4)
   have HV4:=hid (HV3.out.keeps k4)
   have HR4:=hid hr4.refs
   clear k4 hr4
   go_wp2_with fail
   refine (aheap_ok a LA A w4 HP4.out.ay.ar).mono ?_
   rintro e w5 ⟨b5,t5,rfl,k5,_,_,hh5⟩
   have HP5:=hid (HP4.out.quiet k5)
   have HV5:=hid (HV4.out.keeps k5)
   have hr5:=HR4.out.keeps k5 (fun _ _ h=>h)
   have HR5:=hid hr5
   have HF:=hid (from_ok b5 t5 A.H v4 l w5 hh5 hr5 HWF.out (by omega))
   clear k5 hh5 hr5
   go_wp2_with fail
   refine HF.out.mono ?_
   rintro e w6 ⟨v6,rfl,hr6,k6⟩
   have HP6:=hid (HP5.out.quiet k6)
   have HV6:=hid (HV5.out.keeps k6)
   have HR6:=hid (HR5.out.keeps k6 (fun _ _ h=>h))
   have HO6:=hid hr6.refs
   obtain⟨LR6,_,hR6⟩:=HP6.out.doc
   clear k6 hr6
   go_wp2_with fail
   refine (heap18 hR6).mono ?_
   rintro e w7 ⟨b7,t7,rfl,k7,_,_,hh7⟩
   have HP7:=hid (HP6.out.quiet k7)
   have HV7:=hid (HV6.out.keeps k7)
   have HR7:=hid (HR6.out.keeps k7 (fun _ _ h=>h))
   have HO7:=hid (HO6.out.keeps k7 (fun _ _ h=>h))
   have HF7:=hid (from19 _ l hh7 (HV6.out.keeps k7) (by omega))
   clear k7 hh7 hR6
   go_wp2_with fail
   refine HF7.out.mono ?_
   rintro e w8 ⟨v8,rfl,hr8,k8⟩
   have HP8:=hid (HP7.out.quiet k8)
   have HV8:=hid (HV7.out.keeps k8)
   have HR8:=hid (HR7.out.keeps k8 (fun _ _ h=>h))
   have HO8:=hid (HO7.out.keeps k8 (fun _ _ h=>h))
   have HD8:=hid hr8.refs
   clear k8 hr8
   go_wp2_with fail
   refine (aheap_ok a LA A w8 HP8.out.ay.ar).mono ?_
   rintro e w9 ⟨b9,t9,rfl,k9,_,_,hh9⟩
   have HP9:=hid (HP8.out.quiet k9)
   have HV9:=hid (HV8.out.keeps k9)
   have hr9:=HR8.out.keeps k9 (fun _ _ h=>h)
   have HR9:=hid hr9
   have HO9:=hid (HO8.out.keeps k9 (fun _ _ h=>h))
   have HD9:=hid (HD8.out.keeps k9 (fun _ _ h=>h))
   have HF9:=hid (closed_ok b9 t9 A.H v4 l w9 hh9 hr9 HWF.out (by omega))
   clear k9 hh9 hr9
   go_wp2_with fail
   refine HF9.out.mono ?_
   rintro e w10 ⟨rfl,k10⟩
   have HP10:=hid (HP9.out.quiet k10)
   have HV10:=hid (HV9.out.keeps k10)
   have HR10:=hid (HR9.out.keeps k10 (fun _ _ h=>h))
   have HO10:=hid (HO9.out.keeps k10 (fun _ _ h=>h))
   have HD10:=hid (HD9.out.keeps k10 (fun _ _ h=>h))
   obtain⟨LR10,_,hR10⟩:=HP10.out.doc
   clear k10
   go_wp2_with fail
   refine (heap18 hR10).mono ?_
   rintro e w11 ⟨b11,t11,rfl,k11,_,_,hh11⟩
   have HP11:=hid (HP10.out.quiet k11)
   have HV11:=hid (HV10.out.keeps k11)
   have HR11:=hid (HR10.out.keeps k11 (fun _ _ h=>h))
   have HO11:=hid (HO10.out.keeps k11 (fun _ _ h=>h))
   have HD11:=hid (HD10.out.keeps k11 (fun _ _ h=>h))
   have HF11:=hid (closed19 _ l hh11 (HV10.out.keeps k11) (by omega))
   clear k11 hh11 hR10
   go_wp2_with fail
   refine HF11.out.mono ?_
   rintro e w12 ⟨rfl,k12⟩
   have HP12:=hid (HP11.out.quiet k12)
   have HV12:=hid (HV11.out.keeps k12)
   have HR12:=hid (HR11.out.keeps k12 (fun _ _ h=>h))
   have hlen:(fromL A.H l).length≤65536:=by
    unfold fromL
    split
    ·rename_i h0
     have:=expl_len (thrE_zero h0) A.H.T.n
     have hn2:=HP12.out.ay.ok.n2
     rw [(srt_perm _).length_eq,qe_len]
     exact Nat.le_trans this (by omega)
    ·simp
   have HE:=hid (requal v6 v8 (fromL A.H l) (fromL A.H l) w12 (HO11.out.keeps k12 (fun _ _ h=>h)) (HD11.out.keeps k12 (fun _ _ h=>h)) hlen)
   rw [decide_eq_true rfl] at HE
   obtain⟨B,hB⟩:∃ B,(thrE A.H l == 0 && closB A.H (l.filter (·.nz)))=B:=⟨_,rfl⟩
   obtain⟨E,hE⟩:∃ E,thrE A.H l=E:=⟨_,rfl⟩
   rw [hB,hE]
   clear k12 hlen hB hE
   go_wp2_with fail
   refine HE.out.mono ?_
   rintro e w13 ⟨rfl,k13⟩
   have HP13:=hid (HP12.out.quiet k13)
   have HQ:=hid (requalI v4 _ l l w13 (HR12.out.keeps k13 (fun _ _ h=>h)).i (HV12.out.keeps k13) (by omega))
   rw [decide_eq_true rfl] at HQ
   clear k13
   go_wp2_with fail
   refine HQ.out.mono ?_
   rintro e w14 ⟨rfl,k14⟩
   have HP14:=hid (HP13.out.quiet k14)
   clear k14
   go_wp2_with fail
   refine (HW.out _).mono ?_
   rintro e w15 ⟨rfl,k15⟩
   have HP15:=hid (HP14.out.quiet k15)
   clear k15
   go_wp2_with fail
   go_ret
   exact⟨rfl,HP15.out.ay.k.fresh⟩
theorem reachFrom_law {H:Type} {enc:TypeId × Value→H} {base:Nat} {spare:Nat→Bool} {held:Bool} {r:Reach} {b0:Nat}
 (a0:Int) (w0:(Lit.int .i64 a0).wf=true) {w:World}
 (v1:Value) (d1:DataW H) (p1:List MemPlace) (hv1:Value.okWide Tryz.prog w r b0 22 v1) (h1:DataW.Trod enc Tryz.prog w base spare held 22 v1 d1 p1)
 (v2:Value) (d2:DataW H) (p2:List MemPlace) (hv2:Value.okWide Tryz.prog w r b0 23 v2) (h2:DataW.Trod enc Tryz.prog w base spare held 23 v2 d2 p2)
 (w':World) (e':w'=w):
 Calls Tryz.prog 3 #[.int .i64 a0,v1,v2] w' fun e w2=>e = .returned (.bool true)∧Keeps (fun _=>False) w' w2:=by
 subst e'
 obtain⟨a,n1,k1,rfl,e1,e2,hx⟩:=open_flat_slice (ks:=ksStep) Tryz.underlying22 (by kernel_rfl) (by kernel_rfl) (by decide) hv1 h1
 obtain⟨ls,hl⟩:=sprow_of e1 e2 hx
 obtain⟨a',n',k',rfl,e1',e2',hx'⟩:=open_flat_slice (ks:=ksRef) Tryz.underlying23 (by kernel_rfl) (by kernel_rfl) (by decide) hv2 h2
 obtain⟨l,hr,hw⟩:=refrow_of hx'
 exact reachFrom_walk a0 _ _ ls l _ hl hr hw
end Go.Proofs.YtkpnmajocgcccaaGreat
