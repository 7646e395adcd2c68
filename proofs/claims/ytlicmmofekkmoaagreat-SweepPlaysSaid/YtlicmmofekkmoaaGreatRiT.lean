import Derived.Test.YtlicmmofekkmoaaGreatRiH
import Derived.Test.YtlicmmofekkmoaaGreatRiN
import Derived.Deep.RegionHeldLaw
set_option maxHeartbeats 1000000
set_option maxRecDepth 100000
namespace Go.Proofs.YtlicmmofekkmoaaGreat
open Go.RowKit
attribute [local go_sem] Oper.semAt_some
set_option linter.unusedVariables false
set_option linter.unusedSimpArgs false
section
variable {w w':World} {b s:Nat} {v:Value} {T:Sq} {B:Bf} {K:Ck} {P:Pt}
end
end Go.Proofs.YtlicmmofekkmoaaGreat
namespace Go.Proofs.YtlicmmofekkmoaaGreat
open Go.RowKit
attribute [local go_sem] Oper.semAt_some
set_option linter.unusedVariables false
set_option linter.unusedSimpArgs false
section
variable {w0 w w' W:World} {m q base i:Nat} {L:L24} {M:Mk} {S:Nat→Prop} {l:List Value} {bb:Nat→Nat} {bv:Nat→Value} {B:Nat→Bf}
end
theorem new15R (n:Nat) (w:World) (h1:1≤n) (h4:n≤256):Calls Tryz.prog 88 #[.int .i64 n] w fun e w'=>∃ b,e = .returned (.tuple #[.pointer (some ⟨b,0,none⟩),.int .i64 0])∧Keeps (fun _=>False) w w'∧w.heap.size≤b∧∃ s,w.heap.size≤s∧R15 w' b s ⟨n,fun _=>0⟩:=by
 obtain⟨C,hC,hC2⟩:=made_ints h1 h4
 have e1:¬ (n:Int)<1:=by omega
 have e4:¬ 256<(n:Int):=by omega
 have HC2:=hid hC2
 clear hC2
 go_enter Tryz.func88,Tryz.ntmps88
 go_wp2_with fail
 go_ret2
 have hsz:n≤C.size:=by have:=(Array.getElem?_eq_some_iff.1 (HC2.out (n - 1) (by omega))).1;omega
 exact⟨w.heap.size+1,rfl,((Keeps.refl _ _).alloc _).alloc _,by simp,w.heap.size,Nat.le_refl _,⟨⟨n,alloc_new' (by simp)⟩,⟨C,alloc_old alloc_new,hsz,HC2.out⟩,h1,h4⟩⟩
theorem new20R (n:Nat) (w:World) (h1:1≤n) (h4:n≤64):Calls Tryz.prog 89 #[.int .i64 n] w fun e w'=>∃ b,e = .returned (.tuple #[.pointer (some ⟨b,0,none⟩),.int .i64 0])∧Keeps (fun _=>False) w w'∧w.heap.size≤b∧R20 w' b (.slice none 0 0) ⟨false,0,n,0,fun _=>0⟩:=by
 have e1:¬ (n:Int)<1:=by omega
 have e4:¬ 64<(n:Int):=by omega
 go_enter Tryz.func89,Tryz.ntmps89
 go_wp2_with fail
 go_ret2
 exact⟨_,rfl,(Keeps.refl _ _).alloc _,Nat.le_refl _,⟨alloc_new,IRow.nil _ _,h1,h4,Nat.zero_le _,Int.le_refl _,by show (0:Int)≤64;decide⟩⟩
theorem new24R (n k q p:Nat) (w:World) (n1:1≤n) (n2:n≤256) (k1:1≤k) (k4:k≤4) (s1:1≤q) (s2:q≤64) (p1:1≤p) (p2:p≤64):
 Calls Tryz.prog 31 #[.int .i64 n,.int .i64 k,.int .i64 q,.int .i64 p] w fun e w'=>∃ m,e = .returned (.tuple #[.pointer (some ⟨m,0,none⟩),.int .i64 0])∧Keeps (fun _=>False) w w'∧D24 w.heap.size w' m (Mk.new n k q p) p:=by
 have e1:¬ (n:Int)<1:=by omega
 have e2:¬ 256<(n:Int):=by omega
 have e3:¬ (k:Int)<1:=by omega
 have e4:¬ 4<(k:Int):=by omega
 have e5:¬ (q:Int)<1:=by omega
 have e6:¬ 64<(q:Int):=by omega
 have e7:¬ (p:Int)<1:=by omega
 have e8:¬ 64<(p:Int):=by omega
 have H22:=hid (fun W=>new22_ok k W k1 k4)
 have H15:=hid (fun W=>new15R n W n1 n2)
 have H20:=hid (fun W=>new20R q W s1 s2)
 have HEM:=hid (fun m vC vP vS vB W h=>empty24R m n k p vC vP vS vB W h k1 k4 p1 p2)
 have HP12:=hid (And.intro p1 p2)
 clear n1 n2 k1 k4 s1 s2 p1 p2
 go_enter Tryz.func31,Tryz.ntmps31
 go_wp2_with fail
 refine (H22.out _).mono ?_
 rintro e w1 ⟨c,rfl,k1,lc,s,ls,h22⟩
 have HQ1:=hid (block_keep (alloc_new (w:=w) (o:=.cells #[.int .i64 n,.int .i64 k,.int .i64 p,.pointer none,.pointer none,.pointer none,.slice none 0 0] 148)) k1 (fun h=>h))
 have K1:=hid (((Keeps.refl (fun _=>False) w).alloc (.cells #[.int .i64 n,.int .i64 k,.int .i64 p,.pointer none,.pointer none,.pointer none,.slice none 0 0] 148)).trans k1)
 have HC:=hid h22
 obtain⟨c0,c1,c2,c3,c4,c5,c6,cf,cl⟩:=cells7f HQ1.out
 have cf3:=cf 3
 simp only [World.size_alloc] at lc ls
 clear k1 h22 cf
 go_wp2_with fail
 refine (H15.out _).mono ?_
 rintro e w2 ⟨pb,rfl,k2,lp,ps,lps,h15⟩
 have HQ2:=hid (block_keep ((set_block HQ1.out 3 _).trans rfl) k2 (fun h=>h))
 have K12:=hid ((keeps_set1 w1 w.heap.size 3 (.pointer (some ⟨c,0,none⟩))).trans k2.up)
 have HP:=hid h15
 have hs1:=lt_block HQ1.out
 have hz:=(keeps_set1 w1 w.heap.size 3 (.pointer (some ⟨c,0,none⟩))).size
 have lp':w.heap.size+1≤pb:=by omega
 have lps':w.heap.size+1≤ps:=by omega
 clear k2 h15 c0 c1 c2 c3 c4 c5 c6 cl cf3 lp lps hs1
 obtain⟨c0,c1,c2,c3,c4,c5,c6,cf,cl⟩:=cells7f HQ2.out
 have cf4:=cf 4
 clear cf
 go_wp2_with fail
 refine (H20.out _).mono ?_
 rintro e w3 ⟨sb,rfl,k3,lsb,h20⟩
 have HQ3:=hid (block_keep ((set_block HQ2.out 4 _).trans rfl) k3 (fun h=>h))
 have K23:=hid ((keeps_set1 w2 w.heap.size 4 (.pointer (some ⟨pb,0,none⟩))).trans k3.up)
 have HS:=hid h20
 have hs2:=lt_block HQ2.out
 have hz2:=(keeps_set1 w2 w.heap.size 4 (.pointer (some ⟨pb,0,none⟩))).size
 have lsb':w.heap.size+1≤sb:=by omega
 clear k3 h20 c0 c1 c2 c3 c4 c5 c6 cl cf4 lsb hs2
 obtain⟨c0,c1,c2,c3,c4,c5,c6,cf,cl⟩:=cells7f HQ3.out
 have cf5:=cf 5
 clear cf
 have HQ4:=hid ((set_block HQ3.out 5 (.pointer (some ⟨sb,0,none⟩))).trans rfl)
 go_wp2_with fail
 refine (HEM.out _ _ _ _ _ _ HQ4.out).mono ?_
 rintro e w5 ⟨rfl,k5,rb,cap,cur,bb,q5,r5,hcur,l,hnb⟩
 have K35:=hid ((keeps_set1 w3 w.heap.size 5 (.pointer (some ⟨sb,0,none⟩))).trans k5)
 have HQ5:=hid q5;have HR5:=hid r5;have HCU:=hid hcur;have HNB:=hid hnb
 have HL3:=hid (show w.heap.size+1≤(w3.setCell ⟨w.heap.size,5,none⟩ (.pointer (some ⟨sb,0,none⟩))).heap.size from by have:=lt_block HQ4.out;omega)
 clear k5 q5 r5 hcur hnb
 go_wp2_with fail
 go_ret2
 have kf:Keeps (fun y=>w.heap.size≤y) w w5:=(K1.out.up).trans ((K12.out.trans (K23.out.trans K35.out)).mono (fun y _ h=>by omega))
 have h22:=HC.out.keeps (K12.out.trans (K23.out.trans K35.out)) (by omega) (by omega)
 have h15:=HP.out.keeps (K23.out.trans K35.out) (by omega) (by omega)
 have h20:=HS.out.keeps K35.out (by omega) (fun k hk=>(by cases hk))
 refine⟨w.heap.size,rfl,Keeps.fresh kf,⟨c,s,pb,ps,sb,.slice none 0 0,rb,bb,fun _=>.slice none 0 0⟩,⟨⟨cap,HQ5.out⟩,⟨cur,HR5.out,HCU.out⟩,h22,h15,h20,fun j hj=>⟨⟨HNB.out.blk j hj,IRow.nil _ _,HP12.out.1,HP12.out.2,Nat.zero_le _⟩,rfl⟩,fun i j hi hj e=>?_,fun k hk=>(by cases hk),fun j _ k hk=>(by cases hk),fun i j _ _ _ k hk=>(by cases hk)⟩,⟨Nat.le_refl _,by show w.heap.size≤c;omega,by show w.heap.size≤pb;omega,by show w.heap.size≤ps;omega,by show w.heap.size≤sb;omega,fun j hj=>?_,fun j _ z hz=>(by cases hz)⟩⟩
 ·rcases Nat.lt_trichotomy i j with h | h | h
  ·have:=HNB.out.up i j h hj;have e':bb i=bb j:=e;omega
  ·exact h
  ·have:=HNB.out.up j i h hi;have e':bb i=bb j:=e;omega
 ·have:=HNB.out.lo j hj
  have:=HL3.out
  show w.heap.size≤bb j
  omega
end Go.Proofs.YtlicmmofekkmoaaGreat
