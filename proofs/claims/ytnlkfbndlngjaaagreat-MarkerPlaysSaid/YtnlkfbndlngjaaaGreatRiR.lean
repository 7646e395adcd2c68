import Derived.Test.YtnlkfbndlngjaaaGreatNgD
import Derived.Test.YtnlkfbndlngjaaaGreatRiN
set_option maxHeartbeats 1000000
set_option maxRecDepth 100000
namespace Go.Proofs.YtnlkfbndlngjaaaGreat
open Go.RowKit
attribute [local go_sem] Oper.semAt_some
set_option linter.unusedVariables false
set_option linter.unusedSimpArgs false
theorem IRow.noB {w:World} {base z:Nat} {v:Value} {l:List Int} {c:Array Value} {t:TypeId} (h:IRow w base v l) (hz:w.heap[z]?=some (.cells c t)) (ht:3≠t):¬ v.ownBlock=some z:=by
 intro e
 rcases h.2 with⟨rfl,_⟩ | ⟨g,cap,cur,rfl,_,hg,_⟩
 ·cases e
 ·obtain rfl:g=z:=Option.some.inj e
  exact type_ne hg hz ht rfl
section
variable {w w':World} {b s:Nat} {K:Ck} {S:Nat→Prop}
theorem cycles22 (h:R22 w b s K):Calls Tryz.prog 163 #[.pointer (some ⟨b,0,none⟩)] w fun e w'=>e = .returned (.int .i64 K.cy)∧w'=w:=by
 obtain⟨⟨cap,o⟩,_⟩:=h
 obtain⟨c0,c1,c2,c3,_⟩:=cells4 o
 have HV:=hid (valid22 b w c0)
 clear o
 go_enter Tryz.func163,Tryz.ntmps163
 go_wp2_with fail
 refine (HV.out).mono ?_
 rintro e w' ⟨rfl,h'⟩
 obtain rfl:=h'.symm
 go_wp2_with fail
 go_ret
 exact⟨rfl,rfl⟩
theorem barrier22 (i:Nat) (h:R22 w b s K) (hi:i<K.many):Calls Tryz.prog 154 #[.pointer (some ⟨b,0,none⟩),.int .i64 i] w fun e w'=>e = .returned (.bool (K.bar i))∧w'=w:=by
 have HS:=hid (seen22_ok i h hi)
 have p5:=h.p5
 obtain⟨⟨cap,o⟩,_⟩:=h
 obtain⟨c0,c1,c2,c3,cl⟩:=cells4 o
 have hb:K.bar i=if K.ph=1 then K.seen i else decide (K.ph=2∨K.ph=3):=rfl
 rw [hb]
 obtain⟨B,hB⟩:∃ B,K.seen i=B:=⟨_,rfl⟩
 rw [hB] at HS ⊢
 clear o hB hb c2 c3
 have hc:K.ph=0∨K.ph=1∨K.ph=2∨K.ph=3∨K.ph=4∨K.ph=5:=by omega
 rcases hc with hq | hq | hq | hq | hq | hq <;> rw [hq] at c1 ⊢ <;> clear hq p5 <;> cases B
 all_goals
  go_enter Tryz.func154,Tryz.ntmps154
  go_wp2_with fail
  refine (HS.out).mono ?_
  rintro e w' ⟨rfl,h'⟩
  obtain rfl:=h'.symm
  go_wp2_with fail
  go_ret
  exact⟨rfl,rfl⟩
end
section
variable {w w':World} {b s:Nat} {P:Pt}
theorem born15 (i:Nat) (h:R15 w b s P) (hi:i<P.n):Calls Tryz.prog 157 #[.pointer (some ⟨b,0,none⟩),.int .i64 i] w fun e w'=>(∃ c,e = .returned (.int .i64 c))∧Keeps (fun y=>y=s) w w'∧R15 w' b s (P.born i):=by
 have HB:=hid (blacken15 i 0 h hi)
 rw [show (if P.c i=0 then P.put i 2 else P)=P.born i from rfl] at HB
 obtain⟨c,hc⟩:∃ c:Int,(if P.c i=0 then (0:Int) else 8)=c:=⟨_,rfl⟩
 rw [hc] at HB
 clear h hc
 go_enter Tryz.func157,Tryz.ntmps157
 go_wp2_with fail
 refine HB.out.mono ?_
 rintro e w1 ⟨rfl,k1,h1⟩
 have K1:=hid k1;have H1:=hid h1
 clear k1 h1
 go_wp2_with fail
 go_ret
 exact⟨⟨_,rfl⟩,K1.out,H1.out⟩
end
section
variable {w w':World} {b:Nat} {v:Value} {B:Bf}
theorem note21_full (x:Int) (h:R21 w b v B) (h0:0≤x) (h1:x<256) (hn:B.n=B.size):Calls Tryz.prog 232 #[.pointer (some ⟨b,0,none⟩),.int .i64 x] w fun e w'=>e = .returned (.tuple #[.bool false,.int .i64 0])∧Keeps (fun y=>y=b) w w'∧R21 w' b v B.over:=by
 obtain⟨c0,c1,c2,cl⟩:=cells3 h.own
 have cf2:=frozen_block h.own 2
 have HH:=hid h
 obtain⟨p,c,rfl⟩:=own_shape h.row
 have hl:B.list.length=B.size:=by rw [← hn];simp [Bf.list]
 rw [hl] at c1
 have hq:((B.size:Int) == (B.size:Int))=true:=by simp
 have x0:¬ x<0:=by omega
 have x1:¬ 256≤x:=by omega
 clear h hl
 go_enter Tryz.func232,Tryz.ntmps232
 go_wp2_with fail
 go_region
 go_wp2_with fail
 go_ret2
 have kf:Keeps (fun y=>y=b) w (w.drew.setCell ⟨b,2,none⟩ (.bool true)):=((Keeps.refl _ _).drew).trans (keeps_set1 _ _ _ _)
 exact⟨rfl,kf,⟨set_block (show w.drew.heap[b]?=_ from HH.out.own) 2 _,HH.out.row.keeps kf (fun k _ _ hk e=>HH.out.ne HH.out.own (by decide) (by rw [hk,e])),HH.out.p1,HH.out.p2,HH.out.nn⟩⟩
theorem note21_ok (x:Int) (h:R21 w b v B) (h0:0≤x) (h1:x<256) (hn:B.n<B.size):Calls Tryz.prog 232 #[.pointer (some ⟨b,0,none⟩),.int .i64 x] w fun e w'=>e = .returned (.tuple #[.bool true,.int .i64 0])∧Keeps (fun y=>y=b∨v.ownBlock=some y) w w'∧∃ v',(∀ k,v'.ownBlock=some k→v.ownBlock=some k∨w.heap.size≤k)∧R21 w' b v' (B.note x):=by
 obtain⟨c0,c1,c2,cl⟩:=cells3 h.own
 have p2:=h.p2
 have HH:=hid h
 have HNB:=hid (h.ne h.own (by decide))
 have hrow:=h.row
 obtain⟨p,c,rfl⟩:=own_shape hrow
 have hl:B.list.length=B.n:=by simp [Bf.list]
 rw [hl] at c1 HH HNB hrow ⊢
 have HL:=hid hl
 have HPU:=hid (Bf.list_note hn x)
 obtain⟨l,hll⟩:∃ l,B.list=l:=⟨_,rfl⟩
 rw [hll] at HL HPU hrow
 obtain⟨wd,hwd⟩:∃ wd,w.drew=wd:=⟨_,rfl⟩
 have kd:Keeps (fun _=>False) w wd:=by rw [← hwd];exact (Keeps.refl _ _).drew
 have hszd:wd.heap.size=w.heap.size:=by rw [← hwd];rfl
 have HKD:=hid kd
 have HKA:=hid (kd.alloc (.cells #[.int .i64 x] 3))
 have HRA:=hid (hrow.keeps (kd.alloc (.cells #[.int .i64 x] 3)) (fun _ _ _ _ h=>h))
 have hq:((B.n:Int) == (B.size:Int))=false:=by simp;omega
 have x0:¬ x<0:=by omega
 have x1:¬ 256≤x:=by omega
 have HWD:=hid hwd;have HSZ:=hid hszd
 clear h hl hll hwd kd hszd hrow
 go_enter Tryz.func232,Tryz.ntmps232
 go_wp2_with fail
 go_region
 rw [HWD.out]
 obtain⟨d0,d1,d2,dl⟩:=cells3 (block_keep HH.out.own HKD.out (fun h=>h))
 clear c0 c1 c2
 go_wp2_with (first
  | (at_builtin;refine wpList_append_ints _ rfl _ _ rfl 0 (.slice p B.n c) (.slice (some ⟨wd.heap.size,0,none⟩) 1 1) l [x] rfl rfl HRA.out (ints_one alloc_new) (by have:=HL.out;simp only [List.length_cons,List.length_nil];omega) (Nat.zero_le _) ?_;intro v6 w6 hr6 hk6 ho6;have k6:Keeps (fun y=>(Value.slice p B.n c).ownBlock=some y) w w6:=HKA.out.up.trans hk6;have HFR:=hid (show ∀ k,v6.ownBlock=some k→(Value.slice p B.n c).ownBlock=some k∨w.heap.size≤k from fun k hk=>(by rcases ho6 with e | e;exact .inl (e ▸ hk);exact .inr (by rw [e] at hk;have:=Option.some.inj hk;rw [World.size_alloc] at this;have:=HSZ.out;omega)));obtain⟨p6,q6,rfl⟩:=own_shape hr6;obtain⟨n6,hn6⟩:∃ n6,(l ++ [x]).length=n6:=⟨_,rfl⟩;rw [hn6] at hr6 HFR ⊢;have HN6:=hid hn6;have HR6:=hid hr6;have HK6:=hid k6;obtain⟨d0,d1,d2,dl⟩:=cells3 (block_keep HH.out.own k6 HNB.out);have df1:=frozen_block (block_keep HH.out.own k6 HNB.out) 1;clear hr6 hk6 ho6 hn6 k6)
  | fail)
 go_ret2
 refine⟨rfl,(HK6.out.mono (fun _ _ h=>.inr h)).trans (keeps_set1 _ _ _ _ |>.mono (fun _ _ h=>.inl h)),.slice p6 n6 q6,HFR.out,⟨set_block (block_keep HH.out.own HK6.out HNB.out) 1 _,?_,HH.out.p1,p2,hn⟩⟩
 rw [HPU.out]
 exact HR6.out.keeps (keeps_set1 _ _ _ _) (fun k _ _ hk e=>HR6.out.noB (block_keep HH.out.own HK6.out HNB.out) (by decide) (by rw [hk,e]))
end
section
variable {N m q x:Nat} {w w':World} {L:L24} {M:Mk} {S:Nat→Prop}
theorem cycles24 (h:R24 w m L M q):Calls Tryz.prog 85 #[.pointer (some ⟨m,0,none⟩)] w fun e w'=>e = .returned (.int .i64 M.K.cy)∧w'=w:=by
 obtain⟨cap,c0,c1,c2,c3,c4,c5,c6,cl⟩:=h.cells
 have HV:=hid h.val
 have HP:=hid (cycles22 h.clk)
 clear h
 go_enter Tryz.func85,Tryz.ntmps85
 go_wp2_with fail
 refine (HV.out).mono ?_
 rintro e w' ⟨rfl,h'⟩
 obtain rfl:=h'.symm
 go_wp2_with fail
 refine (HP.out).mono ?_
 rintro e w' ⟨rfl,h'⟩
 obtain rfl:=h'.symm
 go_wp2_with fail
 go_ret
 exact⟨rfl,rfl⟩
theorem known24 (r:Rf) (h:R24 w m L M q):Calls Tryz.prog 153 #[.pointer (some ⟨m,0,none⟩),.agg #[.int .i64 r.s,.int .u32 r.g]] w fun e w'=>e = .returned (.bool (M.known r))∧Keeps (fun _=>False) w w':=by
 obtain⟨wA,hwA⟩:∃ wA,w.alloc (.cells #[.int .i64 r.s,.int .u32 r.g] 34)=wA:=⟨_,rfl⟩
 have kA:Keeps (fun _=>False) w wA:=by rw [← hwA];exact (Keeps.refl _ _).alloc _
 have qA:wA.heap[w.heap.size]?=some (.cells #[.int .i64 r.s,.int .u32 r.g] 34):=by rw [← hwA];exact alloc_new
 obtain⟨cap,c0,c1,c2,c3,c4,c5,c6,cl⟩:=(h.k0 kA).cells
 obtain⟨x0,x1,_,xl⟩:=cells2 qA
 have hql:=fun W=>eql_ref W r.s r.g 0 0
 have hqn:(r.s == 0 && r.g == 0) = !r.nz:=by unfold Rf.nz;simp
 rw [hqn] at hql
 have HKA:=hid kA;have HWA:=hid hwA
 obtain⟨n,hn⟩:∃ n,M.P.n=n:=⟨_,rfl⟩
 have hkn:M.known r=(!r.nz || (decide (0≤r.s) && decide (r.s<n))):=by rw [← hn];rfl
 rw [hkn]
 rw [hn] at c0
 clear h kA qA hwA hqn hkn hn c1 c2 c3 c4 c5 c6
 rcases hz:r.nz with _ | _ <;> rw [hz] at hql <;> clear hz
 ·rw [show (!false || (decide (0≤r.s) && decide (r.s<(n:Int))))=true from rfl]
  go_enter Tryz.func153,Tryz.ntmps153
  go_upto_region 1 with (fail)
  rw [HWA.out]
  go_quiet (fail)
  go_wp2_with fail
  go_ret
  exact⟨rfl,HKA.out.drewN _⟩
 ·by_cases h0:0≤r.s
  ·by_cases h1:r.s<(n:Int)
   ·rw [show (!true || (decide (0≤r.s) && decide (r.s<(n:Int))))=true from by simp [h0,h1]]
    go_enter Tryz.func153,Tryz.ntmps153
    go_upto_region 1 with (fail)
    rw [HWA.out]
    go_quiet (fail)
    go_wp2_with fail
    go_ret
    exact⟨rfl,HKA.out.drewN _⟩
   ·rw [show (!true || (decide (0≤r.s) && decide (r.s<(n:Int))))=false from by simp [h1]]
    go_enter Tryz.func153,Tryz.ntmps153
    go_upto_region 1 with (fail)
    rw [HWA.out]
    go_quiet (fail)
    go_wp2_with fail
    go_ret
    exact⟨rfl,HKA.out.drewN _⟩
  ·rw [show (!true || (decide (0≤r.s) && decide (r.s<(n:Int))))=false from by simp [h0]]
   go_enter Tryz.func153,Tryz.ntmps153
   go_upto_region 1 with (fail)
   rw [HWA.out]
   go_quiet (fail)
   go_wp2_with fail
   go_ret
   exact⟨rfl,HKA.out.drewN _⟩
theorem begin22_bad {b s:Nat} {K:Ck} (h:R22 w b s K) (hp:K.ph≠0):Calls Tryz.prog 144 #[.pointer (some ⟨b,0,none⟩)] w fun e w'=>e = .returned (.int .i64 8)∧w'=w:=by
 obtain⟨⟨cap,o⟩,_⟩:=h
 obtain⟨c0,c1,c2,c3,_⟩:=cells4 o
 have HV:=hid (valid22 b w c0)
 have hz:((K.ph:Int) == 0)=false:=by simp;omega
 clear o
 go_enter Tryz.func144,Tryz.ntmps144
 go_wp2_with fail
 refine (HV.out).mono ?_
 rintro e w' ⟨rfl,h'⟩
 obtain rfl:=h'.symm
 go_wp2_with fail
 go_ret
 exact⟨rfl,rfl⟩
theorem begin24_bad (h:R24 w m L M q) (hp:M.K.ph≠0):Calls Tryz.prog 73 #[.pointer (some ⟨m,0,none⟩)] w fun e w'=>e = .returned (.int .i64 8)∧w'=w:=by
 obtain⟨cap,c0,c1,c2,c3,c4,c5,c6,cl⟩:=h.cells
 have HV:=hid h.val
 have HB:=hid (begin22_bad h.clk hp)
 clear h
 go_enter Tryz.func73,Tryz.ntmps73
 go_wp2_with fail
 refine (HV.out).mono ?_
 rintro e w' ⟨rfl,h'⟩
 obtain rfl:=h'.symm
 go_wp2_with fail
 refine (HB.out).mono ?_
 rintro e w' ⟨rfl,h'⟩
 obtain rfl:=h'.symm
 go_wp2_with fail
 go_ret
 exact⟨rfl,rfl⟩
end
end Go.Proofs.YtnlkfbndlngjaaaGreat
namespace Go.Proofs.YtnlkfbndlngjaaaGreat
open Go.RowKit
attribute [local go_sem] Oper.semAt_some
set_option linter.unusedVariables false
set_option linter.unusedSimpArgs false
section
variable {N m q x:Nat} {w w' w1:World} {L:L24} {M M':Mk} {S:Nat→Prop}
theorem D24.k0 (h:D24 N w m M q) (hk:Keeps (fun _=>False) w w'):D24 N w' m M q:=by
 obtain⟨L,h1,h2⟩:=h
 exact⟨L,h1.k0 hk,h2⟩
theorem T24.box {z:Nat} {c:Array Value} (hk:Keeps (T24 w N) w w') (hz:w.heap[z]?=some (.cells c 34)):w'.heap[z]?=some (.cells c 34):=block_keep hz hk (T24.not hz (by decide))
theorem note24 (i:Nat) (r:Rf) (h:D24 N w m M q) (hi:i<M.K.many) (hr:r.nz=true→0≤r.s∧r.s<M.P.n):
 Calls Tryz.prog 155 #[.pointer (some ⟨m,0,none⟩),.int .i64 i,.agg #[.int .i64 r.s,.int .u32 r.g]] w fun e w'=>e = .returned (.tuple #[])∧To24 N w w' m (M.note1 i r) q:=by
 obtain⟨wA,hwA⟩:∃ wA,w.alloc (.cells #[.int .i64 r.s,.int .u32 r.g] 34)=wA:=⟨_,rfl⟩
 have kA:Keeps (fun _=>False) w wA:=by rw [← hwA];exact (Keeps.refl _ _).alloc _
 have qA:wA.heap[w.heap.size]?=some (.cells #[.int .i64 r.s,.int .u32 r.g] 34):=by rw [← hwA];exact alloc_new
 have hd:=h.k0 kA
 obtain⟨L,hA,lo⟩:=hd
 have hql:=fun W=>eql_ref W r.s r.g 0 0
 have hqn:(r.s == 0 && r.g == 0) = !r.nz:=by unfold Rf.nz;simp
 rw [hqn] at hql
 have HKA:=hid kA;have HWA:=hid hwA;have HA:=hid hA;have HLO:=hid lo
 obtain⟨cap,o⟩:=hA.own
 obtain⟨c0,c1,c2,c3,c4,c5,c6,_,cl⟩:=cells7f o
 obtain⟨x0,x1,_,xl⟩:=cells2 qA
 rcases hz:r.nz with _ | _ <;> rw [hz] at hql
 ·have HE:=hid (show M.note1 i r=M from by unfold Mk.note1;rw [if_neg (by rw [hz];decide)])
  clear h kA qA hA lo hwA hqn hr hz o c0 c1 c2 c3 c4 c5 c6
  go_enter Tryz.func155,Tryz.ntmps155
  go_upto_region 1 with (fail)
  rw [HWA.out]
  go_wp2_with fail
  refine bodyPost_ret (results_none rfl _ _ _) rfl ?_
  rw [HE.out]
  exact⟨rfl,HKA.out.up,L,HA.out,HLO.out⟩
 ·obtain⟨hs0,hs1⟩:=hr hz
  obtain⟨s,hs⟩:∃ s:Nat,r.s=s:=⟨r.s.toNat,by omega⟩
  have HE:=hid (show M.note1 i r=M.note i s from by unfold Mk.note1;rw [if_pos hz,hs])
  obtain⟨cur,hrb,hcur⟩:=hA.row
  have d0:=cell_at hrb (hcur i hi)
  have hi':(i:Int)<(M.K.many:Int):=by omega
  have hi0:(0:Int)≤(i:Int):=by omega
  have hn2:=hA.pt.n2
  have hss:s<M.P.n:=by omega
  rw [hs] at x0 hql qA
  have HQA:=hid qA
  have h21:=(hA.bf i hi).1
  have HI:=hid hi
  have HPS:=hid (fun W (hk:Keeps (fun y=>y=L.bb i∨(L.bv i).ownBlock=some y) wA W)=>show W.cell? ⟨m,6,none⟩=some (.slice (some ⟨L.rb,0,none⟩) M.K.many cap)∧W.cell? ⟨L.rb,i,none⟩=some (.pointer (some ⟨L.bb i,0,none⟩))∧W.cell? ⟨w.heap.size,0,none⟩=some (.int .i64 s) from by
   have no:∀ {z:Nat} {cs:Array Value} {t:TypeId},wA.heap[z]?=some (.cells cs t)→t≠258→3≠t→¬ (z=L.bb i∨(L.bv i).ownBlock=some z):=fun hz h1 h2 e=>e.elim (fun e=>type_ne hz h21.own h1 e) (fun e=>h21.ne hz h2 e)
   exact⟨cell_at (block_keep o hk (no o (by decide) (by decide))) rfl,cell_at (block_keep hrb hk (no hrb (by decide) (by decide))) (hcur i hi),cell_at (block_keep qA hk (no qA (by decide) (by decide))) rfl⟩)
  by_cases hf:(M.B i).n=(M.B i).size
  ·have HN:=hid (fun W (hk:Keeps (fun _=>False) wA W)=>note21_full (s:Int) ((hA.k0 hk).bf i hi).1 (by omega) (by omega) hf)
   have HFI:=hid (show M.note i s={ M with B:=updf M.B i (M.B i).over,P:=(shd M.P M.S s).1,S:=(shd M.P M.S s).2 } from by unfold Mk.note;rw [if_pos hf,Int.toNat_natCast])
   have HSS:=hid hss
   clear h kA qA hA lo hwA hqn hr hz hrb hcur hs hs0 hs1 hf hss h21 hn2 o
   go_enter Tryz.func155,Tryz.ntmps155
   go_upto_region 1 with (fail)
   rw [HWA.out]
   go_upto_region 2 with (fail)
   go_region_held3 (fun W=>W.cell? ⟨m,6,none⟩=some (.slice (some ⟨L.rb,0,none⟩) M.K.many cap)∧W.cell? ⟨L.rb,i,none⟩=some (.pointer (some ⟨L.bb i,0,none⟩))∧W.cell? ⟨w.heap.size,0,none⟩=some (.int .i64 s))
    ((refine HPS.out _ ?_;(repeat (first | with_reducible exact Keeps.refl _ _ | with_reducible exact k2' | with_reducible refine Keeps.drew ?_))))
    (first | (go_at_call 232;refine (HN.out _ (Keeps.refl _ _).drew).mono ?_;rintro e w2 ⟨rfl,k2,h2⟩;have k2':Keeps (fun y=>y=L.bb i∨(L.bv i).ownBlock=some y) wA w2:=((Keeps.refl _ _).drew).trans (k2.mono (fun _ _ h=>.inl h))))
   have hkt:=HA.out.to HLO.out k2' (fun y hy=>.inr (.inr (.inr (.inr (.inr ⟨i,HI.out,hy⟩)))))
   have H2:=hid (HA.out.setBf (i:=i) HI.out k2' h2 rfl (fun k hk=>.inl hk))
   have HL2:=hid (HLO.out.bv1 (i:=i) (v:=L.bv i) (fun z hz=>HLO.out.bv i HI.out z hz))
   have HK2:=hid (T24.trans HKA.out.up hkt)
   obtain⟨x0,x1,_,xl⟩:=cells2 (T24.box hkt HQA.out)
   have HSH:=hid (shade24 s H2.out HSS.out)
   clear k2 h2 k2' hkt c0 c1 c2 c3 c4 c5 c6 cl d0
   go_wp2_with fail
   refine HSH.out.mono ?_
   rintro e w3 ⟨rfl,k3,sv,h3⟩
   have HK3:=hid (T24.trans HK2.out (H2.out.toPS HL2.out k3));have H3:=hid h3
   clear k3 h3
   go_wp2_with fail
   go_end0
   rw [HE.out,HFI.out]
   exact⟨rfl,HK3.out,_,H3.out,HL2.out.sv⟩
  ·have HN:=hid (fun W (hk:Keeps (fun _=>False) wA W)=>note21_ok (s:Int) ((hA.k0 hk).bf i hi).1 (by omega) (by omega) (Nat.lt_of_le_of_ne h21.nn hf))
   have HFI:=hid (show M.note i s={ M with B:=updf M.B i ((M.B i).note s) } from by unfold Mk.note;rw [if_neg hf])
   clear h kA qA hA lo hwA hqn hr hz hrb hcur hs hs0 hs1 hf hss h21 hn2 o
   go_enter Tryz.func155,Tryz.ntmps155
   go_upto_region 1 with (fail)
   rw [HWA.out]
   go_upto_region 2 with (fail)
   go_region_held3 (fun W=>W.cell? ⟨m,6,none⟩=some (.slice (some ⟨L.rb,0,none⟩) M.K.many cap)∧W.cell? ⟨L.rb,i,none⟩=some (.pointer (some ⟨L.bb i,0,none⟩))∧W.cell? ⟨w.heap.size,0,none⟩=some (.int .i64 s))
    ((refine HPS.out _ ?_;(repeat (first | with_reducible exact Keeps.refl _ _ | with_reducible exact k2' | with_reducible refine Keeps.drew ?_))))
    (first | (go_at_call 232;refine (HN.out _ (Keeps.refl _ _).drew).mono ?_;rintro e w2 ⟨rfl,k2,v2,hv2,h2⟩;have k2':Keeps (fun y=>y=L.bb i∨(L.bv i).ownBlock=some y) wA w2:=((Keeps.refl _ _).drew).trans k2))
   have hkt:=HA.out.to HLO.out k2' (fun y hy=>.inr (.inr (.inr (.inr (.inr ⟨i,HI.out,hy⟩)))))
   have H2:=hid (HA.out.setBf (i:=i) HI.out k2' h2 rfl hv2)
   have HL2:=hid (HLO.out.bv1 (i:=i) (v:=v2) (fun z hz=>(hv2 z hz).elim (fun h=>HLO.out.bv i HI.out z h) (fun h=>by have:=HLO.out.m;obtain⟨_,o⟩:=HA.out.own;have:=lt_block o;have h':wA.heap.size≤z:=h;omega)))
   have HK2:=hid (T24.trans HKA.out.up hkt)
   clear k2 h2 k2' hkt hv2 c0 c1 c2 c3 c4 c5 c6 cl d0
   go_wp2_with fail
   go_end0
   rw [HE.out,HFI.out]
   exact⟨rfl,HK2.out,_,H2.out,HL2.out⟩
theorem wrote24R (i:Int) (r z:Rf) (h:D24 N w m M q):
 Calls Tryz.prog 78 #[.pointer (some ⟨m,0,none⟩),.int .i64 i,.agg #[.int .i64 r.s,.int .u32 r.g],.agg #[.int .i64 z.s,.int .u32 z.g]] w fun e w'=>e = .returned (.int .i64 (M.wroteR i r z).2)∧To24 N w w' m (M.wroteR i r z).1 q:=by
 obtain⟨wA,hwA⟩:∃ wA,(w.alloc (.cells #[.int .i64 r.s,.int .u32 r.g] 34)).alloc (.cells #[.int .i64 z.s,.int .u32 z.g] 34)=wA:=⟨_,rfl⟩
 have kA:Keeps (fun _=>False) w wA:=by rw [← hwA];exact ((Keeps.refl _ _).alloc _).alloc _
 have q0:wA.heap[w.heap.size]?=some (.cells #[.int .i64 r.s,.int .u32 r.g] 34):=by rw [← hwA];exact alloc_old alloc_new
 have q1:wA.heap[w.heap.size+1]?=some (.cells #[.int .i64 z.s,.int .u32 z.g] 34):=by rw [← hwA];exact alloc_new' (by simp)
 have hd:=h.k0 kA
 have HD:=hid hd
 obtain⟨L,hA,lo⟩:=hd
 have HA:=hid hA;have HLO:=hid lo;have HKA:=hid kA;have HWA:=hid hwA;have HQ0:=hid q0;have HQ1:=hid q1
 have HV:=hid hA.val
 obtain⟨cap,c0,c1,c2,c3,c4,c5,c6,cl⟩:=hA.cells
 obtain⟨x0,x1,_,xl⟩:=cells2 q0
 obtain⟨y0,y1,_,yl⟩:=cells2 q1
 have HKN:=hid (fun W (hk:Keeps (fun _=>False) wA W) (r:Rf)=>known24 r (hA.k0 hk))
 have HBA:=hid (fun W (hk:Keeps (fun _=>False) wA W) (i:Nat) (hi:i<M.K.many)=>barrier22 i (hA.k0 hk).clk hi)
 have HFIN:=hid (show ∀ W,Keeps (fun _=>False) wA W→To24 N w W m M q from fun W hk=>⟨kA.up.trans hk.up,L,hA.k0 hk,lo⟩)
 clear h kA q0 q1 hA lo hwA
 by_cases hi:i<0∨(M.K.many:Int)≤i
 ·have HE:=hid (show M.wroteR i r z=(M,3) from by unfold Mk.wroteR;rw [if_pos hi])
  rw [HE.out]
  rcases hi with hi | hi
  ·go_enter Tryz.func78,Tryz.ntmps78
   go_upto_region 1 with (fail)
   rw [HWA.out]
   go_wp2_with fail
   refine (HV.out).mono ?_
   rintro e w' ⟨rfl,h'⟩
   obtain rfl:=h'.symm
   go_wp2_with fail
   go_ret
   exact⟨rfl,HFIN.out _ (Keeps.refl _ _)⟩
  ·by_cases h0:i<0
   all_goals
    go_enter Tryz.func78,Tryz.ntmps78
    go_upto_region 1 with (fail)
    rw [HWA.out]
    go_wp2_with fail
    refine (HV.out).mono ?_
    rintro e w' ⟨rfl,h'⟩
    obtain rfl:=h'.symm
    go_wp2_with fail
    go_ret
    exact⟨rfl,HFIN.out _ (Keeps.refl _ _)⟩
 ·obtain⟨j,rfl⟩:∃ j:Nat,i=j:=⟨i.toNat,by omega⟩
  have hj:j<M.K.many:=by omega
  have h0:¬ (j:Int)<0:=by omega
  have h1:¬ (M.K.many:Int)≤(j:Int):=by omega
  have HJ:=hid hj
  rcases hkr:M.known r with _ | _
  ·have HE:=hid (show M.wroteR j r z=(M,2) from by unfold Mk.wroteR;rw [if_neg hi,if_pos (by rw [hkr];rfl)])
   have HK1:=hid (fun W hk=>HKN.out W hk r)
   rw [hkr] at HK1
   rw [HE.out]
   clear hkr hi hj
   go_enter Tryz.func78,Tryz.ntmps78
   go_upto_region 1 with (fail)
   rw [HWA.out]
   go_wp2_with fail
   refine (HV.out).mono ?_
   rintro e w' ⟨rfl,h'⟩
   obtain rfl:=h'.symm
   go_wp2_with fail
   refine (HK1.out _ (Keeps.refl _ _)).mono ?_
   rintro e w1 ⟨rfl,k1⟩
   have K1:=hid k1
   clear k1
   go_wp2_with fail
   go_ret
   exact⟨rfl,HFIN.out _ K1.out⟩
  ·have HK1:=hid (fun W hk=>HKN.out W hk r)
   rw [hkr] at HK1
   rcases hkz:M.known z with _ | _
   ·have HE:=hid (show M.wroteR j r z=(M,2) from by unfold Mk.wroteR;rw [if_neg hi,if_pos (by rw [hkr,hkz];rfl)])
    have HK2:=hid (fun W hk=>HKN.out W hk z)
    rw [hkz] at HK2
    rw [HE.out]
    clear hkr hkz hi hj
    go_enter Tryz.func78,Tryz.ntmps78
    go_upto_region 1 with (fail)
    rw [HWA.out]
    go_wp2_with fail
    refine (HV.out).mono ?_
    rintro e w' ⟨rfl,h'⟩
    obtain rfl:=h'.symm
    go_wp2_with fail
    refine (HK1.out _ (Keeps.refl _ _)).mono ?_
    rintro e w1 ⟨rfl,k1⟩
    have K1:=hid k1
    have HQ0x:=hid (block_keep HQ0.out k1 (fun h=>h));have HQ1x:=hid (block_keep HQ1.out k1 (fun h=>h))
    clear x0 x1 xl y0 y1 yl c0 c1 c2 c3 c4 c5 c6 cl
    obtain⟨x0,x1,_,xl⟩:=cells2 HQ0x.out;obtain⟨y0,y1,_,yl⟩:=cells2 HQ1x.out
    obtain⟨cap,c0,c1,c2,c3,c4,c5,c6,cl⟩:=(HA.out.k0 k1).cells
    clear k1
    go_wp2_with fail
    refine (HK2.out _ K1.out).mono ?_
    rintro e w2 ⟨rfl,k2⟩
    have K2:=hid (K1.out.trans k2)
    clear k2
    go_wp2_with fail
    go_ret
    exact⟨rfl,HFIN.out _ K2.out⟩
   ·have HK2:=hid (fun W hk=>HKN.out W hk z)
    rw [hkz] at HK2
    have HKR:=hid (And.intro hkr hkz)
    have HE:=hid (show M.wroteR j r z=if M.K.bar j=true then ((M.note1 j r).note1 j z,0) else (M,0) from by unfold Mk.wroteR;rw [if_neg hi,if_neg (by rw [hkr,hkz];decide),Int.toNat_natCast])
    rw [HE.out]
    rcases hb:M.K.bar j with _ | _
    ·have HB:=hid (fun W hk=>HBA.out W hk j hj)
     rw [hb] at HB
     rw [if_neg (by decide)]
     clear hkr hkz hi hj hb
     go_enter Tryz.func78,Tryz.ntmps78
     go_upto_region 1 with (fail)
     rw [HWA.out]
     go_wp2_with fail
     refine (HV.out).mono ?_
     rintro e w' ⟨rfl,h'⟩
     obtain rfl:=h'.symm
     go_wp2_with fail
     refine (HK1.out _ (Keeps.refl _ _)).mono ?_
     rintro e w1 ⟨rfl,k1⟩
     have K1:=hid k1
     have HQ0x:=hid (block_keep HQ0.out k1 (fun h=>h));have HQ1x:=hid (block_keep HQ1.out k1 (fun h=>h))
     clear x0 x1 xl y0 y1 yl c0 c1 c2 c3 c4 c5 c6 cl
     obtain⟨x0,x1,_,xl⟩:=cells2 HQ0x.out;obtain⟨y0,y1,_,yl⟩:=cells2 HQ1x.out
     obtain⟨cap,c0,c1,c2,c3,c4,c5,c6,cl⟩:=(HA.out.k0 k1).cells
     clear k1
     go_wp2_with fail
     refine (HK2.out _ K1.out).mono ?_
     rintro e w2 ⟨rfl,k2⟩
     have k12:=K1.out.trans k2
     have K2:=hid k12
     have HQ0x:=hid (block_keep HQ0.out k12 (fun h=>h));have HQ1x:=hid (block_keep HQ1.out k12 (fun h=>h))
     clear x0 x1 xl y0 y1 yl c0 c1 c2 c3 c4 c5 c6 cl
     obtain⟨x0,x1,_,xl⟩:=cells2 HQ0x.out;obtain⟨y0,y1,_,yl⟩:=cells2 HQ1x.out
     obtain⟨cap,c0,c1,c2,c3,c4,c5,c6,cl⟩:=(HA.out.k0 k12).cells
     clear k2 k12
     go_wp2_with fail
     refine ((HB.out _ K2.out)).mono ?_
     rintro e w' ⟨rfl,h'⟩
     obtain rfl:=h'.symm
     go_wp2_with fail
     go_ret
     exact⟨rfl,HFIN.out _ K2.out⟩
    ·have HB:=hid (fun W hk=>HBA.out W hk j hj)
     rw [hb] at HB
     rw [if_pos rfl]
     have kn:∀ {u:Rf},M.known u=true→u.nz=true→0≤u.s∧u.s<M.P.n:=fun {u} h hz=>by
      unfold Mk.known at h
      rw [hz] at h
      simpa using h
     have HN1:=hid (fun W (hk:Keeps (fun _=>False) wA W)=>note24 j r (HD.out.k0 hk) hj (kn hkr))
     have HN2:=hid (fun W (h:D24 N W m (M.note1 j r) q)=>note24 j z h (by rw [(Mk.note1_K M j r).1];exact hj) (by rw [(Mk.note1_K M j r).2];exact kn hkz))
     clear hkr hkz hi hj hb kn
     go_enter Tryz.func78,Tryz.ntmps78
     go_upto_region 1 with (fail)
     rw [HWA.out]
     go_wp2_with fail
     refine (HV.out).mono ?_
     rintro e w' ⟨rfl,h'⟩
     obtain rfl:=h'.symm
     go_wp2_with fail
     refine (HK1.out _ (Keeps.refl _ _)).mono ?_
     rintro e w1 ⟨rfl,k1⟩
     have K1:=hid k1
     have HQ0x:=hid (block_keep HQ0.out k1 (fun h=>h));have HQ1x:=hid (block_keep HQ1.out k1 (fun h=>h))
     clear x0 x1 xl y0 y1 yl c0 c1 c2 c3 c4 c5 c6 cl
     obtain⟨x0,x1,_,xl⟩:=cells2 HQ0x.out;obtain⟨y0,y1,_,yl⟩:=cells2 HQ1x.out
     obtain⟨cap,c0,c1,c2,c3,c4,c5,c6,cl⟩:=(HA.out.k0 k1).cells
     clear k1
     go_wp2_with fail
     refine (HK2.out _ K1.out).mono ?_
     rintro e w2 ⟨rfl,k2⟩
     have k12:=K1.out.trans k2
     have K2:=hid k12
     have HQ0x:=hid (block_keep HQ0.out k12 (fun h=>h));have HQ1x:=hid (block_keep HQ1.out k12 (fun h=>h))
     clear x0 x1 xl y0 y1 yl c0 c1 c2 c3 c4 c5 c6 cl
     obtain⟨x0,x1,_,xl⟩:=cells2 HQ0x.out;obtain⟨y0,y1,_,yl⟩:=cells2 HQ1x.out
     obtain⟨cap,c0,c1,c2,c3,c4,c5,c6,cl⟩:=(HA.out.k0 k12).cells
     clear k2 k12
     go_wp2_with fail
     refine ((HB.out _ K2.out)).mono ?_
     rintro e w' ⟨rfl,h'⟩
     obtain rfl:=h'.symm
     go_wp2_with fail
     refine (HN1.out _ K2.out).mono ?_
     rintro e w3 ⟨rfl,k3,h3⟩
     have HD3:=hid h3;have K3:=hid (T24.trans ((HKA.out.trans K2.out).up) k3)
     clear x0 x1 xl y0 y1 yl
     obtain⟨y0,y1,_,yl⟩:=cells2 (T24.box k3 HQ1x.out)
     clear k3 h3 c0 c1 c2 c3 c4 c5 c6 cl
     go_wp2_with fail
     refine (HN2.out _ HD3.out).mono ?_
     rintro e w4 ⟨rfl,k4,h4⟩
     have HD4:=hid h4;have K4:=hid (T24.trans K3.out k4)
     clear k4 h4
     go_wp2_with fail
     go_ret
     exact⟨rfl,K4.out,HD4.out⟩
theorem made24R (r:Rf) (h:D24 N w m M q):
 Calls Tryz.prog 80 #[.pointer (some ⟨m,0,none⟩),.agg #[.int .i64 r.s,.int .u32 r.g]] w fun e w'=>e = .returned (.int .i64 (M.madeR r).2)∧To24 N w w' m (M.madeR r).1 q:=by
 obtain⟨s,g⟩:=r
 obtain⟨wA,hwA⟩:∃ wA,w.alloc (.cells #[.int .i64 s,.int .u32 g] 34)=wA:=⟨_,rfl⟩
 have kA:Keeps (fun _=>False) w wA:=by rw [← hwA];exact (Keeps.refl _ _).alloc _
 have qA:wA.heap[w.heap.size]?=some (.cells #[.int .i64 s,.int .u32 g] 34):=by rw [← hwA];exact alloc_new
 have hd:=h.k0 kA
 obtain⟨L,hA,lo⟩:=hd
 have HA:=hid hA;have HLO:=hid lo;have HKA:=hid kA;have HWA:=hid hwA;have HQA:=hid qA
 have HV:=hid hA.val
 have HPH:=hid (fun W (hk:Keeps (fun _=>False) wA W)=>phase22 (hA.k0 hk).clk)
 have HFIN:=hid (show ∀ W,Keeps (fun _=>False) wA W→To24 N w W m M q from fun W hk=>⟨kA.up.trans hk.up,L,hA.k0 hk,lo⟩)
 obtain⟨cap,c0,c1,c2,c3,c4,c5,c6,cl⟩:=hA.cells
 obtain⟨x0,x1,_,xl⟩:=cells2 qA
 by_cases hb:s<0∨(M.P.n:Int)≤s∨g=0
 ·have HE:=hid (show M.madeR ⟨s,g⟩=(M,2) from by unfold Mk.madeR;rw [if_pos hb])
  rw [HE.out]
  have hcs:s<0∨(¬ s<0∧(M.P.n:Int)≤s)∨(¬ s<0∧¬ (M.P.n:Int)≤s∧(g == 0)=true):=by
   by_cases h1:s<0
   ·exact .inl h1
   ·by_cases h2:(M.P.n:Int)≤s
    ·exact .inr (.inl ⟨h1,h2⟩)
    ·refine .inr (.inr ⟨h1,h2,?_⟩)
     have:g=0:=by omega
     simp [this]
  clear h kA qA hA lo hwA hb
  rcases hcs with h1 | ⟨h1,h2⟩ | ⟨h1,h2,h3⟩
  all_goals
   go_enter Tryz.func80,Tryz.ntmps80
   go_upto_region 1 with (fail)
   rw [HWA.out]
   go_wp2_with fail
   refine (HV.out).mono ?_
   rintro e w' ⟨rfl,h'⟩
   obtain rfl:=h'.symm
   go_wp2_with fail
   go_quiet (fail)
   go_wp2_with fail
   go_ret
   exact⟨rfl,HFIN.out _ ((Keeps.refl _ _).drewN _)⟩
 ·obtain⟨i,rfl⟩:∃ i:Nat,s=i:=⟨s.toNat,by omega⟩
  have h1:¬ (i:Int)<0:=by omega
  have h2:¬ (M.P.n:Int)≤(i:Int):=by omega
  have h3:(g == 0)=false:=by simp;omega
  have hi0:decide ((i:Int)<0)=false:=by simp
  have hi1:decide (M.P.n≤i)=false:=by simp;omega
  have HI:=hid (show i<M.P.n by omega)
  by_cases hp:2≤M.K.ph
  ·have HE:=hid (show M.madeR ⟨i,g⟩=({ M with P:=M.P.born i },0) from by unfold Mk.madeR;rw [if_neg hb,if_pos hp,Int.toNat_natCast])
   rw [HE.out]
   have hp':2≤(M.K.ph:Int):=by omega
   have HBO:=hid (fun W (hk:Keeps (fun _=>False) wA W)=>born15 i (hA.k0 hk).pt HI.out)
   clear h kA qA hA lo hwA hb hp
   go_enter Tryz.func80,Tryz.ntmps80
   go_upto_region 1 with (fail)
   rw [HWA.out]
   go_wp2_with fail
   refine (HV.out).mono ?_
   rintro e w' ⟨rfl,h'⟩
   obtain rfl:=h'.symm
   go_wp2_with fail
   go_quiet (fail)
   obtain⟨wB,hwB⟩:∃ wB,wA.drewN nq=wB:=⟨_,rfl⟩
   have kB:Keeps (fun _=>False) wA wB:=by rw [← hwB];exact (Keeps.refl _ _).drewN _
   rw [hwB]
   have KB:=hid kB
   clear x0 x1 xl c0 c1 c2 c3 c4 c5 c6 cl
   obtain⟨x0,x1,_,xl⟩:=cells2 (block_keep HQA.out kB (fun h=>h))
   obtain⟨cap,c0,c1,c2,c3,c4,c5,c6,cl⟩:=(HA.out.k0 kB).cells
   clear hwB kB
   go_wp2_with fail
   refine ((HPH.out _ KB.out)).mono ?_
   rintro e w' ⟨rfl,h'⟩
   obtain rfl:=h'.symm
   go_upto_region 6 with (fail)
   go_still_tail 6,(by kernel_rfl)
   change wpList _ _ _ _ _ (World.drew _)
   go_wp2_with fail
   refine (HBO.out _ KB.out.drew).mono ?_
   rintro e w2 ⟨⟨c,rfl⟩,k2,h2⟩
   have hA2:=HA.out.k0 KB.out.drew
   have H2:=hid (hA2.setP k2 h2 (by unfold Pt.born;split <;> rfl))
   have K2:=hid (T24.trans (HKA.out.trans KB.out.drew).up (hA2.to HLO.out k2 (fun y hy=>.inr (.inr (.inr (.inl hy))))))
   clear k2 h2 hA2
   go_wp2_with fail
   go_ret
   exact⟨rfl,K2.out,L,H2.out,HLO.out⟩
  ·have HE:=hid (show M.madeR ⟨i,g⟩=(M,0) from by unfold Mk.madeR;rw [if_neg hb,if_neg hp])
   rw [HE.out]
   have hp':¬ 2≤(M.K.ph:Int):=by omega
   clear h kA qA hA lo hwA hb hp
   go_enter Tryz.func80,Tryz.ntmps80
   go_upto_region 1 with (fail)
   rw [HWA.out]
   go_wp2_with fail
   refine (HV.out).mono ?_
   rintro e w' ⟨rfl,h'⟩
   obtain rfl:=h'.symm
   go_wp2_with fail
   go_quiet (fail)
   obtain⟨wB,hwB⟩:∃ wB,wA.drewN nq=wB:=⟨_,rfl⟩
   have kB:Keeps (fun _=>False) wA wB:=by rw [← hwB];exact (Keeps.refl _ _).drewN _
   rw [hwB]
   have KB:=hid kB
   clear x0 x1 xl c0 c1 c2 c3 c4 c5 c6 cl
   obtain⟨cap,c0,c1,c2,c3,c4,c5,c6,cl⟩:=(HA.out.k0 kB).cells
   clear hwB kB
   go_wp2_with fail
   refine ((HPH.out _ KB.out)).mono ?_
   rintro e w' ⟨rfl,h'⟩
   obtain rfl:=h'.symm
   go_wp2_with fail
   go_ret
   exact⟨rfl,HFIN.out _ KB.out⟩
end
end Go.Proofs.YtnlkfbndlngjaaaGreat
