import Derived.Test.YtjfmagccmjdhoaaGreatRiN
set_option maxHeartbeats 1000000
set_option maxRecDepth 100000
namespace Go.Proofs.YtjfmagccmjdhoaaGreat
open Go.RowKit
attribute [local go_sem] Oper.semAt_some
theorem IRow.noB {w:World} {base z:Nat} {v:Value} {l:List Int} {c:Array Value} {t:TypeId} (h:IRow w base v l) (hz:w.heap[z]?=some (.cells c t)) (ht:3≠t):¬ v.ownBlock=some z:=by
 intro e
 rcases h.2 with⟨rfl,_⟩ | ⟨g,cap,cur,rfl,_,hg,_⟩
 ·cases e
 ·obtain rfl:g=z:=Option.some.inj e
  exact zM hg hz ht rfl
section
variable {w w':World} {b s:Nat} {K:Ck} {S:Nat→Prop}
theorem cycles22 (h:R22 w b s K):Calls Tryz.prog 207 #[.pointer (some ⟨b,0,none⟩)] w fun e w'=>e = .returned (.int .i64 K.cy)∧w'=w:=by
 obtain⟨⟨cap,o⟩,_⟩:=h
 obtain⟨c0,c1,c2,c3,_⟩:=cells4 o
 have HV:=zC (valid22 b w c0)
 clear o
 go_in
 go_wp2_with fail
 refine zP HV.out ?_
 go_wp2_with fail
 go_ret
 exact⟨rfl,rfl⟩
theorem barrier22 (i:Nat) (h:R22 w b s K) (hi:i<K.many):Calls Tryz.prog 125 #[.pointer (some ⟨b,0,none⟩),.int .i64 i] w fun e w'=>e = .returned (.bool (K.bar i))∧w'=w:=by
 have HS:=zC (seen22_ok i h hi)
 have p5:=h.p5
 obtain⟨⟨cap,o⟩,_⟩:=h
 obtain⟨c0,c1,c2,c3,cl⟩:=cells4 o
 have hb:K.bar i=if K.ph=1 then K.seen i else decide (K.ph=2∨K.ph=3):=rfl
 rw [hb]
 obtain⟨B,hB⟩:∃ B,K.seen i=B:=⟨_,rfl⟩
 rw [hB] at HS ⊢
 clear o hB hb c2 c3
 have hc:K.ph=0∨K.ph=1∨K.ph=2∨K.ph=3∨K.ph=4∨K.ph=5:=by omega
 rcases hc with hq | hq | hq | hq | hq | hq <;> rw [hq] at c1 ⊢ <;> clear hq p5 <;> cases B
 all_goals
  go_in
  go_wp2_with fail
  refine zP HS.out ?_
  go_wp2_with fail
  go_ret
  exact⟨rfl,rfl⟩
end
section
variable {w w':World} {b s:Nat} {P:Pt}
theorem born15 (i:Nat) (h:R15 w b s P) (hi:i<P.n):Calls Tryz.prog 119 #[.pointer (some ⟨b,0,none⟩),.int .i64 i] w fun e w'=>(∃ c,e = .returned (.int .i64 c))∧zA (fun y=>y=s) w w'∧R15 w' b s (P.born i):=by
 have HB:=zC (blacken15 i 0 h hi)
 rw [show (if P.c i=0 then P.put i 2 else P)=P.born i from rfl] at HB
 obtain⟨c,hc⟩:∃ c:Int,(if P.c i=0 then (0:Int) else 8)=c:=⟨_,rfl⟩
 rw [hc] at HB
 clear h hc
 go_in
 go_wp2_with fail
 refine HB.out.mono ?_
 rintro e w1 ⟨rfl,k1,h1⟩
 have K1:=zC k1;have H1:=zC h1
 clear k1 h1
 go_wp2_with fail
 go_ret
 exact⟨⟨_,rfl⟩,K1.out,H1.out⟩
end
section
variable {w w':World} {b:Nat} {v:Value} {B:Bf}
theorem note21_full (x:Int) (h:R21 w b v B) (h0:0≤x) (h1:x<256) (hn:B.n=B.size):Calls Tryz.prog 191 #[.pointer (some ⟨b,0,none⟩),.int .i64 x] w fun e w'=>e = .returned (.tuple #[.bool false,.int .i64 0])∧zA (fun y=>y=b) w w'∧R21 w' b v B.over:=by
 obtain⟨c0,c1,c2,cl⟩:=qB h.own
 have cf2:=zL h.own 2
 have HH:=zC h
 obtain⟨p,c,rfl⟩:=zW h.row
 have hl:B.list.length=B.size:=by rw [← hn];simp [Bf.list]
 rw [hl] at c1
 have hq:((B.size:Int) == (B.size:Int))=true:=by simp
 have x0:¬ x<0:=by omega
 have x1:¬ 256≤x:=by omega
 clear h hl
 go_in
 go_wp2_with fail
 go_region
 go_wp2_with fail
 go_ret2
 have kf:zA (fun y=>y=b) w (w.drew.setCell ⟨b,2,none⟩ (.bool true)):=((zA.refl _ _).drew).trans (zJ _ _ _ _)
 exact⟨rfl,kf,⟨zH (show w.drew.heap[b]?=_ from HH.out.own) 2 _,HH.out.row.keeps kf (fun k _ _ hk e=>HH.out.ne HH.out.own (by decide) (by rw [hk,e])),HH.out.p1,HH.out.p2,HH.out.nn⟩⟩
theorem note21_ok (x:Int) (h:R21 w b v B) (h0:0≤x) (h1:x<256) (hn:B.n<B.size):Calls Tryz.prog 191 #[.pointer (some ⟨b,0,none⟩),.int .i64 x] w fun e w'=>e = .returned (.tuple #[.bool true,.int .i64 0])∧zA (fun y=>y=b∨v.ownBlock=some y) w w'∧∃ v',(∀ k,v'.ownBlock=some k→v.ownBlock=some k∨w.heap.size≤k)∧R21 w' b v' (B.note x):=by
 obtain⟨c0,c1,c2,cl⟩:=qB h.own
 have p2:=h.p2
 have HH:=zC h
 have HNB:=zC (h.ne h.own (by decide))
 have hrow:=h.row
 obtain⟨p,c,rfl⟩:=zW hrow
 have hl:B.list.length=B.n:=by simp [Bf.list]
 rw [hl] at c1 HH HNB hrow ⊢
 have HL:=zC hl
 have HPU:=zC (Bf.list_note hn x)
 obtain⟨l,hll⟩:∃ l,B.list=l:=⟨_,rfl⟩
 rw [hll] at HL HPU hrow
 obtain⟨wd,hwd⟩:∃ wd,w.drew=wd:=⟨_,rfl⟩
 have kd:Kz w wd:=by rw [← hwd];exact (zA.refl _ _).drew
 have hszd:wd.heap.size=w.heap.size:=by rw [← hwd];rfl
 have HKD:=zC kd
 have HKA:=zC (kd.alloc (.cells #[.int .i64 x] 3))
 have HRA:=zC (hrow.keeps (kd.alloc (.cells #[.int .i64 x] 3)) (fun _ _ _ _ h=>h))
 have hq:((B.n:Int) == (B.size:Int))=false:=by simp;omega
 have x0:¬ x<0:=by omega
 have x1:¬ 256≤x:=by omega
 have HWD:=zC hwd;have HSZ:=zC hszd
 clear h hl hll hwd kd hszd hrow
 go_in
 go_wp2_with fail
 go_region
 rw [HWD.out]
 obtain⟨d0,d1,d2,dl⟩:=qB (zB HH.out.own HKD.out (fun h=>h))
 clear c0 c1 c2
 go_wp2_with (first
  | (at_builtin;refine wpList_append_ints _ rfl _ _ rfl 0 (.slice p B.n c) (.slice (some ⟨wd.heap.size,0,none⟩) 1 1) l [x] rfl rfl HRA.out (ints_one zE) (by have:=HL.out;simp only [List.length_cons,List.length_nil];omega) (Nat.zero_le _) ?_;intro v6 w6 hr6 hk6 ho6;have k6:zA (fun y=>(Value.slice p B.n c).ownBlock=some y) w w6:=HKA.out.up.trans hk6;have HFR:=zC (show ∀ k,v6.ownBlock=some k→(Value.slice p B.n c).ownBlock=some k∨w.heap.size≤k from fun k hk=>(by rcases ho6 with e | e;exact .inl (e ▸ hk);exact .inr (by rw [e] at hk;have:=Option.some.inj hk;rw [World.size_alloc] at this;have:=HSZ.out;omega)));obtain⟨p6,q6,rfl⟩:=zW hr6;obtain⟨n6,hn6⟩:∃ n6,(l ++ [x]).length=n6:=⟨_,rfl⟩;rw [hn6] at hr6 HFR ⊢;have HN6:=zC hn6;have HR6:=zC hr6;have HK6:=zC k6;obtain⟨d0,d1,d2,dl⟩:=qB (zB HH.out.own k6 HNB.out);have df1:=zL (zB HH.out.own k6 HNB.out) 1;clear hr6 hk6 ho6 hn6 k6)
  | fail)
 go_ret2
 refine⟨rfl,(HK6.out.mono (fun _ _ h=>.inr h)).trans (zJ _ _ _ _ |>.mono (fun _ _ h=>.inl h)),.slice p6 n6 q6,HFR.out,⟨zH (zB HH.out.own HK6.out HNB.out) 1 _,?_,HH.out.p1,p2,hn⟩⟩
 rw [HPU.out]
 exact HR6.out.keeps (zJ _ _ _ _) (fun k _ _ hk e=>HR6.out.noB (zB HH.out.own HK6.out HNB.out) (by decide) (by rw [hk,e]))
end
section
variable {N m q x:Nat} {w w':World} {L:L24} {M:Mk} {S:Nat→Prop}
theorem cycles24 (h:R24 w m L M q):Calls Tryz.prog 137 #[.pointer (some ⟨m,0,none⟩)] w fun e w'=>e = .returned (.int .i64 M.K.cy)∧w'=w:=by
 obtain⟨cap,c0,c1,c2,c3,c4,c5,c6,cl⟩:=h.cells
 have HV:=zC h.val
 have HP:=zC (cycles22 h.clk)
 clear h
 go_in
 go_wp2_with fail
 refine zP HV.out ?_
 go_wp2_with fail
 refine zP HP.out ?_
 go_wp2_with fail
 go_ret
 exact⟨rfl,rfl⟩
theorem known24 (r:Rf) (h:R24 w m L M q):Calls Tryz.prog 124 #[.pointer (some ⟨m,0,none⟩),.agg #[.int .i64 r.s,.int .u32 r.g]] w fun e w'=>e = .returned (.bool (M.known r))∧Kz w w':=by
 obtain⟨wA,hwA⟩:∃ wA,w.alloc (.cells #[.int .i64 r.s,.int .u32 r.g] 51)=wA:=⟨_,rfl⟩
 have kA:Kz w wA:=by rw [← hwA];exact (zA.refl _ _).alloc _
 have qA:wA.heap[w.heap.size]?=some (.cells #[.int .i64 r.s,.int .u32 r.g] 51):=by rw [← hwA];exact zE
 obtain⟨cap,c0,c1,c2,c3,c4,c5,c6,cl⟩:=(h.k0 kA).cells
 obtain⟨x0,x1,_,xl⟩:=zK qA
 have hql:=fun W=>eql_ref W r.s r.g 0 0
 have hqn:(r.s == 0 && r.g == 0) = !r.nz:=by unfold Rf.nz;simp
 rw [hqn] at hql
 have HKA:=zC kA;have HWA:=zC hwA
 obtain⟨n,hn⟩:∃ n,M.P.n=n:=⟨_,rfl⟩
 have hkn:M.known r=(!r.nz || (decide (0≤r.s) && decide (r.s<n))):=by rw [← hn];rfl
 rw [hkn]
 rw [hn] at c0
 clear h kA qA hwA hqn hkn hn c1 c2 c3 c4 c5 c6
 rcases hz:r.nz with _ | _ <;> rw [hz] at hql <;> clear hz
 ·rw [show (!false || (decide (0≤r.s) && decide (r.s<(n:Int))))=true from rfl]
  go_in
  go_upto_region 1 with (fail)
  rw [HWA.out]
  go_quiet (fail)
  go_wp2_with fail
  go_ret
  exact⟨rfl,HKA.out.drewN _⟩
 ·by_cases h0:0≤r.s
  ·by_cases h1:r.s<(n:Int)
   ·rw [show (!true || (decide (0≤r.s) && decide (r.s<(n:Int))))=true from by simp [h0,h1]]
    go_in
    go_upto_region 1 with (fail)
    rw [HWA.out]
    go_quiet (fail)
    go_wp2_with fail
    go_ret
    exact⟨rfl,HKA.out.drewN _⟩
   ·rw [show (!true || (decide (0≤r.s) && decide (r.s<(n:Int))))=false from by simp [h1]]
    go_in
    go_upto_region 1 with (fail)
    rw [HWA.out]
    go_quiet (fail)
    go_wp2_with fail
    go_ret
    exact⟨rfl,HKA.out.drewN _⟩
  ·rw [show (!true || (decide (0≤r.s) && decide (r.s<(n:Int))))=false from by simp [h0]]
   go_in
   go_upto_region 1 with (fail)
   rw [HWA.out]
   go_quiet (fail)
   go_wp2_with fail
   go_ret
   exact⟨rfl,HKA.out.drewN _⟩
theorem begin22_bad {b s:Nat} {K:Ck} (h:R22 w b s K) (hp:K.ph≠0):Calls Tryz.prog 233 #[.pointer (some ⟨b,0,none⟩)] w fun e w'=>e = .returned (.int .i64 8)∧w'=w:=by
 obtain⟨⟨cap,o⟩,_⟩:=h
 obtain⟨c0,c1,c2,c3,_⟩:=cells4 o
 have HV:=zC (valid22 b w c0)
 have hz:((K.ph:Int) == 0)=false:=by simp;omega
 clear o
 go_in
 go_wp2_with fail
 refine zP HV.out ?_
 go_wp2_with fail
 go_ret
 exact⟨rfl,rfl⟩
theorem begin24_bad (h:R24 w m L M q) (hp:M.K.ph≠0):Calls Tryz.prog 196 #[.pointer (some ⟨m,0,none⟩)] w fun e w'=>e = .returned (.int .i64 8)∧w'=w:=by
 obtain⟨cap,c0,c1,c2,c3,c4,c5,c6,cl⟩:=h.cells
 have HV:=zC h.val
 have HB:=zC (begin22_bad h.clk hp)
 clear h
 go_in
 go_wp2_with fail
 refine zP HV.out ?_
 go_wp2_with fail
 refine zP HB.out ?_
 go_wp2_with fail
 go_ret
 exact⟨rfl,rfl⟩
end
attribute [local go_sem] Oper.semAt_some
section
variable {N m q x:Nat} {w w' w1:World} {L:L24} {M M':Mk} {S:Nat→Prop}
theorem D24.k0 (h:D24 N w m M q) (hk:Kz w w'):D24 N w' m M q:=by
 obtain⟨L,h1,h2⟩:=h
 exact⟨L,h1.k0 hk,h2⟩
theorem T24.box {z:Nat} {c:Array Value} (hk:zA (T24 w N) w w') (hz:w.heap[z]?=some (.cells c 51)):w'.heap[z]?=some (.cells c 51):=zB hz hk (T24.not hz (by decide))
theorem note24 (i:Nat) (r:Rf) (h:D24 N w m M q) (hi:i<M.K.many) (hr:r.nz=true→0≤r.s∧r.s<M.P.n):
 Calls Tryz.prog 126 #[.pointer (some ⟨m,0,none⟩),.int .i64 i,.agg #[.int .i64 r.s,.int .u32 r.g]] w fun e w'=>e = .returned (.tuple #[])∧To24 N w w' m (M.note1 i r) q:=by
 obtain⟨wA,hwA⟩:∃ wA,w.alloc (.cells #[.int .i64 r.s,.int .u32 r.g] 51)=wA:=⟨_,rfl⟩
 have kA:Kz w wA:=by rw [← hwA];exact (zA.refl _ _).alloc _
 have qA:wA.heap[w.heap.size]?=some (.cells #[.int .i64 r.s,.int .u32 r.g] 51):=by rw [← hwA];exact zE
 have hd:=h.k0 kA
 obtain⟨L,hA,lo⟩:=hd
 have hql:=fun W=>eql_ref W r.s r.g 0 0
 have hqn:(r.s == 0 && r.g == 0) = !r.nz:=by unfold Rf.nz;simp
 rw [hqn] at hql
 have HKA:=zC kA;have HWA:=zC hwA;have HA:=zC hA;have HLO:=zC lo
 obtain⟨cap,o⟩:=hA.own
 obtain⟨c0,c1,c2,c3,c4,c5,c6,_,cl⟩:=cells7f o
 obtain⟨x0,x1,_,xl⟩:=zK qA
 rcases hz:r.nz with _ | _ <;> rw [hz] at hql
 ·have HE:=zC (show M.note1 i r=M from by unfold Mk.note1;rw [if_neg (by rw [hz];decide)])
  clear h kA qA hA lo hwA hqn hr hz o c0 c1 c2 c3 c4 c5 c6
  go_in
  go_upto_region 1 with (fail)
  rw [HWA.out]
  go_wp2_with fail
  refine bodyPost_ret (results_none rfl _ _ _) rfl ?_
  rw [HE.out]
  exact⟨rfl,HKA.out.up,L,HA.out,HLO.out⟩
 ·obtain⟨hs0,hs1⟩:=hr hz
  obtain⟨s,hs⟩:∃ s:Nat,r.s=s:=⟨r.s.toNat,by omega⟩
  have HE:=zC (show M.note1 i r=M.note i s from by unfold Mk.note1;rw [if_pos hz,hs])
  obtain⟨cur,hrb,hcur⟩:=hA.row
  have d0:=zD hrb (hcur i hi)
  have hi':(i:Int)<(M.K.many:Int):=by omega
  have hi0:(0:Int)≤(i:Int):=by omega
  have hn2:=hA.pt.n2
  have hss:s<M.P.n:=by omega
  rw [hs] at x0 hql qA
  have HQA:=zC qA
  have h21:=(hA.bf i hi).1
  have HI:=zC hi
  have HPS:=zC (fun W (hk:zA (fun y=>y=L.bb i∨(L.bv i).ownBlock=some y) wA W)=>show W.cell? ⟨m,6,none⟩=some (.slice (some ⟨L.rb,0,none⟩) M.K.many cap)∧W.cell? ⟨L.rb,i,none⟩=some (.pointer (some ⟨L.bb i,0,none⟩))∧W.cell? ⟨w.heap.size,0,none⟩=some (.int .i64 s) from by
   have no:∀ {z:Nat} {cs:Array Value} {t:TypeId},wA.heap[z]?=some (.cells cs t)→t≠279→3≠t→¬ (z=L.bb i∨(L.bv i).ownBlock=some z):=fun hz h1 h2 e=>e.elim (fun e=>zM hz h21.own h1 e) (fun e=>h21.ne hz h2 e)
   exact⟨zD (zB o hk (no o (by decide) (by decide))) rfl,zD (zB hrb hk (no hrb (by decide) (by decide))) (hcur i hi),zD (zB qA hk (no qA (by decide) (by decide))) rfl⟩)
  by_cases hf:(M.B i).n=(M.B i).size
  ·have HN:=zC (fun W (hk:Kz wA W)=>note21_full (s:Int) ((hA.k0 hk).bf i hi).1 (by omega) (by omega) hf)
   have HFI:=zC (show M.note i s={ M with B:=zU M.B i (M.B i).over,P:=(shd M.P M.S s).1,S:=(shd M.P M.S s).2 } from by unfold Mk.note;rw [if_pos hf,Int.toNat_natCast])
   have HSS:=zC hss
   clear h kA qA hA lo hwA hqn hr hz hrb hcur hs hs0 hs1 hf hss h21 hn2 o
   go_in
   go_upto_region 1 with (fail)
   rw [HWA.out]
   go_upto_region 2 with (fail)
   go_region_held3 (fun W=>W.cell? ⟨m,6,none⟩=some (.slice (some ⟨L.rb,0,none⟩) M.K.many cap)∧W.cell? ⟨L.rb,i,none⟩=some (.pointer (some ⟨L.bb i,0,none⟩))∧W.cell? ⟨w.heap.size,0,none⟩=some (.int .i64 s))
    ((refine HPS.out _ ?_;(with_reducible repeat first | exact zA.refl _ _ | exact k2' | refine zA.drew ?_)))
    (first | (go_at_call 191;refine (HN.out _ (zA.refl _ _).drew).mono ?_;rintro e w2 ⟨rfl,k2,h2⟩;have k2':zA (fun y=>y=L.bb i∨(L.bv i).ownBlock=some y) wA w2:=((zA.refl _ _).drew).trans (k2.mono (fun _ _ h=>.inl h))))
   have hkt:=HA.out.to HLO.out k2' (fun y hy=>.inr (.inr (.inr (.inr (.inr ⟨i,HI.out,hy⟩)))))
   have H2:=zC (HA.out.setBf (i:=i) HI.out k2' h2 rfl (fun k hk=>.inl hk))
   have HL2:=zC (HLO.out.bv1 (i:=i) (v:=L.bv i) (fun z hz=>HLO.out.bv i HI.out z hz))
   have HK2:=zC (T24.trans HKA.out.up hkt)
   obtain⟨x0,x1,_,xl⟩:=zK (T24.box hkt HQA.out)
   have HSH:=zC (shade24 s H2.out HSS.out)
   clear k2 h2 k2' hkt c0 c1 c2 c3 c4 c5 c6 cl d0
   go_wp2_with fail
   refine HSH.out.mono ?_
   rintro e w3 ⟨rfl,k3,sv,h3⟩
   have HK3:=zC (T24.trans HK2.out (H2.out.toPS HL2.out k3));have H3:=zC h3
   clear k3 h3
   go_wp2_with fail
   go_end0
   rw [HE.out,HFI.out]
   exact⟨rfl,HK3.out,_,H3.out,HL2.out.sv⟩
  ·have HN:=zC (fun W (hk:Kz wA W)=>note21_ok (s:Int) ((hA.k0 hk).bf i hi).1 (by omega) (by omega) (Nat.lt_of_le_of_ne h21.nn hf))
   have HFI:=zC (show M.note i s={ M with B:=zU M.B i ((M.B i).note s) } from by unfold Mk.note;rw [if_neg hf])
   clear h kA qA hA lo hwA hqn hr hz hrb hcur hs hs0 hs1 hf hss h21 hn2 o
   go_in
   go_upto_region 1 with (fail)
   rw [HWA.out]
   go_upto_region 2 with (fail)
   go_region_held3 (fun W=>W.cell? ⟨m,6,none⟩=some (.slice (some ⟨L.rb,0,none⟩) M.K.many cap)∧W.cell? ⟨L.rb,i,none⟩=some (.pointer (some ⟨L.bb i,0,none⟩))∧W.cell? ⟨w.heap.size,0,none⟩=some (.int .i64 s))
    ((refine HPS.out _ ?_;(with_reducible repeat first | exact zA.refl _ _ | exact k2' | refine zA.drew ?_)))
    (first | (go_at_call 191;refine (HN.out _ (zA.refl _ _).drew).mono ?_;rintro e w2 ⟨rfl,k2,v2,hv2,h2⟩;have k2':zA (fun y=>y=L.bb i∨(L.bv i).ownBlock=some y) wA w2:=((zA.refl _ _).drew).trans k2))
   have hkt:=HA.out.to HLO.out k2' (fun y hy=>.inr (.inr (.inr (.inr (.inr ⟨i,HI.out,hy⟩)))))
   have H2:=zC (HA.out.setBf (i:=i) HI.out k2' h2 rfl hv2)
   have HL2:=zC (HLO.out.bv1 (i:=i) (v:=v2) (fun z hz=>(hv2 z hz).elim (fun h=>HLO.out.bv i HI.out z h) (fun h=>by have:=HLO.out.m;obtain⟨_,o⟩:=HA.out.own;have:=zF o;have h':wA.heap.size≤z:=h;omega)))
   have HK2:=zC (T24.trans HKA.out.up hkt)
   clear k2 h2 k2' hkt hv2 c0 c1 c2 c3 c4 c5 c6 cl d0
   go_wp2_with fail
   go_end0
   rw [HE.out,HFI.out]
   exact⟨rfl,HK2.out,_,H2.out,HL2.out⟩
theorem wrote24R (i:Int) (r z:Rf) (h:D24 N w m M q):
 Calls Tryz.prog 49 #[.pointer (some ⟨m,0,none⟩),.int .i64 i,.agg #[.int .i64 r.s,.int .u32 r.g],.agg #[.int .i64 z.s,.int .u32 z.g]] w fun e w'=>e = .returned (.int .i64 (M.wroteR i r z).2)∧To24 N w w' m (M.wroteR i r z).1 q:=by
 obtain⟨wA,hwA⟩:∃ wA,(w.alloc (.cells #[.int .i64 r.s,.int .u32 r.g] 51)).alloc (.cells #[.int .i64 z.s,.int .u32 z.g] 51)=wA:=⟨_,rfl⟩
 have kA:Kz w wA:=by rw [← hwA];exact ((zA.refl _ _).alloc _).alloc _
 have q0:wA.heap[w.heap.size]?=some (.cells #[.int .i64 r.s,.int .u32 r.g] 51):=by rw [← hwA];exact zG zE
 have q1:wA.heap[w.heap.size+1]?=some (.cells #[.int .i64 z.s,.int .u32 z.g] 51):=by rw [← hwA];exact zN (by simp)
 have hd:=h.k0 kA
 have HD:=zC hd
 obtain⟨L,hA,lo⟩:=hd
 have HA:=zC hA;have HLO:=zC lo;have HKA:=zC kA;have HWA:=zC hwA;have HQ0:=zC q0;have HQ1:=zC q1
 have HV:=zC hA.val
 obtain⟨cap,c0,c1,c2,c3,c4,c5,c6,cl⟩:=hA.cells
 obtain⟨x0,x1,_,xl⟩:=zK q0
 obtain⟨y0,y1,_,yl⟩:=zK q1
 have HKN:=zC (fun W (hk:Kz wA W) (r:Rf)=>known24 r (hA.k0 hk))
 have HBA:=zC (fun W (hk:Kz wA W) (i:Nat) (hi:i<M.K.many)=>barrier22 i (hA.k0 hk).clk hi)
 have HFIN:=zC (show ∀ W,Kz wA W→To24 N w W m M q from fun W hk=>⟨kA.up.trans hk.up,L,hA.k0 hk,lo⟩)
 clear h kA q0 q1 hA lo hwA
 by_cases hi:i<0∨(M.K.many:Int)≤i
 ·have HE:=zC (show M.wroteR i r z=(M,3) from by unfold Mk.wroteR;rw [if_pos hi])
  rw [HE.out]
  rcases hi with hi | hi
  ·go_in
   go_upto_region 1 with (fail)
   rw [HWA.out]
   go_wp2_with fail
   refine zP HV.out ?_
   go_wp2_with fail
   go_ret
   exact⟨rfl,HFIN.out _ (zA.refl _ _)⟩
  ·by_cases h0:i<0
   all_goals
    go_in
    go_upto_region 1 with (fail)
    rw [HWA.out]
    go_wp2_with fail
    refine zP HV.out ?_
    go_wp2_with fail
    go_ret
    exact⟨rfl,HFIN.out _ (zA.refl _ _)⟩
 ·obtain⟨j,rfl⟩:∃ j:Nat,i=j:=⟨i.toNat,by omega⟩
  have hj:j<M.K.many:=by omega
  have h0:¬ (j:Int)<0:=by omega
  have h1:¬ (M.K.many:Int)≤(j:Int):=by omega
  have HJ:=zC hj
  rcases hkr:M.known r with _ | _
  ·have HE:=zC (show M.wroteR j r z=(M,2) from by unfold Mk.wroteR;rw [if_neg hi,if_pos (by rw [hkr];rfl)])
   have HK1:=zC (fun W hk=>HKN.out W hk r)
   rw [hkr] at HK1
   rw [HE.out]
   clear hkr hi hj
   go_in
   go_upto_region 1 with (fail)
   rw [HWA.out]
   go_wp2_with fail
   refine zP HV.out ?_
   go_wp2_with fail
   refine zQ (HK1.out _ (zA.refl _ _)) fun w1 k1=>?_
   have K1:=zC k1
   clear k1
   go_wp2_with fail
   go_ret
   exact⟨rfl,HFIN.out _ K1.out⟩
  ·have HK1:=zC (fun W hk=>HKN.out W hk r)
   rw [hkr] at HK1
   rcases hkz:M.known z with _ | _
   ·have HE:=zC (show M.wroteR j r z=(M,2) from by unfold Mk.wroteR;rw [if_neg hi,if_pos (by rw [hkr,hkz];rfl)])
    have HK2:=zC (fun W hk=>HKN.out W hk z)
    rw [hkz] at HK2
    rw [HE.out]
    clear hkr hkz hi hj
    go_in
    go_upto_region 1 with (fail)
    rw [HWA.out]
    go_wp2_with fail
    refine zP HV.out ?_
    go_wp2_with fail
    refine zQ (HK1.out _ (zA.refl _ _)) fun w1 k1=>?_
    have K1:=zC k1
    have HQ0x:=zC (zB HQ0.out k1 (fun h=>h));have HQ1x:=zC (zB HQ1.out k1 (fun h=>h))
    clear x0 x1 xl y0 y1 yl c0 c1 c2 c3 c4 c5 c6 cl
    obtain⟨x0,x1,_,xl⟩:=zK HQ0x.out;obtain⟨y0,y1,_,yl⟩:=zK HQ1x.out
    obtain⟨cap,c0,c1,c2,c3,c4,c5,c6,cl⟩:=(HA.out.k0 k1).cells
    clear k1
    go_wp2_with fail
    refine zQ (HK2.out _ K1.out) fun w2 k2=>?_
    have K2:=zC (K1.out.trans k2)
    clear k2
    go_wp2_with fail
    go_ret
    exact⟨rfl,HFIN.out _ K2.out⟩
   ·have HK2:=zC (fun W hk=>HKN.out W hk z)
    rw [hkz] at HK2
    have HKR:=zC (And.intro hkr hkz)
    have HE:=zC (show M.wroteR j r z=if M.K.bar j=true then ((M.note1 j r).note1 j z,0) else (M,0) from by unfold Mk.wroteR;rw [if_neg hi,if_neg (by rw [hkr,hkz];decide),Int.toNat_natCast])
    rw [HE.out]
    rcases hb:M.K.bar j with _ | _
    ·have HB:=zC (fun W hk=>HBA.out W hk j hj)
     rw [hb] at HB
     rw [if_neg (by decide)]
     clear hkr hkz hi hj hb
     go_in
     go_upto_region 1 with (fail)
     rw [HWA.out]
     go_wp2_with fail
     refine zP HV.out ?_
     go_wp2_with fail
     refine zQ (HK1.out _ (zA.refl _ _)) fun w1 k1=>?_
     have K1:=zC k1
     have HQ0x:=zC (zB HQ0.out k1 (fun h=>h));have HQ1x:=zC (zB HQ1.out k1 (fun h=>h))
     clear x0 x1 xl y0 y1 yl c0 c1 c2 c3 c4 c5 c6 cl
     obtain⟨x0,x1,_,xl⟩:=zK HQ0x.out;obtain⟨y0,y1,_,yl⟩:=zK HQ1x.out
     obtain⟨cap,c0,c1,c2,c3,c4,c5,c6,cl⟩:=(HA.out.k0 k1).cells
     clear k1
     go_wp2_with fail
     refine zQ (HK2.out _ K1.out) fun w2 k2=>?_
     have k12:=K1.out.trans k2
     have K2:=zC k12
     have HQ0x:=zC (zB HQ0.out k12 (fun h=>h));have HQ1x:=zC (zB HQ1.out k12 (fun h=>h))
     clear x0 x1 xl y0 y1 yl c0 c1 c2 c3 c4 c5 c6 cl
     obtain⟨x0,x1,_,xl⟩:=zK HQ0x.out;obtain⟨y0,y1,_,yl⟩:=zK HQ1x.out
     obtain⟨cap,c0,c1,c2,c3,c4,c5,c6,cl⟩:=(HA.out.k0 k12).cells
     clear k2 k12
     go_wp2_with fail
     refine zP ((HB.out _ K2.out)) ?_
     go_wp2_with fail
     go_ret
     exact⟨rfl,HFIN.out _ K2.out⟩
    ·have HB:=zC (fun W hk=>HBA.out W hk j hj)
     rw [hb] at HB
     rw [if_pos rfl]
     have kn:∀ {u:Rf},M.known u=true→u.nz=true→0≤u.s∧u.s<M.P.n:=fun {u} h hz=>by
      unfold Mk.known at h
      rw [hz] at h
      simpa using h
     have HN1:=zC (fun W (hk:Kz wA W)=>note24 j r (HD.out.k0 hk) hj (kn hkr))
     have HN2:=zC (fun W (h:D24 N W m (M.note1 j r) q)=>note24 j z h (by rw [(Mk.note1_K M j r).1];exact hj) (by rw [(Mk.note1_K M j r).2];exact kn hkz))
     clear hkr hkz hi hj hb kn
     go_in
     go_upto_region 1 with (fail)
     rw [HWA.out]
     go_wp2_with fail
     refine zP HV.out ?_
     go_wp2_with fail
     refine zQ (HK1.out _ (zA.refl _ _)) fun w1 k1=>?_
     have K1:=zC k1
     have HQ0x:=zC (zB HQ0.out k1 (fun h=>h));have HQ1x:=zC (zB HQ1.out k1 (fun h=>h))
     clear x0 x1 xl y0 y1 yl c0 c1 c2 c3 c4 c5 c6 cl
     obtain⟨x0,x1,_,xl⟩:=zK HQ0x.out;obtain⟨y0,y1,_,yl⟩:=zK HQ1x.out
     obtain⟨cap,c0,c1,c2,c3,c4,c5,c6,cl⟩:=(HA.out.k0 k1).cells
     clear k1
     go_wp2_with fail
     refine zQ (HK2.out _ K1.out) fun w2 k2=>?_
     have k12:=K1.out.trans k2
     have K2:=zC k12
     have HQ0x:=zC (zB HQ0.out k12 (fun h=>h));have HQ1x:=zC (zB HQ1.out k12 (fun h=>h))
     clear x0 x1 xl y0 y1 yl c0 c1 c2 c3 c4 c5 c6 cl
     obtain⟨x0,x1,_,xl⟩:=zK HQ0x.out;obtain⟨y0,y1,_,yl⟩:=zK HQ1x.out
     obtain⟨cap,c0,c1,c2,c3,c4,c5,c6,cl⟩:=(HA.out.k0 k12).cells
     clear k2 k12
     go_wp2_with fail
     refine zP ((HB.out _ K2.out)) ?_
     go_wp2_with fail
     refine (HN1.out _ K2.out).mono ?_
     rintro e w3 ⟨rfl,k3,h3⟩
     have HD3:=zC h3;have K3:=zC (T24.trans ((HKA.out.trans K2.out).up) k3)
     clear x0 x1 xl y0 y1 yl
     obtain⟨y0,y1,_,yl⟩:=zK (T24.box k3 HQ1x.out)
     clear k3 h3 c0 c1 c2 c3 c4 c5 c6 cl
     go_wp2_with fail
     refine (HN2.out _ HD3.out).mono ?_
     rintro e w4 ⟨rfl,k4,h4⟩
     have HD4:=zC h4;have K4:=zC (T24.trans K3.out k4)
     clear k4 h4
     go_wp2_with fail
     go_ret
     exact⟨rfl,K4.out,HD4.out⟩
theorem made24R (r:Rf) (h:D24 N w m M q):
 Calls Tryz.prog 46 #[.pointer (some ⟨m,0,none⟩),.agg #[.int .i64 r.s,.int .u32 r.g]] w fun e w'=>e = .returned (.int .i64 (M.madeR r).2)∧To24 N w w' m (M.madeR r).1 q:=by
 obtain⟨s,g⟩:=r
 obtain⟨wA,hwA⟩:∃ wA,w.alloc (.cells #[.int .i64 s,.int .u32 g] 51)=wA:=⟨_,rfl⟩
 have kA:Kz w wA:=by rw [← hwA];exact (zA.refl _ _).alloc _
 have qA:wA.heap[w.heap.size]?=some (.cells #[.int .i64 s,.int .u32 g] 51):=by rw [← hwA];exact zE
 have hd:=h.k0 kA
 obtain⟨L,hA,lo⟩:=hd
 have HA:=zC hA;have HLO:=zC lo;have HKA:=zC kA;have HWA:=zC hwA;have HQA:=zC qA
 have HV:=zC hA.val
 have HPH:=zC (fun W (hk:Kz wA W)=>phase22 (hA.k0 hk).clk)
 have HFIN:=zC (show ∀ W,Kz wA W→To24 N w W m M q from fun W hk=>⟨kA.up.trans hk.up,L,hA.k0 hk,lo⟩)
 obtain⟨cap,c0,c1,c2,c3,c4,c5,c6,cl⟩:=hA.cells
 obtain⟨x0,x1,_,xl⟩:=zK qA
 by_cases hb:s<0∨(M.P.n:Int)≤s∨g=0
 ·have HE:=zC (show M.madeR ⟨s,g⟩=(M,2) from by unfold Mk.madeR;rw [if_pos hb])
  rw [HE.out]
  have hcs:s<0∨(¬ s<0∧(M.P.n:Int)≤s)∨(¬ s<0∧¬ (M.P.n:Int)≤s∧(g == 0)=true):=by
   by_cases h1:s<0
   ·exact .inl h1
   ·by_cases h2:(M.P.n:Int)≤s
    ·exact .inr (.inl ⟨h1,h2⟩)
    ·refine .inr (.inr ⟨h1,h2,?_⟩)
     have:g=0:=by omega
     simp [this]
  clear h kA qA hA lo hwA hb
  rcases hcs with h1 | ⟨h1,h2⟩ | ⟨h1,h2,h3⟩
  all_goals
   go_in
   go_upto_region 1 with (fail)
   rw [HWA.out]
   go_wp2_with fail
   refine zP HV.out ?_
   go_wp2_with fail
   go_quiet (fail)
   go_wp2_with fail
   go_ret
   exact⟨rfl,HFIN.out _ ((zA.refl _ _).drewN _)⟩
 ·obtain⟨i,rfl⟩:∃ i:Nat,s=i:=⟨s.toNat,by omega⟩
  have h1:¬ (i:Int)<0:=by omega
  have h2:¬ (M.P.n:Int)≤(i:Int):=by omega
  have h3:(g == 0)=false:=by simp;omega
  have hi0:decide ((i:Int)<0)=false:=by simp
  have hi1:decide (M.P.n≤i)=false:=by simp;omega
  have HI:=zC (show i<M.P.n by omega)
  by_cases hp:2≤M.K.ph
  ·have HE:=zC (show M.madeR ⟨i,g⟩=({ M with P:=M.P.born i },0) from by unfold Mk.madeR;rw [if_neg hb,if_pos hp,Int.toNat_natCast])
   rw [HE.out]
   have hp':2≤(M.K.ph:Int):=by omega
   have HBO:=zC (fun W (hk:Kz wA W)=>born15 i (hA.k0 hk).pt HI.out)
   clear h kA qA hA lo hwA hb hp
   go_in
   go_upto_region 1 with (fail)
   rw [HWA.out]
   go_wp2_with fail
   refine zP HV.out ?_
   go_wp2_with fail
   go_quiet (fail)
   obtain⟨wB,hwB⟩:∃ wB,wA.drewN nq=wB:=⟨_,rfl⟩
   have kB:Kz wA wB:=by rw [← hwB];exact (zA.refl _ _).drewN _
   rw [hwB]
   have KB:=zC kB
   clear x0 x1 xl c0 c1 c2 c3 c4 c5 c6 cl
   obtain⟨x0,x1,_,xl⟩:=zK (zB HQA.out kB (fun h=>h))
   obtain⟨cap,c0,c1,c2,c3,c4,c5,c6,cl⟩:=(HA.out.k0 kB).cells
   clear hwB kB
   go_wp2_with fail
   refine zP ((HPH.out _ KB.out)) ?_
   go_upto_region 6 with (fail)
   go_still_tail 6,(by kernel_rfl)
   change wpList _ _ _ _ _ (World.drew _)
   go_wp2_with fail
   refine (HBO.out _ KB.out.drew).mono ?_
   rintro e w2 ⟨⟨c,rfl⟩,k2,h2⟩
   have hA2:=HA.out.k0 KB.out.drew
   have H2:=zC (hA2.setP k2 h2 (by unfold Pt.born;split <;> rfl))
   have K2:=zC (T24.trans (HKA.out.trans KB.out.drew).up (hA2.to HLO.out k2 (fun y hy=>.inr (.inr (.inr (.inl hy))))))
   clear k2 h2 hA2
   go_wp2_with fail
   go_ret
   exact⟨rfl,K2.out,L,H2.out,HLO.out⟩
  ·have HE:=zC (show M.madeR ⟨i,g⟩=(M,0) from by unfold Mk.madeR;rw [if_neg hb,if_neg hp])
   rw [HE.out]
   have hp':¬ 2≤(M.K.ph:Int):=by omega
   clear h kA qA hA lo hwA hb hp
   go_in
   go_upto_region 1 with (fail)
   rw [HWA.out]
   go_wp2_with fail
   refine zP HV.out ?_
   go_wp2_with fail
   go_quiet (fail)
   obtain⟨wB,hwB⟩:∃ wB,wA.drewN nq=wB:=⟨_,rfl⟩
   have kB:Kz wA wB:=by rw [← hwB];exact (zA.refl _ _).drewN _
   rw [hwB]
   have KB:=zC kB
   clear x0 x1 xl c0 c1 c2 c3 c4 c5 c6 cl
   obtain⟨cap,c0,c1,c2,c3,c4,c5,c6,cl⟩:=(HA.out.k0 kB).cells
   clear hwB kB
   go_wp2_with fail
   refine zP ((HPH.out _ KB.out)) ?_
   go_wp2_with fail
   go_ret
   exact⟨rfl,HFIN.out _ KB.out⟩
end
end Go.Proofs.YtjfmagccmjdhoaaGreat
