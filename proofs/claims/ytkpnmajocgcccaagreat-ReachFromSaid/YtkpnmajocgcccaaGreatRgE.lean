import Derived.Test.YtkpnmajocgcccaaGreatRfO
import Derived.Test.YtkpnmajocgcccaaGreatRgB
set_option maxHeartbeats 2000000
set_option maxRecDepth 100000
namespace Go.Proofs.YtkpnmajocgcccaaGreat
open Go.RowKit
set_option linter.unusedVariables false
set_option linter.unusedSimpArgs false
section
variable {w w':World} {b r:Nat} {H:Hp}
theorem has19 (v:Value) (l:List Rf) (x:Rf) (w:World) (hv:Refs w v l) (hn:l.length≤100000):
 Calls Tryz.prog 69 #[v,.agg #[.int .i64 x.s,.int .u32 x.g]] w fun e w'=>e = .returned (.bool (decide (x∈l)))∧Keeps (fun _=>False) w w':=by
 obtain⟨p,c,rfl⟩:=hv.slice
 have HV:=hid (fun W (hk:Keeps (fun _=>False) w W)=>(hv.keeps hk (fun _ _ h=>h)).cell.2)
 clear hv
 obtain⟨E,hE⟩:∃ E,decide (x∈l)=E:=⟨_,rfl⟩
 have HE:=hid hE
 rw [hE]
 clear hE
 go_enter Tryz.func69,Tryz.ntmps69
 go_wp2_with fail
 go_loopw [5] (fun ix wr=>∃ (k:Nat),k≤l.length∧ix = .int .i64 k∧Hid (wr.heap[w.heap.size]?=some (.cells #[.int .i64 x.s,.int .u32 x.g] 41))∧Hid (∀ j,j<k→l[j]?≠some x)∧Hid (Keeps (fun _=>False) w wr)) (fun ix _=>l.length - (intOf ix).toNat)
 case atStart=>exact⟨0,Nat.zero_le _,rfl,hid alloc_new,hid (fun j hj=>by omega),hid ((Keeps.refl _ _).alloc _)⟩
 case round=>
  obtain⟨k,hk,rfl,HB,HT,HK⟩:=hrel
  have hk0:(0:Int)≤k:=by omega
  by_cases hlt:k<l.length
  ·obtain⟨y,hy⟩:∃ y,l[k]?=some y:=⟨_,List.getElem?_eq_getElem hlt⟩
   obtain⟨g,rfl,hgl,c0,c1⟩:=HV.out wr HK.out k y hy
   have hlt':(k:Int)<(l.length:Int):=by omega
   have hql:=fun W=>eql_ref W y.s y.g x.s x.g
   obtain⟨b0,b1,_,bl⟩:=cells2 HB.out
   have HY:=hid hy
   clear HV hy
   rcases hz:(y.s == x.s && y.g == x.g) with _ | _
   ·rw [hz] at hql
    have HT':=hid (show ∀ j,j<k+1→l[j]?≠some x from fun j hj=>by
     by_cases e:j=k
     ·subst e
      rw [HY.out]
      intro e'
      rw [Option.some.inj e'] at hz
      simp at hz
     ·exact HT.out j (by omega))
    clear hz
    go_wp2_with fail
    go_region
    go_wp2_with fail
    refine⟨⟨k+1,by omega,by go_num,hid (drew_blk HB.out),HT',hid HK.out.drew⟩,by simp [intOf];omega⟩
   ·rw [hz] at hql
    have hE:E=true:=by
     rw [← HE.out,decide_eq_true_eq]
     have:y=x:=by
      obtain⟨ys,yg⟩:=y
      obtain⟨xs,xg⟩:=x
      simp at hz
      rw [hz.1,hz.2]
     rw [← this]
     exact List.mem_of_getElem? HY.out
    subst hE
    clear hz
    go_wp2_with fail
    go_region
    go_wp2_with fail
    go_ret
    exact⟨rfl,HK.out.drew⟩
  ·obtain rfl:k=l.length:=by omega
   have hlt':¬ (l.length:Int)<(l.length:Int):=by omega
   go_wp2_with fail
   go_ret
   have hE:E=false:=by
    rw [← HE.out,decide_eq_false_iff_not]
    intro hm
    obtain⟨j,hj⟩:=List.getElem?_of_mem hm
    exact HT.out j (List.getElem?_eq_some_iff.1 hj).1 hj
   rw [hE]
   exact⟨rfl,HK.out⟩
theorem ck_no {H:Hp} (h1:1≤H.T.n) (hg:∀ i,i<H.T.n→1≤H.T.gn i) {x:Rf} (hx:x.nz=false):(ckV H.T x.s x.g == 0)=false:=by
 obtain⟨s,g⟩:=x
 unfold Rf.nz at hx
 simp at hx
 obtain⟨rfl,rfl⟩:=hx
 have:=hg 0 (by omega)
 show (ckV H.T 0 0 == 0)=false
 unfold ckV
 rw [if_neg (by omega),if_neg (by rintro⟨_,h⟩;simp at h;omega)]
 rfl
theorem hres_upto {H:Hp} (h1:1≤H.T.n) (hg:∀ i,i<H.T.n→1≤H.T.gn i) (o:Ob):∀ k,hres H ((o.upto k).map (·.2))=hres H ((List.range k).map o.fs)
 | 0=>rfl
 | k+1=>by
  have ih:=hres_upto h1 hg o k
  rw [Ob.upto,List.range_succ,List.map_append,List.map_append]
  unfold hres at ih ⊢
  rw [List.filter_append,List.filter_append,ih]
  congr 1
  rcases hz:(o.fs k).nz with _ | _
  ·have:=ck_no h1 hg hz
   simp [this]
  ·simp
theorem hres_short {H:Hp} (h1:1≤H.T.n) (hg:∀ i,i<H.T.n→1≤H.T.gn i) (o:Ob) (n:Nat):∀ d,(∀ i,n≤i→i<n+d→(o.fs i).nz=false)→hres H ((List.range (n+d)).map o.fs)=hres H ((List.range n).map o.fs)
 | 0,_=>rfl
 | d+1,h=>by
  have ih:=hres_short h1 hg o n d (fun i a b=>h i a (by omega))
  rw [← Nat.add_assoc,List.range_succ,List.map_append]
  unfold hres at ih ⊢
  rw [List.filter_append,ih]
  have:=ck_no h1 hg (h (n+d) (by omega) (by omega))
  simp [this]
theorem object14_any (x:Rf) (h:R14 w b r H):∃ o:Ob,o.Good∧kids H x=hres H ((List.range o.n.toNat).map o.fs)∧∀ W,Keeps (fun _=>False) w W→Calls Tryz.prog 126 #[.pointer (some ⟨b,0,none⟩),.agg #[.int .i64 x.s,.int .u32 x.g]] W fun e w'=>e = .returned (.tuple #[.agg o.arr,.int .i64 (ckV H.T x.s x.g)])∧Keeps (fun _=>False) W w':=by
 by_cases hc:ckV H.T x.s x.g=0
 ·obtain⟨j,hj,hkn,hst,hgn⟩:=ckV_ok hc
  have hgd:=h.good j
  refine⟨H.ob j,hgd,?_,fun W hk=>?_⟩
  ·unfold kids
   rw [if_pos hc,hj,Int.toNat_natCast,hres_upto h.n1 (fun i hi=>(h.gn i hi).1)]
   have h4:=hgd.n4;have h0:=hgd.n0
   have:=hres_short h.n1 (fun i hi=>(h.gn i hi).1) (H.ob j) (H.ob j).n.toNat (4 - (H.ob j).n.toNat) (fun i a b=>by
    rcases hz:((H.ob j).fs i).nz with _ | _
    ·rfl
    ·have:=(hgd.ok i (by omega) hz).1;omega)
   rw [← this]
   congr 3
   omega
  ·have:=object14_ok j x.g (h.keeps hk (fun h=>h) (fun h=>h)) (by rw [← hj];exact hc)
   rw [hc,hj]
   exact this
 ·refine⟨Ob.new 0 false,Ob.new_good ⟨by decide,by decide,fun h=>by cases h⟩,?_,fun W hk=>object14_bad x.s x.g (h.keeps hk (fun h=>h) (fun h=>h)) hc⟩
  unfold kids
  rw [if_neg hc];rfl
theorem name19 (x:Rf) (h:R14 w b r H):
 Calls Tryz.prog 71 #[.pointer (some ⟨b,0,none⟩),.agg #[.int .i64 x.s,.int .u32 x.g]] w fun e w'=>e = .returned (.int .i64 (ckV H.T x.s x.g))∧Keeps (fun _=>False) w w':=by
 obtain⟨o,_,_,ho⟩:=object14_any x h
 have HO:=hid ho
 obtain⟨E,hE⟩:∃ E,ckV H.T x.s x.g=E:=⟨_,rfl⟩
 rw [hE] at HO ⊢
 clear h ho hE
 simp only [Ob.arr] at HO
 go_enter Tryz.func71,Tryz.ntmps71
 go_wp2_with fail
 refine (HO.out _ ((Keeps.refl _ _).alloc _)).mono ?_
 rintro e w1 ⟨rfl,k1⟩
 have K1:=hid (((Keeps.refl (fun _=>False) w).alloc (.cells #[.int .i64 x.s,.int .u32 x.g] 41)).trans k1)
 clear k1
 go_wp2_with fail
 go_ret
 exact⟨rfl,K1.out.alloc _⟩
theorem children19 (x:Rf) (h:R14 w b r H):
 Calls Tryz.prog 74 #[.pointer (some ⟨b,0,none⟩),.agg #[.int .i64 x.s,.int .u32 x.g]] w fun e w'=>∃ v,e = .returned v∧Row w' w.heap.size v (kids H x)∧Keeps (fun _=>False) w w':=by
 obtain⟨o,hgd,hki,ho⟩:=object14_any x h
 have HO:=hid ho
 have HH:=hid (fun W (hk:Keeps (fun _=>False) w W) (y:Rf)=>has14 y.s y.g (h.keeps hk (fun h=>h) (fun h=>h)))
 obtain⟨E,hE⟩:∃ E,ckV H.T x.s x.g=E:=⟨_,rfl⟩
 rw [hE] at HO
 obtain⟨n,hn⟩:∃ n:Nat,o.n=n:=⟨o.n.toNat,by have:=hgd.n0;omega⟩
 have hn4:n≤4:=by have:=hgd.n4;omega
 rw [hn,Int.toNat_natCast] at hki
 have HKI:=hid hki
 have HRF:=hid (show Rfs o.arr 1 4 o.fs from fun i hi=>by
  have:i=0∨i=1∨i=2∨i=3:=by omega
  rcases this with rfl | rfl | rfl | rfl <;> exact⟨rfl,rfl⟩)
 have HAR:=hid (show o.arr=#[.int .i64 n,.int .i64 o.f0.s,.int .u32 o.f0.g,.int .i64 o.f1.s,.int .u32 o.f1.g,.int .i64 o.f2.s,.int .u32 o.f2.g,.int .i64 o.f3.s,.int .u32 o.f3.g,.bool o.h] by unfold Ob.arr;rw [hn])
 rw [HAR.out] at HO HRF
 clear h ho hE hki hgd hn
 go_enter Tryz.func74,Tryz.ntmps74
 go_wp2_with fail
 refine (HO.out _ ((Keeps.refl _ _).alloc _)).mono ?_
 rintro e w1 ⟨rfl,k1⟩
 have K1:=hid (((Keeps.refl (fun _=>False) w).alloc (.cells #[.int .i64 x.s,.int .u32 x.g] 41)).trans k1)
 clear k1
 go_wp2_with fail
 go_loopw [5,8] (fun s5 ix wr=>∃ (k:Nat) (p:Option Addr) (c:Nat),k≤n∧ix = .int .i64 k∧s5 = .slice p (hres H ((List.range k).map o.fs)).length c∧Hid (Row wr w.heap.size (.slice p (hres H ((List.range k).map o.fs)).length c) (hres H ((List.range k).map o.fs)))∧Hid (wr.heap[w1.heap.size]?=some (.cells #[.int .i64 n,.int .i64 o.f0.s,.int .u32 o.f0.g,.int .i64 o.f1.s,.int .u32 o.f1.g,.int .i64 o.f2.s,.int .u32 o.f2.g,.int .i64 o.f3.s,.int .u32 o.f3.g,.bool o.h] 118))∧Hid (Keeps (fun _=>False) w wr)) (fun _ ix _=>n - (intOf ix).toNat)
 case atStart=>exact⟨0,none,0,Nat.zero_le _,rfl,rfl,hid (Row.nil _ _),hid alloc_new,hid (K1.out.alloc _)⟩
 case round=>
  obtain⟨k,p,c,hk,rfl,rfl,HR,HB,HK⟩:=hrel
  have hk0:(0:Int)≤k:=by omega
  have hbl:=lt_block HB.out
  have n0:=cell_at HB.out (i:=0) rfl
  by_cases hlt:k<n
  ·have hlt':(k:Int)<(n:Int):=by omega
   have hlt4:(k:Int)<4:=by omega
   obtain⟨f0,f1⟩:=HRF.out k (by omega)
   have c0:=cell_at HB.out f0
   have c1:=cell_at HB.out f1
   obtain⟨y,hy⟩:∃ y,o.fs k=y:=⟨_,rfl⟩
   rw [hy] at c0 c1
   have HHS:=hid (HH.out wr HK.out y)
   have hrs:(List.range (k+1)).map o.fs=(List.range k).map o.fs ++ [y]:=by rw [List.range_succ,List.map_append,← hy];rfl
   have HRS:=hid (show hres H ((List.range (k+1)).map o.fs)=hres H ((List.range k).map o.fs) ++ hres H [y] by rw [hrs];unfold hres;rw [List.filter_append])
   have HY:=hid hy
   clear f0 f1 hy hrs
   go_wp2_with fail
   refine HHS.out.mono ?_
   rintro e w2 ⟨rfl,k2⟩
   have hb2:=block_keep HB.out k2 (fun h=>h)
   have HB2:=hid hb2
   have hbl2:=lt_block hb2
   have HK2:=hid (HK.out.trans k2)
   obtain⟨f0,f1⟩:=HRF.out k (by omega)
   rw [HY.out] at f0 f1
   have HR2:=hid (HR.out.keeps k2 (fun _ _ _ _ h=>h))
   clear n0 c0 c1
   have c0:=cell_at hb2 f0
   have c1:=cell_at hb2 f1
   clear k2 hb2 HB HK HR f0 f1
   have hsb:=HK2.out.size
   have hll:(hres H ((List.range k).map o.fs)).length≤4:=by
    unfold hres
    exact Nat.le_trans (List.length_filter_le _ _) (by rw [List.length_map,List.length_range];omega)
   rcases hz:(ckV H.T y.s y.g == 0) with _ | _
   ·have HN:=hid (show hres H ((List.range (k+1)).map o.fs)=hres H ((List.range k).map o.fs) by rw [HRS.out];simp [hres,hz])
    clear hz
    go_wp2_with fail
    exact⟨⟨k+1,p,c,by omega,by go_num,by rw [HN.out],by rw [HN.out];exact HR2,HB2,HK2⟩,by simp [intOf];omega⟩
   ·have HN:=hid (show hres H ((List.range (k+1)).map o.fs)=hres H ((List.range k).map o.fs) ++ [y] by rw [HRS.out];simp [hres,hz])
    have HVD:=hid (HR2.out.keeps ((Keeps.refl (fun _=>False) w2).alloc (.cells #[.int .i64 y.s,.int .u32 y.g] 41)) (fun _ _ _ _ h=>h))
    have HRO:=hid (refs_one (x:=y) (alloc_new (w:=w2) (o:=.cells #[.int .i64 y.s,.int .u32 y.g] 41)))
    have HKA:=hid (HK2.out.alloc (.cells #[.int .i64 y.s,.int .u32 y.g] 41))
    have HBA:=hid (alloc_old (o:=.cells #[.int .i64 y.s,.int .u32 y.g] 41) HB2.out)
    obtain⟨ls,hls⟩:∃ ls,hres H ((List.range k).map o.fs)=ls:=⟨_,rfl⟩
    rw [hls] at HN HVD hll ⊢
    clear hz HR2 HRS hls
    go_wp2_with (first
     | (at_builtin;refine wpList_append_refs _ rfl _ _ rfl w.heap.size _ _ ls [y] rfl rfl HVD.out HRO.out (by rw [List.length_singleton];omega) (by rw [World.size_alloc];omega) ?_;intro v5 w5 hr5 hk5 ho5;obtain⟨p5,c5,rfl⟩:=hr5.refs.slice)
     | fail)
    have hlt5:=HVD.out.lt
    have hown:¬ ((Value.slice p ls.length c).ownBlock=some w1.heap.size):=fun h=>own_ne HVD.out HBA.out (by decide) h
    exact⟨⟨k+1,p5,c5,by omega,by go_num,by rw [HN.out];simp,by rw [HN.out];exact hid hr5,hid (block_keep HBA.out hk5 hown),hid (HKA.out.trans' hk5 (fun _ _ h=>h) (fun y hy hz=>by have:=(hlt5 y hz).1;omega))⟩,by simp [intOf];omega⟩
  ·obtain rfl:k=n:=by omega
   have hlt':¬ (k:Int)<(k:Int):=by omega
   go_wp2_with fail
   go_ret
   exact⟨_,rfl,by rw [HKI.out];exact HR.out,HK.out⟩
end
end Go.Proofs.YtkpnmajocgcccaaGreat
namespace Go.Proofs.YtkpnmajocgcccaaGreat
open Go.RowKit
set_option linter.unusedVariables false
set_option linter.unusedSimpArgs false
section
variable {w w':World} {b r:Nat} {H:Hp}
theorem tk_len14 (h:R14 w b r H):H.T.tk.length≤256:=by
 unfold Tb.tk
 rw [List.length_map]
 exact Nat.le_trans (Tb.inn_len _ _ _) h.n2
theorem filter_take {l:List Rf} {k:Nat} {y:Rf} (hy:l[k]?=some y) (f:Rf→Bool):(l.take (k+1)).filter f=(l.take k).filter f ++ (if f y then [y] else []):=by
 rw [List.take_add_one,hy,List.filter_append]
 congr 1
 cases hf:f y <;> simp [hf]
theorem sorted19 (v:Value) (l:List Rf) (h:R14 w b r H) (hv:Refs w v l) (hn:l.length≤100000):
 Calls Tryz.prog 62 #[.pointer (some ⟨b,0,none⟩),v] w fun e w'=>∃ v',e = .returned v'∧Row w' w.heap.size v' (srtd H.T l)∧Keeps (fun _=>False) w w':=by
 have HA:=hid (all14 h)
 have htk:=tk_len14 h
 have HHA:=hid (fun W (hk:Keeps (fun _=>False) w W) (y:Rf)=>has19 v l y W (hv.keeps hk (fun _ _ h=>h)) hn)
 obtain⟨tk,hT⟩:∃ tk,H.T.tk=tk:=⟨_,rfl⟩
 rw [hT] at HA htk
 have HS:=hid (show srtd H.T l=tk.filter (fun r=>decide (r∈l)) by unfold srtd;rw [hT])
 obtain⟨fs,hfs⟩:∃ fs:Rf→Bool,(fun r=>decide (r∈l))=fs:=⟨_,rfl⟩
 rw [hfs] at HS
 have HF:=hid (fun y=>show decide (y∈l)=fs y by rw [← hfs])
 clear h hT hv hfs
 go_enter Tryz.func62,Tryz.ntmps62
 go_wp2_with fail
 refine HA.out.mono ?_
 rintro e w1 ⟨v6,rfl,hr6,k1⟩
 obtain⟨p6,c6,rfl⟩:=hr6.refs.slice
 have HT:=hid (fun W (hk:Keeps (fun _=>False) w1 W)=>(hr6.refs.keeps hk (fun _ _ h=>h)).cell.2)
 have K1:=hid k1
 clear k1 hr6
 go_wp2_with fail
 go_loopw [5,7] (fun s5 ix wr=>∃ (k:Nat) (p:Option Addr) (c:Nat),k≤tk.length∧ix = .int .i64 k∧s5 = .slice p ((tk.take k).filter fs).length c∧Hid (Row wr w1.heap.size (.slice p ((tk.take k).filter fs).length c) ((tk.take k).filter fs))∧Hid (Keeps (fun _=>False) w1 wr)) (fun _ ix _=>tk.length - (intOf ix).toNat)
 case atStart=>exact⟨0,none,0,Nat.zero_le _,rfl,rfl,hid (Row.nil _ _),hid (Keeps.refl _ _)⟩
 case round=>
  obtain⟨k,p,c,hk,rfl,rfl,HR,HK⟩:=hrel
  have hk0:(0:Int)≤k:=by omega
  by_cases hlt:k<tk.length
  ·have hlt':(k:Int)<(tk.length:Int):=by omega
   obtain⟨y,hy⟩:∃ y,tk[k]?=some y:=⟨_,List.getElem?_eq_getElem hlt⟩
   obtain⟨g,rfl,hgl,c0,c1⟩:=HT.out wr HK.out k y hy
   have HY:=hid hy
   have HHS:=hid (HHA.out wr (K1.out.trans HK.out) y)
   rw [HF.out y] at HHS
   have HN:=hid (filter_take hy fs)
   clear hy
   go_wp2_with fail
   refine HHS.out.mono ?_
   rintro e w2 ⟨rfl,k2⟩
   have HK2:=hid (HK.out.trans k2)
   have HR2:=hid (HR.out.keeps k2 (fun _ _ _ _ h=>h))
   obtain⟨g2,eg,hgl2,c0',c1'⟩:=HT.out w2 HK2.out k y HY.out
   have eg':g2=g:=by injection eg with eg;injection eg with eg;exact eg.symm
   rw [eg'] at hgl2 c0' c1'
   clear eg eg'
   clear k2 HR HK c0 c1
   have hsb:=HK2.out.size
   have hsb1:=K1.out.size
   have hll:((tk.take k).filter fs).length≤256:=Nat.le_trans (List.length_filter_le _ _) (by rw [List.length_take];omega)
   rcases hz:fs y with _ | _
   ·have HN2:=hid (show (tk.take (k+1)).filter fs=(tk.take k).filter fs by rw [HN.out,hz];simp)
    clear hz
    go_wp2_with fail
    exact⟨⟨k+1,p,c,by omega,by go_num,by rw [HN2.out],by rw [HN2.out];exact HR2,HK2⟩,by simp [intOf];omega⟩
   ·have HN2:=hid (show (tk.take (k+1)).filter fs=(tk.take k).filter fs ++ [y] by rw [HN.out,hz];rfl)
    have HVD:=hid (HR2.out.keeps ((Keeps.refl (fun _=>False) w2).alloc (.cells #[.int .i64 y.s,.int .u32 y.g] 41)) (fun _ _ _ _ h=>h))
    have HRO:=hid (refs_one (x:=y) (alloc_new (w:=w2) (o:=.cells #[.int .i64 y.s,.int .u32 y.g] 41)))
    have HKA:=hid (HK2.out.alloc (.cells #[.int .i64 y.s,.int .u32 y.g] 41))
    obtain⟨ls,hls⟩:∃ ls,(tk.take k).filter fs=ls:=⟨_,rfl⟩
    rw [hls] at HN2 HVD hll ⊢
    clear hz HR2 hls HN
    go_wp2_with (first
     | (at_builtin;refine wpList_append_refs _ rfl _ _ rfl w1.heap.size _ _ ls [y] rfl rfl HVD.out HRO.out (by rw [List.length_singleton];omega) (by rw [World.size_alloc];omega) ?_;intro v5 w5 hr5 hk5 ho5;obtain⟨p5,c5,rfl⟩:=hr5.refs.slice)
     | fail)
    have hlt5:=HVD.out.lt
    exact⟨⟨k+1,p5,c5,by omega,by go_num,by rw [HN2.out];simp,by rw [HN2.out];exact hid hr5,hid (HKA.out.trans' hk5 (fun _ _ h=>h) (fun y hy hz=>by have:=(hlt5 y hz).1;omega))⟩,by simp [intOf];omega⟩
  ·obtain rfl:k=tk.length:=by omega
   have hlt':¬ (tk.length:Int)<(tk.length:Int):=by omega
   go_wp2_with fail
   go_ret
   refine⟨_,rfl,?_,K1.out.trans HK.out⟩
   rw [HS.out]
   have:=HR.out.mono K1.out.size
   rw [List.take_length] at this
   exact this
theorem growKs_len:∀ (cs out:List Rf),(growKs out cs).length≤out.length+cs.length
 | [],out=>by simp [growKs]
 | c :: cs,out=>by
  have h:=growKs_len cs (grow1 out c)
  have h1:(grow1 out c).length≤out.length+1:=by unfold grow1;split <;> simp
  show (growKs (grow1 out c) cs).length≤_
  simp only [List.length_cons];omega
theorem growF_len (H:Hp):∀ (m out:List Rf),(growF H out m).length≤out.length+4 * m.length
 | [],out=>by simp [growF]
 | c :: m,out=>by
  have h:=growF_len H m (growKs out (kids H c))
  have h1:=growKs_len (kids H c) out
  have h2:=kids_len H c
  show (growF H (growKs out (kids H c)) m).length≤_
  simp only [List.length_cons];omega
theorem take_snoc {l:List Rf} {k:Nat} {y:Rf} (hy:l[k]?=some y):l.take (k+1)=l.take k ++ [y]:=by rw [List.take_add_one,hy];rfl
theorem grown19 (v:Value) (l:List Rf) (h:R14 w b r H) (hv:Refs w v l) (hn:l.length≤5000):
 Calls Tryz.prog 63 #[.pointer (some ⟨b,0,none⟩),v] w fun e w'=>∃ v',e = .returned v'∧Row w' w.heap.size v' (grow H l)∧Keeps (fun _=>False) w w':=by
 obtain⟨p,c,rfl⟩:=hv.slice
 have HV:=hid (fun W (hk:Keeps (fun _=>False) w W)=>(hv.keeps hk (fun _ _ h=>h)).cell.2)
 have HCH:=hid (fun W (hk:Keeps (fun _=>False) w W) (y:Rf)=>children19 y (h.keeps hk (fun h=>h) (fun h=>h)))
 have HR:=hid (fun o=>(hv.keeps ((Keeps.refl (fun _=>False) w).alloc o) (fun _ _ h=>h)).o)
 have HE:=hid (row_empty (base:=w.heap.size) (alloc_new (w:=w) (o:=.cells #[] 41)) (Nat.le_refl _))
 obtain⟨n,hln⟩:∃ n,l.length=n:=⟨_,rfl⟩
 have HLN:=hid hln
 rw [hln] at HR hn ⊢
 clear h hv hln
 go_enter Tryz.func63,Tryz.ntmps63
 go_wp2_with (first
  | (at_builtin;refine wpList_append_refsO _ rfl _ _ rfl w.heap.size (.slice (some ⟨w.heap.size,0,none⟩) 0 0) (.slice p n c) [] l rfl rfl HE.out (HR.out _) (by rw [HLN.out];simp;omega) (by simp) ?_;intro v5 w5 hr5 hk5 ho5;rw [List.nil_append] at hr5)
  | fail)
 have K5:=hid (show Keeps (fun _=>False) w w5 from Keeps.fresh (((Keeps.refl (fun y=>w.heap.size≤y) w).alloc _).trans' hk5 (fun _ _ h=>h) (fun y _ hy=>by simp [Value.ownBlock] at hy;omega)))
 obtain⟨p5,c5,rfl⟩:=hr5.refs.slice
 have HR5:=hid hr5
 clear hr5 hk5 ho5 HR HE
 go_wp2_with fail
 go_loopw [5,6] (fun s5 ix wr=>∃ (k:Nat) (po:Option Addr) (co:Nat),k≤n∧ix = .int .i64 k∧s5 = .slice po (growF H l (l.take k)).length co∧Hid (Row wr w.heap.size (.slice po (growF H l (l.take k)).length co) (growF H l (l.take k)))∧Hid (Keeps (fun _=>False) w wr)) (fun _ ix _=>n - (intOf ix).toNat)
 case atStart=>exact⟨0,p5,c5,Nat.zero_le _,rfl,rfl,HR5,K5⟩
 case round=>
  obtain⟨k,po,co,hk,rfl,rfl,HR,HK⟩:=hrel
  have hk0:(0:Int)≤k:=by omega
  by_cases hlt:k<n
  ·have hlt':(k:Int)<(n:Int):=by omega
   obtain⟨y,hy⟩:∃ y,l[k]?=some y:=⟨_,List.getElem?_eq_getElem (by rw [HLN.out];exact hlt)⟩
   obtain⟨g,rfl,hgl,c0,c1⟩:=HV.out wr HK.out k y hy
   have HY:=hid (take_snoc hy)
   have hlo:=growF_len H (l.take k) l
   rw [HLN.out,List.length_take,HLN.out] at hlo
   have hlo':(growF H l (l.take k)).length≤25000:=by omega
   obtain⟨out,hout⟩:∃ out,growF H l (l.take k)=out:=⟨_,rfl⟩
   have HN:=hid (show growF H l (l.take (k+1))=growKs out (kids H y) by rw [HY.out,growF_snoc,hout])
   rw [hout] at HR hlo' ⊢
   have hkl:=kids_len H y
   have HC:=hid (HCH.out wr HK.out y)
   obtain⟨ks,hks⟩:∃ ks,kids H y=ks:=⟨_,rfl⟩
   rw [hks] at HC HN hkl
   clear hy hlo hout hks HY
   go_wp2_with fail
   refine HC.out.mono ?_
   rintro e w2 ⟨v7,rfl,hr7,k2⟩
   obtain⟨p7,c7,rfl⟩:=hr7.refs.slice
   have HK2:=hid (HK.out.trans k2)
   have HRo:=hid (HR.out.keeps k2 (fun _ _ _ _ h=>h))
   have HR7:=hid hr7.refs
   have HNE:=hid (show ∀ z,(Value.slice po out.length co).ownBlock=some z→(Value.slice p7 ks.length c7).ownBlock≠some z from fun z h1 h2=>by have:=(HR.out.lt z h1).2;have:=(hr7.lt z h2).1;omega)
   clear hr7 k2 HR c0 c1
   go_wp2_with fail
   go_loopw [5,8] (fun s5 ix wr=>∃ (j:Nat) (po:Option Addr) (co:Nat),j≤ks.length∧ix = .int .i64 j∧s5 = .slice po (growKs out (ks.take j)).length co∧Hid (Row wr w.heap.size (.slice po (growKs out (ks.take j)).length co) (growKs out (ks.take j)))∧Hid (Keeps (fun _=>False) w wr)∧Hid (Refs wr (.slice p7 ks.length c7) ks)∧Hid (∀ z,(Value.slice po (growKs out (ks.take j)).length co).ownBlock=some z→(Value.slice p7 ks.length c7).ownBlock≠some z)) (fun _ ix _=>ks.length - (intOf ix).toNat)
   case atStart=>exact⟨0,po,co,Nat.zero_le _,rfl,rfl,HRo,HK2,HR7,HNE⟩
   case round=>
    obtain⟨j,pi,ci,hj,rfl,rfl,HRi,HKi,HR7i,HNi⟩:=hrel
    have hj0:(0:Int)≤j:=by omega
    by_cases hlj:j<ks.length
    ·have hlj':(j:Int)<(ks.length:Int):=by omega
     obtain⟨u,hu⟩:∃ u,ks[j]?=some u:=⟨_,List.getElem?_eq_getElem hlj⟩
     obtain⟨g7,rfl,hg7,d0,d1⟩:=HR7i.out.cell.2 j u hu
     have hlo2:=growKs_len (ks.take j) out
     rw [List.length_take] at hlo2
     have hlo2':(growKs out (ks.take j)).length≤25004:=by omega
     obtain⟨oj,hoj⟩:∃ oj,growKs out (ks.take j)=oj:=⟨_,rfl⟩
     have HNj:=hid (show growKs out (ks.take (j+1))=grow1 oj u by rw [take_snoc hu,growKs_snoc,hoj])
     rw [hoj] at HRi HNi hlo2' ⊢
     have HHS:=hid (has19 _ oj u _ HRi.out.refs (by omega))
     have HU:=hid hu
     clear hu hlo2 hoj
     go_wp2_with fail
     refine HHS.out.mono ?_
     rintro e w3 ⟨rfl,k3⟩
     have HR7j:=hid (HR7i.out.keeps k3 (fun _ _ h=>h))
     obtain⟨g2,eg,hgl2,c0',c1'⟩:=HR7j.out.cell.2 j u HU.out
     have eg':g2=g7:=by injection eg with eg;injection eg with eg;exact eg.symm
     rw [eg'] at hgl2 c0' c1'
     have HRj:=hid (HRi.out.keeps k3 (fun _ _ _ _ h=>h))
     have HKj:=hid (HKi.out.trans k3)
     have hsb:=HKj.out.size
     clear eg eg' k3 HRi HKi HR7i d0 d1 hg7
     by_cases hz:u∈oj
     ·rw [decide_eq_true hz]
      have HN2:=hid (show growKs out (ks.take (j+1))=oj by rw [HNj.out];unfold grow1;rw [if_pos hz])
      clear hz
      go_wp2_with fail
      exact⟨⟨j+1,pi,ci,by omega,by go_num,by rw [HN2.out],by rw [HN2.out];exact HRj,HKj,HR7j,by rw [HN2.out];exact HNi⟩,by simp [intOf];omega⟩
     ·rw [decide_eq_false hz]
      have HN2:=hid (show growKs out (ks.take (j+1))=oj ++ [u] by rw [HNj.out];unfold grow1;rw [if_neg hz])
      have ka:Keeps (fun _=>False) w3 (w3.alloc (.cells #[.int .i64 u.s,.int .u32 u.g] 41)):=(Keeps.refl _ _).alloc _
      have HVD:=hid (HRj.out.keeps ka (fun _ _ _ _ h=>h))
      have HRO:=hid (refs_one (x:=u) (alloc_new (w:=w3) (o:=.cells #[.int .i64 u.s,.int .u32 u.g] 41)))
      have HKA:=hid (HKj.out.trans ka)
      have HR7a:=hid (HR7j.out.keeps ka (fun _ _ h=>h))
      clear hz ka
      go_wp2_with (first
       | (at_builtin;refine wpList_append_refs _ rfl _ _ rfl w.heap.size _ _ oj [u] rfl rfl HVD.out HRO.out (by rw [List.length_singleton];omega) (by rw [World.size_alloc];omega) ?_;intro v5 w5 hr5 hk5 ho5;obtain⟨p5,c5,rfl⟩:=hr5.refs.slice)
       | fail)
      have hlt5:=HVD.out.lt
      refine⟨⟨j+1,p5,c5,by omega,by go_num,by rw [HN2.out];simp,by rw [HN2.out];exact hid hr5,hid (HKA.out.trans' hk5 (fun _ _ h=>h) (fun y hy hz=>by have:=(hlt5 y hz).1;omega)),hid (HR7a.out.keeps hk5 (fun z h1 h2=>HNi.out z h2 h1)),hid (fun z h1 h2=>?_)⟩,by simp [intOf];omega⟩
      rw [HN2.out] at h1
      rcases ho5 with ho5 | ho5
      ·exact HNi.out z (ho5.symm.trans h1) h2
      ·rw [ho5] at h1
       have:=Option.some.inj h1
       have h3:some g7=some z:=h2
       have:=Option.some.inj h3
       simp only [World.size_alloc] at *
       omega
    ·obtain rfl:j=ks.length:=by omega
     have hlj':¬ (ks.length:Int)<(ks.length:Int):=by omega
     go_wp2_with fail
     have htk:ks.take ks.length=ks:=List.take_length
     have HRj:=HRi.out
     rw [htk] at HRj
     refine⟨⟨k+1,pi,ci,by omega,by go_num,by rw [HN.out,htk],by rw [HN.out];exact hid HRj,HKi⟩,by simp [intOf];omega⟩
  ·obtain rfl:k=n:=by omega
   have hlt':¬ (k:Int)<(k:Int):=by omega
   go_wp2_with fail
   go_ret
   refine⟨_,rfl,?_,HK.out⟩
   have htk:l.take k=l:=List.take_of_length_le (by rw [HLN.out];omega)
   have:=HR.out
   show Row _ _ (.slice po (growF H l (l.take k)).length co) (growF H l l)
   rw [htk] at this ⊢
   exact this
def sliceLen:Value→Nat
 | .slice _ n _=>n
 | _=>0
theorem reached19 (v:Value) (l:List Rf) (h:R14 w b r H) (hv:Refs w v l) (hl:∀ r∈l,There H r) (hn:l.length≤4700):
 Calls Tryz.prog 59 #[.pointer (some ⟨b,0,none⟩),v] w fun e w'=>∃ v',e = .returned v'∧Row w' w.heap.size v' (srt (explQ H l).keys)∧Keeps (fun _=>False) w w':=by
 obtain⟨p,c,rfl⟩:=hv.slice
 have HGR:=hid (fun W v l' (hk:Keeps (fun _=>False) w W) (hr:Refs W v l') (hn:l'.length≤5000)=>grown19 v l' (h.keeps hk (fun h=>h) (fun h=>h)) hr hn)
 have HSO:=hid (fun W v l' (hk:Keeps (fun _=>False) w W) (hr:Refs W v l') (hn:l'.length≤5000)=>sorted19 v l' (h.keeps hk (fun h=>h) (fun h=>h)) hr (by omega))
 have hn2:=h.n2
 have HLE:=hid (fun l' (hg:Gr H l l')=>Gr.len hg hl)
 have HIS:=hid (fun l' (hg:Gr H l l') (he:(grow H l').length=l'.length)=>hg.is hl he)
 have HV:=hid hv
 obtain⟨M,hM⟩:∃ M,l.length+H.T.n=M:=⟨_,rfl⟩
 rw [hM] at HLE
 have hM2:M≤5000:=by omega
 clear h hv hl hn hM hn2
 go_enter Tryz.func59,Tryz.ntmps59
 go_wp2_with fail
 go_loopw [1] (fun s1 wr=>∃ (l':List Rf) (p:Option Addr) (c:Nat),s1 = .slice p l'.length c∧Hid (Refs wr (.slice p l'.length c) l')∧Hid (Gr H l l')∧Hid (Keeps (fun _=>False) w wr)) (fun s1 _=>M - sliceLen s1)
 case atStart=>exact⟨l,p,c,rfl,HV,hid (Gr.refl _ _),hid (Keeps.refl _ _)⟩
 case round=>
  obtain⟨l',p',c',rfl,HR,HG,HK⟩:=hrel
  have hle:=HLE.out _ HG.out
  have HC:=hid (HGR.out wr _ l' HK.out HR.out (by omega))
  go_wp2_with fail
  refine HC.out.mono ?_
  rintro e w1 ⟨v5,rfl,hr5,k1⟩
  obtain⟨p5,c5,rfl⟩:=hr5.refs.slice
  have HK1:=hid (HK.out.trans k1)
  have HR1:=hid (HR.out.keeps k1 (fun _ _ h=>h))
  have HR5:=hid hr5.refs
  have hg5:=HG.out.gr
  have hle5:=HLE.out _ hg5
  have hge:=grow_len_le H l'
  have HG5:=hid hg5
  have HIS1:=hid (HIS.out l' HG.out)
  obtain⟨l5,hl5⟩:∃ l5,grow H l'=l5:=⟨_,rfl⟩
  rw [hl5] at HR5 HG5 hle5 hge HIS1 ⊢
  clear k1 hr5 HC hg5 hl5 HR HK
  by_cases hz:l5.length=l'.length
  ·have HI:=hid (HIS1.out hz)
   have HS:=hid (HSO.out w1 _ l' HK1.out HR1.out (by omega))
   rw [HI.out] at HS
   have hzz:(l5.length:Int)=(l'.length:Int):=by omega
   go_wp2_with fail
   refine HS.out.mono ?_
   rintro e w2 ⟨v7,rfl,hr7,k2⟩
   have HR7:=hid (hr7.mono HK1.out.size)
   have HK2:=hid (HK1.out.trans k2)
   clear hr7 k2
   go_wp2_with fail
   go_ret
   exact⟨_,rfl,HR7.out,HK2.out⟩
  ·have hzz:¬ (l5.length:Int)=(l'.length:Int):=by omega
   go_wp2_with fail
   refine⟨⟨l5,p5,c5,rfl,HR5,HG5,HK1⟩,?_⟩
   simp [sliceLen];omega
end
end Go.Proofs.YtkpnmajocgcccaaGreat
namespace Go.Proofs.YtkpnmajocgcccaaGreat
open Go.RowKit
set_option linter.unusedVariables false
set_option linter.unusedSimpArgs false
section
variable {w w':World} {b r:Nat} {H:Hp}
theorem filter_nz {l:List Rf} {k:Nat} {y:Rf} (hy:l[k]?=some y):(l.take (k+1)).filter (·.nz)=(l.take k).filter (·.nz) ++ (if y.nz then [y] else []):=filter_take hy _
theorem drop_at {l:List Rf} {k:Nat} {y:Rf} (hy:l[k]?=some y):l.drop k=y :: l.drop (k+1):=by
 obtain⟨_,h⟩:=List.getElem?_eq_some_iff.1 hy
 rw [← h,List.getElem_cons_drop]
def RefsI (w:World) (v:Value) (l:List Rf):Prop:=∃ a cap,v = .slice a l.length cap∧∀ (j:Nat) (r:Rf),l[j]?=some r→∃ g o,a=some ⟨g,o,none⟩∧g<w.heap.size∧w.cell? ⟨g,o+j * 2,none⟩=some (.int .i64 r.s)∧w.cell? ⟨g,o+j * 2+1,none⟩=some (.int .u32 r.g)
theorem RefsI.keeps {v:Value} {l:List Rf} (h:RefsI w v l) (hk:Keeps (fun _=>False) w w'):RefsI w' v l:=by
 obtain⟨a,cap,e,hc⟩:=h
 refine⟨a,cap,e,fun j r hj=>?_⟩
 obtain⟨g,o,e,hl,h1,h2⟩:=hc j r hj
 have hb:=hk.block g hl (fun h=>h)
 exact⟨g,o,e,Nat.lt_of_lt_of_le hl hk.size,by rw [World.cell?_of_block hb];exact h1,by rw [World.cell?_of_block hb];exact h2⟩
theorem RefsI.at {p:Option Addr} {c:Nat} {l:List Rf} (h:RefsI w (.slice p l.length c) l):∀ (j:Nat) (r:Rf),l[j]?=some r→∃ g o,p=some ⟨g,o,none⟩∧g<w.heap.size∧w.cell? ⟨g,o+j * 2,none⟩=some (.int .i64 r.s)∧w.cell? ⟨g,o+j * 2+1,none⟩=some (.int .u32 r.g):=by
 obtain⟨a,cap,e,hc⟩:=h
 cases e
 exact hc
theorem Refs.i {v:Value} {l:List Rf} (h:Refs w v l):RefsI w v l:=by
 obtain⟨p,c,rfl⟩:=h.slice
 refine⟨p,c,rfl,fun j r hj=>?_⟩
 obtain⟨g,e,hl,h1,h2⟩:=h.cell.2 j r hj
 exact⟨g,0,e,hl,by rw [Nat.zero_add];exact h1,by rw [Nat.zero_add];exact h2⟩
theorem check19 (v:Value) (l:List Rf) (h:R14 w b r H) (hv:RefsI w v l) (hn:l.length≤4096):
 Calls Tryz.prog 58 #[.pointer (some ⟨b,0,none⟩),v] w fun e w'=>∃ v',e = .returned (.tuple #[v',.int .i64 (thrE H l)])∧(thrE H l=0→Row w' w.heap.size v' (l.filter (·.nz)))∧(thrE H l≠0→v' = .slice none 0 0)∧Keeps (fun _=>False) w w':=by
 obtain⟨p,c,rfl⟩:∃ p c,v = .slice p l.length c:=⟨_,_,hv.choose_spec.choose_spec.1⟩
 have HV:=hid (fun W (hk:Keeps (fun _=>False) w W)=>(hv.keeps hk).at)
 have HNA:=hid (fun W (hk:Keeps (fun _=>False) w W) (y:Rf)=>name19 y (h.keeps hk (fun h=>h) (fun h=>h)))
 have HCP:=hid (copy14 h)
 clear h hv
 obtain⟨E,hE⟩:∃ E,thrE H l=E:=⟨_,rfl⟩
 have HE:=hid hE
 rw [hE]
 clear hE
 go_enter Tryz.func58,Tryz.ntmps58
 go_wp2_with fail
 refine HCP.out.mono ?_
 rintro e w1 ⟨b',r',rfl,k1,_,_,_⟩
 have K1:=hid k1
 clear k1
 go_wp2_with fail
 go_loopw [6,7] (fun s6 ix wr=>∃ (k:Nat) (p6:Option Addr) (c6:Nat),k≤l.length∧ix = .int .i64 k∧s6 = .slice p6 ((l.take k).filter (·.nz)).length c6∧Hid (Row wr w.heap.size (.slice p6 ((l.take k).filter (·.nz)).length c6) ((l.take k).filter (·.nz)))∧Hid (thrE H (l.drop k)=E)∧Hid (Keeps (fun _=>False) w wr)) (fun _ ix _=>l.length - (intOf ix).toNat)
 case atStart=>exact⟨0,none,0,Nat.zero_le _,rfl,rfl,hid (Row.nil _ _),HE,K1⟩
 case round=>
  obtain⟨k,p6,c6,hk,rfl,rfl,HR,HT,HK⟩:=hrel
  have hk0:(0:Int)≤k:=by omega
  by_cases hlt:k<l.length
  ·obtain⟨x,hx⟩:∃ x,l[k]?=some x:=⟨_,List.getElem?_eq_getElem hlt⟩
   obtain⟨g,o,rfl,hgl,c0,c1⟩:=HV.out wr HK.out k x hx
   have hlt':(k:Int)<(l.length:Int):=by omega
   have hql:=fun W=>eql_no x W
   have HTK:=hid (filter_nz hx)
   have HX:=hid hx
   have HT0:=HT.out
   rw [drop_at hx] at HT0
   unfold thrE at HT0
   have HT1:=hid HT0
   clear hx HT HT0
   rcases hz:x.nz with _ | _
   ·have HF:=hid (show (l.take (k+1)).filter (·.nz)=(l.take k).filter (·.nz) by rw [HTK.out,hz];simp)
    have HT2:=hid (show thrE H (l.drop (k+1))=E by have:=HT1.out;rw [if_pos hz] at this;exact this)
    rw [hz] at hql
    clear hz HT1 HTK
    go_wp2_with fail
    exact⟨⟨k+1,p6,c6,by omega,by go_num,by rw [HF.out],by rw [HF.out];exact HR,HT2,HK⟩,by simp [intOf];omega⟩
   ·have HF:=hid (show (l.take (k+1)).filter (·.nz)=(l.take k).filter (·.nz) ++ [x] by rw [HTK.out,hz];rfl)
    have HO:=hid (HNA.out wr HK.out x)
    obtain⟨ec,hec⟩:∃ ec,ckV H.T x.s x.g=ec:=⟨_,rfl⟩
    have HT2:=HT1.out
    rw [if_neg (by rw [hz];decide),hec] at HT2
    rw [hec] at HO
    rw [hz] at hql
    by_cases he0:ec=0
    ·subst he0
     rw [if_pos rfl] at HT2
     have HT3:=hid HT2
     have hnl:((l.take k).filter (·.nz)).length≤4096:=Nat.le_trans (List.length_filter_le _ _) (by rw [List.length_take];omega)
     clear hec HT1 HT2 hz HTK
     go_wp2_with fail
     refine HO.out.mono ?_
     rintro e w2 ⟨rfl,k2⟩
     have HK2:=hid (HK.out.trans k2)
     obtain⟨g2,o2,eg,hgl2,c0',c1'⟩:=HV.out w2 HK2.out k x HX.out
     have eg':g2=g:=by injection eg with eg;injection eg with eg;exact eg.symm
     have eo':o2=o:=by injection eg with eg;injection eg with _ eg;exact eg.symm
     rw [eg'] at hgl2 c0' c1'
     rw [eo'] at c0' c1'
     clear eo'
     have ka:Keeps (fun _=>False) w2 (w2.alloc (.cells #[.int .i64 x.s,.int .u32 x.g] 41)):=(Keeps.refl _ _).alloc _
     have HVD:=hid ((HR.out.keeps k2 (fun _ _ _ _ h=>h)).keeps ka (fun _ _ _ _ h=>h))
     have HRO:=hid (refs_one (x:=x) (alloc_new (w:=w2) (o:=.cells #[.int .i64 x.s,.int .u32 x.g] 41)))
     have HKA:=hid (HK2.out.trans ka)
     have hsb:=HK2.out.size
     clear eg eg' k2 ka c0 c1
     obtain⟨ls,hls⟩:∃ ls,(l.take k).filter (·.nz)=ls:=⟨_,rfl⟩
     rw [hls] at HF HVD hnl ⊢
     clear hls HR
     go_wp2_with (first
      | (at_builtin;refine wpList_append_refs _ rfl _ _ rfl w.heap.size _ _ ls [x] rfl rfl HVD.out HRO.out (by rw [List.length_singleton];omega) (by rw [World.size_alloc];omega) ?_;intro v5 w5 hr5 hk5 ho5;obtain⟨p5,c5,rfl⟩:=hr5.refs.slice)
      | fail)
     have hlt5:=HVD.out.lt
     exact⟨⟨k+1,p5,c5,by omega,by go_num,by rw [HF.out];simp,by rw [HF.out];exact hid hr5,HT3,hid (HKA.out.trans' hk5 (fun _ _ h=>h) (fun y hy hz=>by have:=(hlt5 y hz).1;omega))⟩,by simp [intOf];omega⟩
    ·rw [if_neg he0] at HT2
     subst HT2
     have hne:(ec != 0)=true:=by simpa using he0
     have HEC:=hid he0
     clear hec HT1 hz HTK he0
     go_wp2_with fail
     refine HO.out.mono ?_
     rintro e w2 ⟨rfl,k2⟩
     have HK2:=hid (HK.out.trans k2)
     clear k2
     go_wp2_with fail
     go_ret2
     exact⟨_,rfl,fun h=>absurd h HEC.out,fun _=>rfl,HK2.out⟩
  ·obtain rfl:k=l.length:=by omega
   have hlt':¬ (l.length:Int)<(l.length:Int):=by omega
   have hE0:E=0:=by
    have:=HT.out
    rw [List.drop_length] at this
    exact this.symm
   subst hE0
   have HR2:=hid HR.out
   rw [List.take_length] at HR2
   go_wp2_with fail
   go_ret2
   exact⟨_,rfl,HR2.out,HK.out⟩
theorem from19 (v:Value) (l:List Rf) (h:R14 w b r H) (hv:RefsI w v l) (hn:l.length≤4096):
 Calls Tryz.prog 13 #[.pointer (some ⟨b,0,none⟩),v] w fun e w'=>∃ v',e = .returned (.tuple #[v',.int .i64 (thrE H l)])∧Row w' w.heap.size v' (fromL H l)∧Keeps (fun _=>False) w w':=by
 have HC:=hid (check19 v l h hv hn)
 have HRE:=hid (fun W v l' (hk:Keeps (fun _=>False) w W) (hr:Refs W v l') (hl:∀ r∈l',There H r) (hn:l'.length≤4700)=>reached19 v l' (h.keeps hk (fun h=>h) (fun h=>h)) hr hl hn)
 have HTH:=hid (fun (he:thrE H l=0)=>thrE_zero he)
 have HFL:=hid (show fromL H l=if thrE H l=0 then srt (explQ H (l.filter (·.nz))).keys else [] from rfl)
 have hfn:(l.filter (·.nz)).length≤4096:=Nat.le_trans (List.length_filter_le _ _) hn
 obtain⟨E,hE⟩:∃ E,thrE H l=E:=⟨_,rfl⟩
 rw [hE] at HC HTH HFL ⊢
 rw [HFL.out]
 clear h hv hE
 by_cases h0:E=0
 ·subst h0
  rw [if_pos rfl]
  have HTT:=hid (HTH.out rfl)
  clear HTH HFL
  go_enter Tryz.func13,Tryz.ntmps13
  go_wp2_with fail
  refine HC.out.mono ?_
  rintro e w1 ⟨v1,rfl,hr1,_,k1⟩
  have HR1:=hid (hr1 trivial)
  have K1:=hid k1
  have HRR:=hid (HRE.out w1 v1 _ k1 (hr1 trivial).refs HTT.out (by omega))
  clear k1 hr1
  go_wp2_with fail
  refine HRR.out.mono ?_
  rintro e w2 ⟨v2,rfl,hr2,k2⟩
  have HR2:=hid (hr2.mono K1.out.size)
  have K2:=hid (K1.out.trans k2)
  clear k2 hr2
  go_wp2_with fail
  go_ret2
  exact⟨_,rfl,HR2.out,K2.out⟩
 ·rw [if_neg h0]
  have hne:(E != 0)=true:=by simpa using h0
  have HE0:=hid h0
  clear h0 HTH HFL
  go_enter Tryz.func13,Tryz.ntmps13
  go_wp2_with fail
  refine HC.out.mono ?_
  rintro e w1 ⟨v1,rfl,_,hr1,k1⟩
  have K1:=hid k1
  obtain rfl:=hr1 HE0.out
  clear k1 hr1
  go_wp2_with fail
  go_ret2
  exact⟨_,rfl,Row.nil _ _,K1.out⟩
theorem closed19 (v:Value) (l:List Rf) (h:R14 w b r H) (hv:RefsI w v l) (hn:l.length≤4096):
 Calls Tryz.prog 15 #[.pointer (some ⟨b,0,none⟩),v] w fun e w'=>e = .returned (.tuple #[.bool (thrE H l == 0 && closB H (l.filter (·.nz))),.int .i64 (thrE H l)])∧Keeps (fun _=>False) w w':=by
 have HC:=hid (check19 v l h hv hn)
 have HGR:=hid (fun W v l' (hk:Keeps (fun _=>False) w W) (hr:Refs W v l') (hn:l'.length≤5000)=>grown19 v l' (h.keeps hk (fun h=>h) (fun h=>h)) hr hn)
 have HSO:=hid (fun W v l' (hk:Keeps (fun _=>False) w W) (hr:Refs W v l') (hn:l'.length≤100000)=>sorted19 v l' (h.keeps hk (fun h=>h) (fun h=>h)) hr hn)
 have HTH:=hid (fun (he:thrE H l=0)=>clos_is (thrE_zero he))
 have hfn:(l.filter (·.nz)).length≤4096:=Nat.le_trans (List.length_filter_le _ _) hn
 obtain⟨E,hE⟩:∃ E,thrE H l=E:=⟨_,rfl⟩
 rw [hE] at HC HTH ⊢
 obtain⟨lf,hlf⟩:∃ lf,l.filter (·.nz)=lf:=⟨_,rfl⟩
 rw [hlf] at HC HTH hfn ⊢
 clear h hv hE hlf
 by_cases h0:E=0
 ·subst h0
  have HTT:=hid (HTH.out rfl)
  have hgl:=growF_len H lf lf
  rw [show ((0:Int) == 0 && closB H lf)=closB H lf by simp]
  clear HTH
  go_enter Tryz.func15,Tryz.ntmps15
  go_wp2_with fail
  refine HC.out.mono ?_
  rintro e w1 ⟨v1,rfl,hr1,_,k1⟩
  have HR1:=hid (hr1 trivial)
  have K1:=hid k1
  have HRR:=hid (HGR.out w1 v1 _ k1 (hr1 trivial).refs (by omega))
  clear k1 hr1
  go_wp2_with fail
  refine HRR.out.mono ?_
  rintro e w2 ⟨v2,rfl,hr2,k2⟩
  have K2:=hid (K1.out.trans k2)
  have HS2:=hid (HSO.out w2 v2 _ (K1.out.trans k2) hr2.refs (by unfold grow;omega))
  have HR12:=hid (HR1.out.refs.keeps k2 (fun _ _ h=>h))
  clear k2 hr2
  go_wp2_with fail
  refine HS2.out.mono ?_
  rintro e w3 ⟨v3,rfl,hr3,k3⟩
  have K3:=hid (K2.out.trans k3)
  have HS3:=hid (HSO.out w3 v1 lf (K2.out.trans k3) (HR12.out.keeps k3 (fun _ _ h=>h)) (by omega))
  obtain⟨p3,c3,rfl⟩:=hr3.refs.slice
  clear k3 hr3
  go_wp2_with fail
  refine HS3.out.mono ?_
  rintro e w4 ⟨v4,rfl,hr4,k4⟩
  have K4:=hid (K3.out.trans k4)
  obtain⟨p4,c4,rfl⟩:=hr4.refs.slice
  clear k4 hr4
  go_wp2_with fail
  have he:(((srtd H.T (grow H lf)).length:Int) == ((srtd H.T lf).length:Int))=closB H lf:=by
   rw [← HTT.out]
   by_cases e:(srtd H.T (grow H lf)).length=(srtd H.T lf).length
   ·rw [e];simp
   ·have e':¬ ((srtd H.T (grow H lf)).length:Int)=((srtd H.T lf).length:Int):=by omega
    rw [beq_eq_false_iff_ne.2 e,beq_eq_false_iff_ne.2 e']
  rw [he]
  refine bodyPost_ret_by (v:=.tuple #[.bool (closB H lf),.int .i64 0]) (by simp [results,Tryz.results15,go_sem, *]) rfl ⟨rfl,K4.out⟩
 ·have hne:(E != 0)=true:=by simpa using h0
  have HE0:=hid h0
  have hbe:(E == 0)=false:=by simpa using h0
  clear h0 HTH
  rw [hbe]
  go_enter Tryz.func15,Tryz.ntmps15
  go_wp2_with fail
  refine HC.out.mono ?_
  rintro e w1 ⟨v1,rfl,_,hr1,k1⟩
  have K1:=hid k1
  obtain rfl:=hr1 HE0.out
  clear k1 hr1
  go_wp2_with fail
  go_ret2
  exact⟨by simp,K1.out⟩
end
end Go.Proofs.YtkpnmajocgcccaaGreat
