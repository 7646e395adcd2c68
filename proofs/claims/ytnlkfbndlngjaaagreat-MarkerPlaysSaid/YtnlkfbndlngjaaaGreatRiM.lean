import Derived.Test.YtnlkfbndlngjaaaGreatRiF
set_option maxHeartbeats 2000000
set_option maxRecDepth 100000
namespace Go.Proofs.YtnlkfbndlngjaaaGreat
open Go.RowKit
attribute [local go_sem] Oper.semAt_some
set_option linter.unusedVariables false
set_option linter.unusedSimpArgs false
section
variable {w w':World} {m q x:Nat} {L:L24} {M:Mk} {H:Hp}
theorem R24.apart (h:R24 w m L M q) {z:Nat} {cs:Array Value} {t:TypeId} (hz:w.heap[z]?=some (.cells cs t)) (h1:t≠3) (h2:t≠209):¬ (z=L.ps∨z=L.st):=by
 obtain⟨curp,rp,_,_⟩:=h.pt.row
 exact fun e=>e.elim (fun e=>type_ne hz rp h1 e) (fun e=>type_ne hz h.st.own h2 e)
theorem R24.k0 (h:R24 w m L M q) (hk:Keeps (fun _=>False) w w'):R24 w' m L M q:=by
 obtain⟨⟨cap,o⟩,⟨cur,r,hr⟩,hc,hp,hs,hb,hi,a1,a2,a3⟩:=h
 exact⟨⟨cap,block_keep o hk (fun h=>h)⟩,⟨cur,block_keep r hk (fun h=>h),hr⟩,hc.k0 hk,hp.keeps hk (fun h=>h) (fun h=>h),hs.keeps hk (fun h=>h) (fun _ _ h=>h),fun j hj=>⟨(hb j hj).1.keeps hk (fun h=>h) (fun _ _ h=>h),(hb j hj).2⟩,hi,a1,a2,a3⟩
theorem Mk.shade24_snoc (M:Mk) (l:List Int) (s:Int):M.shade (l ++ [s])={ M.shade l with P:=(shd (M.shade l).P (M.shade l).S s.toNat).1,S:=(shd (M.shade l).P (M.shade l).S s.toNat).2 }:=by
 unfold Mk.shade
 rw [shds_snoc]
theorem Mk.shade24_n (M:Mk) (l:List Int):(M.shade l).P.n=M.P.n:=shds_n _ _
theorem there24 (v:Value) (l:List Rf) (h:R24 w m L M q) (hv:Refs w v l) (hl:l.length≤5000) (hn:H.T.n=M.P.n)
 (hH:Calls Tryz.prog 217 #[.pointer (some ⟨x,0,none⟩)] w fun e w1=>∃ b r,e = .returned (.pointer (some ⟨b,0,none⟩))∧Keeps (fun _=>False) w w1∧R14 w1 b r H)
 (hHas:∀ W b r,R14 W b r H→∀ y:Rf,Calls Tryz.prog 218 #[.pointer (some ⟨b,0,none⟩),.agg #[.int .i64 y.s,.int .u32 y.g]] W fun e w'=>e = .returned (.bool (ckV H.T y.s y.g == 0))∧Keeps (fun _=>False) W w')
 :
 Calls Tryz.prog 138 #[.pointer (some ⟨m,0,none⟩),.pointer (some ⟨x,0,none⟩),v] w fun e w'=>e = .returned (.tuple #[])∧Keeps (fun y=>y=L.ps∨y=L.st) w w'∧∃ sv,R24 w' m { L with sv:=sv } (M.shade ((hres H l).map (·.s))) q:=by
 obtain⟨p,c,rfl⟩:=hv.slice
 have HH:=hid hH;have HAS:=hid hHas
 have H24:=hid h;have HV:=hid hv
 obtain⟨n,hln⟩:∃ n,l.length=n:=⟨_,rfl⟩
 rw [hln] at HV hl ⊢
 have HLN:=hid hln;have HN:=hid hn
 clear h hv hH hHas hln hn
 go_enter Tryz.func138,Tryz.ntmps138
 go_wp2_with fail
 refine HH.out.mono ?_
 rintro e w1 ⟨b,r,rfl,k1,h14⟩
 have HR14:=hid h14
 have HR24:=hid (H24.out.k0 k1)
 have HV1:=hid (HV.out.keeps k1 (fun _ _ h=>h))
 have HK1:=hid (k1.up (T:=fun y=>y=L.ps∨y=L.st))
 clear k1 h14
 go_wp2_with fail
 go_loopw [7] (fun ix wr=>∃ (k:Nat) (sv:Value),k≤n∧ix = .int .i64 k∧Hid (R24 wr m { L with sv:=sv } (M.shade ((hres H (l.take k)).map (·.s))) q)∧Hid (R14 wr b r H)∧Hid (Refs wr (.slice p n c) l)∧Hid (Keeps (fun y=>y=L.ps∨y=L.st) w wr)) (fun ix _=>n - (intOf ix).toNat)
 case atStart=>exact⟨0,L.sv,Nat.zero_le _,rfl,HR24,HR14,HV1,HK1⟩
 case round=>
  clear HR24 HR14 HV1 HK1
  obtain⟨k,sv,hk,rfl,HR24,HR14,HV,HK⟩:=hrel
  have hk0:(0:Int)≤k:=by omega
  by_cases hlt:k<n
  ·have hlt':(k:Int)<(n:Int):=by omega
   obtain⟨y,hy⟩:∃ y,l[k]?=some y:=⟨_,List.getElem?_eq_getElem (by rw [HLN.out];exact hlt)⟩
   obtain⟨g,rfl,hgl,c0,c1⟩:=HV.out.cell.2 k y hy
   have HC:=hid (HAS.out _ _ _ HR14.out y)
   obtain⟨B,hB⟩:∃ B,(ckV H.T y.s y.g == 0)=B:=⟨_,rfl⟩
   rw [hB] at HC
   have HY:=hid (And.intro hy hB)
   clear hy hB
   go_wp2_with fail
   refine HC.out.mono ?_
   rintro e w2 ⟨rfl,k2⟩
   have HR24b:=hid (HR24.out.k0 k2)
   have HR14b:=hid (HR14.out.keeps k2 (fun h=>h) (fun h=>h))
   have hv2:=HV.out.keeps k2 (fun _ _ h=>h)
   have HV2:=hid hv2
   have HK2:=hid (HK.out.trans k2.up)
   obtain⟨g2,eg,_,d0,d1⟩:=hv2.cell.2 k y HY.out.1
   have eg':g2=g:=by injection eg with eg;injection eg with eg;exact eg.symm
   rw [eg'] at d0 d1
   clear c0 c1 k2 hv2 eg eg'
   rcases B with _ | _
   ·have HN2:=hid (show hres H (l.take (k+1))=hres H (l.take k) from hres_no HY.out.1 HY.out.2)
    go_wp2_with fail
    exact⟨⟨k+1,sv,by omega,by go_num,by rw [HN2.out];exact HR24b,HR14b,HV2,HK2⟩,by simp [intOf];omega⟩
   ·obtain⟨hy1,suf,hy2⟩:=hres_yes HY.out.1 HY.out.2
    have hrg:=hres_s (H:=H) (l:=l) (x:=y.s) (by rw [hy2];simp)
    obtain⟨i,hi⟩:∃ i:Nat,y.s=i:=⟨y.s.toNat,by omega⟩
    have HY1:=hid hy1
    have hin:i<(M.shade ((hres H (l.take k)).map (·.s))).P.n:=by rw [Mk.shade24_n];have:=HN.out;omega
    have HSH:=hid (shade24 i HR24b.out hin)
    have HI:=hid hi
    rw [hi] at d0
    clear hy1 hy2 hrg hi hin
    go_wp2_with fail
    refine HSH.out.mono ?_
    rintro e w3 ⟨rfl,k3,sv3,h3⟩
    have HR24c:=hid (show R24 w3 m { L with sv:=sv3 } (M.shade ((hres H (l.take (k+1))).map (·.s))) q from by
     rw [HY1.out,Mk.shade24_snoc,HI.out,Int.toNat_natCast]
     exact h3)
    have HR14c:=hid (HR14b.out.keeps k3 (by obtain⟨_,_,_,o⟩:=HR14b.out.own;exact HR24b.out.apart o (by decide) (by decide)) (by obtain⟨_,o,_⟩:=HR14b.out.row;exact HR24b.out.apart o (by decide) (by decide)))
    have HV3:=hid (HV2.out.keeps k3 (fun z hz e=>by
     rcases HV2.out with⟨e1,_⟩ | ⟨g',cp,cu,e1,hg',_⟩
     ·rw [e1] at hz;cases hz
     ·rw [e1] at hz
      obtain rfl:g'=z:=Option.some.inj hz
      exact HR24b.out.apart hg' (by decide) (by decide) e))
    have HK3:=hid (HK2.out.trans k3)
    clear k3 h3 d0 d1
    go_wp2_with fail
    exact⟨⟨k+1,sv3,by omega,by go_num,HR24c,HR14c,HV3,HK3⟩,by simp [intOf];omega⟩
  ·obtain rfl:k=n:=by omega
   have ht:l.take k=l:=List.take_of_length_le (by rw [HLN.out];exact Nat.le_refl _)
   rw [ht] at HR24
   go_wp2_with fail
   go_end0
   exact⟨rfl,HK.out,sv,HR24.out⟩
end
end Go.Proofs.YtnlkfbndlngjaaaGreat
namespace Go.Proofs.YtnlkfbndlngjaaaGreat
open Go.RowKit
attribute [local go_sem] Oper.semAt_some
set_option linter.unusedVariables false
set_option linter.unusedSimpArgs false
theorem wpList_append_refs13 {ops:Array Oper} {rest:List Oper} {o:Oper} {a:Act} {Q:Exit→Act→World→Prop} (w:World) (hgd:o.guard=none) (s x:Operand)
 (ho:o.op = .call { callee:=.builtin .append,args:=#[s,x],argTypes:=#[46,46] })
 (base:Nat) (v u:Value) (l m:List Rf) (hs:a.eval s=v) (hx:a.eval x=u) (hv:Row w base v l) (hu:Refs w u m) (h1:l.length+m.length≤1000000) (hb:base≤w.heap.size)
 (h:∀ v' w',Row w' base v' (l ++ m)→Keeps (fun k=>v.ownBlock=some k) w w'→(v'.ownBlock=v.ownBlock∨v'.ownBlock=some w.heap.size)→wpList Tryz.prog ops Q rest (a.put o.dst v') w'):
 wpList Tryz.prog ops Q (o :: rest) a w:=by
 refine wpList_plain hgd fun K hK=>?_
 obtain⟨v',w',hr,h2,h3,h4⟩:=run_append_refs o.type base v u l m w hv hu h1 hb
 unfold Oper.wp execOp
 simp only [ho,resolve,invoke,builtin,Sem.run_bind,Sem.run_pure,Result.andThen_ok,List.map_toArray,List.map_cons,List.map_nil,hs,hx,hr]
 exact hK _ _ (h v' w' h2 h3 h4)
theorem Ob.field_at (o:Ob):∀ i,i<4→o.arr[1+i * 2]?=some (.int .i64 (o.fs i).s)∧o.arr[1+i * 2+1]?=some (.int .u32 (o.fs i).g)
 | 0,_=>⟨rfl,rfl⟩
 | 1,_=>⟨rfl,rfl⟩
 | 2,_=>⟨rfl,rfl⟩
 | 3,_=>⟨rfl,rfl⟩
 | _+4,h=>by omega
def Ob.rfs (o:Ob) (k:Nat):List Rf:=(o.upto k).map (·.2)
theorem Ob.rfs_yes {o:Ob} {k:Nat} (h:(o.fs k).nz=true):o.rfs (k+1)=o.rfs k ++ [o.fs k]:=by simp [Ob.rfs,Ob.upto,h]
theorem Ob.rfs_no {o:Ob} {k:Nat} (h:(o.fs k).nz=false):o.rfs (k+1)=o.rfs k:=by simp [Ob.rfs,Ob.upto,h]
theorem Ob.rfs_len (o:Ob):∀ k,(o.rfs k).length≤k
 | 0=>by simp [Ob.rfs,Ob.upto]
 | k+1=>by
  have ih:=Ob.rfs_len o k
  rcases h:(o.fs k).nz with _ | _
  ·rw [Ob.rfs_no h];omega
  ·rw [Ob.rfs_yes h,List.length_append];simp;omega
theorem refs13 (o:Ob) (w:World):Calls Tryz.prog 258 #[.agg o.arr] w fun e w'=>∃ v,e = .returned v∧Row w' w.heap.size v (o.rfs 4)∧Keeps (fun _=>False) w w':=by
 obtain⟨wA,hwA⟩:∃ wA,w.alloc (.cells o.arr 218)=wA:=⟨_,rfl⟩
 have kA:Keeps (fun _=>False) w wA:=by rw [← hwA];exact (Keeps.refl _ _).alloc _
 have qA:wA.heap[w.heap.size]?=some (.cells o.arr 218):=by rw [← hwA];exact alloc_new
 have QA:=hid qA;have KA:=hid kA;have HWA:=hid hwA
 have HSZ:=hid (show w.heap.size<wA.heap.size from lt_block qA)
 have HF:=hid o.field_at
 have HL:=hid o.rfs_len
 obtain⟨B,hB⟩:∃ B,w.heap.size=B:=⟨_,rfl⟩
 rw [hB] at QA
 have HBB:=hid hB
 clear kA qA hwA
 go_enter Tryz.func258,Tryz.ntmps258
 go_upto_region 1 with (fail)
 rw [HWA.out]
 clear hB
 go_wp2_with fail
 go_loopw [3,4] (fun s3 ix wr=>∃ (k:Nat) (p:Option Addr) (c:Nat),k≤4∧ix = .int .i64 k∧s3 = .slice p (o.rfs k).length c∧Hid (Row wr wA.heap.size (.slice p (o.rfs k).length c) (o.rfs k))∧Hid (Keeps (fun _=>False) wA wr)) (fun _ ix _=>4 - (intOf ix).toNat)
 case atStart=>exact⟨0,none,0,by omega,rfl,rfl,hid (Row.nil _ _),hid (Keeps.refl _ _)⟩
 case round=>
  obtain⟨k,p,c,hk,rfl,rfl,HR,HK⟩:=hrel
  have hk0:(0:Int)≤k:=by omega
  by_cases hlt:k<4
  ·have hlt':(k:Int)<4:=by omega
   have q:=block_keep QA.out HK.out (fun h=>h)
   have c0:=cell_at q (HF.out k hlt).1
   have c1:=cell_at q (HF.out k hlt).2
   have hll:=HL.out k
   have hneq:=fun W=>neq_nz (o.fs k) W
   obtain⟨y,hy⟩:∃ y,o.fs k=y:=⟨_,rfl⟩
   have HY:=hid hy
   rw [hy] at c0 c1 hneq
   have hsz:=HK.out.size
   clear q hy
   rcases hz:y.nz with _ | _
   ·rw [hz] at hneq
    have HN:=hid (show o.rfs (k+1)=o.rfs k from Ob.rfs_no (by rw [HY.out];exact hz))
    clear hz
    go_wp2_with fail
    exact⟨⟨k+1,p,c,by omega,by go_num,by rw [HN.out],by rw [HN.out];exact HR,HK⟩,by simp [intOf];omega⟩
   ·rw [hz] at hneq
    have HN:=hid (show o.rfs (k+1)=o.rfs k ++ [y] from by rw [Ob.rfs_yes (by rw [HY.out];exact hz),HY.out])
    obtain⟨ls,hls⟩:∃ ls,o.rfs k=ls:=⟨_,rfl⟩
    rw [hls] at HN HR hll ⊢
    have HVD:=hid (HR.out.keeps ((Keeps.refl (fun _=>False) wr).alloc (.cells #[.int .i64 y.s,.int .u32 y.g] 34)) (fun _ _ _ _ h=>h))
    have HRO:=hid ((row_one (x:=y) (alloc_new (w:=wr) (o:=.cells #[.int .i64 y.s,.int .u32 y.g] 34)) (Nat.le_refl _)).refs)
    have HKA:=hid (HK.out.alloc (.cells #[.int .i64 y.s,.int .u32 y.g] 34))
    clear hz hls HR
    go_wp2_with (first
     | (at_builtin;refine wpList_append_refs13 _ rfl _ _ rfl wA.heap.size _ _ ls [y] rfl rfl HVD.out HRO.out (by rw [List.length_singleton];omega) (by rw [World.size_alloc];omega) ?_;intro v5 w6 hr5 hk5 ho5;obtain⟨p5,c5,rfl⟩:=hr5.refs.slice)
     | fail)
    have hlt5:=HVD.out.lt
    exact⟨⟨k+1,p5,c5,by omega,by go_num,by rw [HN.out];simp,by rw [HN.out];exact hid hr5,hid (HKA.out.trans' hk5 (fun _ _ h=>h) (fun y hy hz=>by have:=(hlt5 y hz).1;omega))⟩,by simp [intOf];omega⟩
  ·obtain rfl:k=4:=by omega
   have HR2:=hid (HR.out.mono (show w.heap.size≤wA.heap.size from Nat.le_of_lt HSZ.out))
   have HK2:=hid (KA.out.trans HK.out)
   go_wp2_with fail
   go_ret
   exact⟨_,rfl,HR2.out,HK2.out⟩
end Go.Proofs.YtnlkfbndlngjaaaGreat
namespace Go.Proofs.YtnlkfbndlngjaaaGreat
open Go.RowKit
attribute [local go_sem] Oper.semAt_some
set_option linter.unusedVariables false
set_option linter.unusedSimpArgs false
section
variable {w w':World} {m q x:Nat} {L:L24} {M:Mk} {H:Hp}
theorem blackenP {b s i:Nat} {P:Pt} (h:R15 w b s P) (hi:i<P.n) (hc:P.c i=1):Calls Tryz.prog 259 #[.pointer (some ⟨b,0,none⟩),.int .i64 i] w fun e w'=>e = .returned (.int .i64 0)∧Keeps (fun y=>y=s) w w'∧R15 w' b s (P.put i 2):=by
 have HB:=hid (blacken15 i 1 h hi)
 rw [if_pos hc,if_pos hc] at HB
 clear h hi hc
 go_enter Tryz.func259,Tryz.ntmps259
 go_wp2_with fail
 refine HB.out.mono ?_
 rintro e w1 ⟨rfl,h1⟩
 have H1:=hid h1
 clear h1
 go_wp2_with fail
 go_ret
 exact⟨rfl,H1.out⟩
def hasS (l:List Rf) (i:Nat):Bool:=l.any (fun y=>y.s == (i:Int))
theorem hasS_snoc (l:List Rf) (y:Rf) (i:Nat):hasS (l ++ [y]) i=(hasS l i || (y.s == (i:Int))):=by simp [hasS]
theorem scan24 (i:Nat) (h:R24 w m L M q) (hi:i<M.P.n) (hn:H.T.n=M.P.n) (hc:M.P.c i=1)
 (hH:∀ W,Keeps (fun y=>y=L.ps∨y=L.st) w W→Calls Tryz.prog 217 #[.pointer (some ⟨x,0,none⟩)] W fun e w1=>∃ b r,e = .returned (.pointer (some ⟨b,0,none⟩))∧Keeps (fun _=>False) W w1∧R14 w1 b r H)
 (hHas:∀ W b r,R14 W b r H→∀ y:Rf,Calls Tryz.prog 218 #[.pointer (some ⟨b,0,none⟩),.agg #[.int .i64 y.s,.int .u32 y.g]] W fun e w'=>e = .returned (.bool (ckV H.T y.s y.g == 0))∧Keeps (fun _=>False) W w')
 (hAll:∀ W b r,R14 W b r H→Calls Tryz.prog 256 #[.pointer (some ⟨b,0,none⟩)] W fun e w'=>∃ v,e = .returned v∧Row w' W.heap.size v H.T.tk∧Keeps (fun _=>False) W w')
 (hObj:∀ W,Keeps (fun y=>y=L.ps∨y=L.st) w W→∀ y,y∈H.T.tk→Calls Tryz.prog 257 #[.pointer (some ⟨x,0,none⟩),.agg #[.int .i64 y.s,.int .u32 y.g]] W fun e w'=>e = .returned (.tuple #[.agg (H.ob y.s.toNat).arr,.int .i64 0])∧Keeps (fun _=>False) W w')
 (htl:H.T.tk.length≤256) (hso:∀ (k:Nat) (y:Rf),H.T.tk[k]?=some y→y.s=i→hasS (H.T.tk.take k) i=false) (hst:hasS H.T.tk i=true↔H.T.st i=1):
 Calls Tryz.prog 223 #[.pointer (some ⟨m,0,none⟩),.pointer (some ⟨x,0,none⟩),.int .i64 i] w fun e w'=>e = .returned (.tuple #[])∧Keeps (fun y=>y=L.ps∨y=L.st) w w'∧∃ sv,R24 w' m { L with sv:=sv } (M.scanAt H i) q:=by
 have HH:=hid hH;have HAS:=hid hHas;have HAL:=hid hAll;have HOB:=hid hObj
 have H24:=hid h;have HN:=hid hn;have HCI:=hid hc;have HSO:=hid hso;have HST:=hid hst
 have HI:=hid hi
 obtain⟨tk,htk⟩:∃ tk,H.T.tk=tk:=⟨_,rfl⟩
 rw [htk] at HAL HOB HSO HST htl
 clear h hn hc hH hHas hAll hObj hso hst hi htk
 go_enter Tryz.func223,Tryz.ntmps223
 go_wp2_with fail
 refine (HH.out _ (Keeps.refl _ _)).mono ?_
 rintro e w1 ⟨b,r,rfl,k1,h14⟩
 have HA1:=hid (HAL.out _ _ _ h14)
 have K1:=hid k1
 clear k1 h14
 go_wp2_with fail
 refine HA1.out.mono ?_
 rintro e w2 ⟨v,rfl,hr2,k2⟩
 obtain⟨p,c,rfl⟩:=hr2.refs.slice
 have HV2:=hid hr2.refs
 have HK2:=hid ((K1.out.trans k2).up (T:=fun y=>y=L.ps∨y=L.st))
 have HR2:=hid (H24.out.k0 (K1.out.trans k2))
 clear k2 hr2
 go_wp2_with fail
 go_loopw [7] (fun ix wr=>∃ (k:Nat) (sv:Value),k≤tk.length∧ix = .int .i64 k∧Hid (R24 wr m { L with sv:=sv } (if hasS (tk.take k) i then M.shade (chs H (H.ob i)) else M) q)∧Hid (Refs wr (.slice p tk.length c) tk)∧Hid (Keeps (fun y=>y=L.ps∨y=L.st) w wr)) (fun ix _=>tk.length - (intOf ix).toNat)
 case atStart=>exact⟨0,L.sv,Nat.zero_le _,rfl,hid (by rw [show hasS (tk.take 0) i=false from rfl];exact HR2.out),HV2,HK2⟩
 case round=>
  clear HR2 HV2 HK2
  obtain⟨k,sv,hk,rfl,HR,HV,HK⟩:=hrel
  have hk0:(0:Int)≤k:=by omega
  by_cases hlt:k<tk.length
  ·have hlt':(k:Int)<(tk.length:Int):=by omega
   obtain⟨y,hy⟩:∃ y,tk[k]?=some y:=⟨_,List.getElem?_eq_getElem hlt⟩
   obtain⟨g,rfl,hgl,c0,c1⟩:=HV.out.cell.2 k y hy
   have HSN:=hid (show hasS (tk.take (k+1)) i=(hasS (tk.take k) i || (y.s == (i:Int))) from by rw [show tk.take (k+1)=tk.take k ++ [y] from by rw [List.take_add_one,hy];rfl,hasS_snoc])
   have HY:=hid hy
   rcases hb:(y.s == (i:Int)) with _ | _
   ·have HN2:=hid (show hasS (tk.take (k+1)) i=hasS (tk.take k) i from by rw [HSN.out,hb];simp)
    clear hy
    go_wp2_with fail
    exact⟨⟨k+1,sv,by omega,by go_num,hid (by rw [HN2.out];exact HR.out),HV,HK⟩,by simp [intOf];omega⟩
   ·have hys:y.s=(i:Int):=by simpa using hb
    have HN2:=hid (show hasS (tk.take (k+1)) i=true from by rw [HSN.out,hb];simp)
    have HN3:=hid (HSO.out k y hy hys)
    have HOO:=hid (HOB.out _ HK.out y (List.mem_of_getElem? hy))
    rw [hys,Int.toNat_natCast] at HOO
    rw [hys] at c0 hb
    rw [HN3.out] at HR
    obtain⟨O,hO⟩:∃ O,H.ob i=O:=⟨_,rfl⟩
    rw [hO] at HOO
    have HRF:=hid (fun W=>refs13 O W)
    have HO:=hid hO
    unfold Ob.arr at HOO HRF
    clear hy hO
    go_wp2_with fail
    refine HOO.out.mono ?_
    rintro e w3 ⟨rfl,k3⟩
    have q3:=alloc_new (w:=w3) (o:=.cells #[.int .i64 O.n,.int .i64 O.f0.s,.int .u32 O.f0.g,.int .i64 O.f1.s,.int .u32 O.f1.g,.int .i64 O.f2.s,.int .u32 O.f2.g,.int .i64 O.f3.s,.int .u32 O.f3.g,.bool O.h] 218)
    obtain⟨wz,hwz⟩:∃ wz,w3.alloc (.cells #[.int .i64 O.n,.int .i64 O.f0.s,.int .u32 O.f0.g,.int .i64 O.f1.s,.int .u32 O.f1.g,.int .i64 O.f2.s,.int .u32 O.f2.g,.int .i64 O.f3.s,.int .u32 O.f3.g,.bool O.h] 218)=wz:=⟨_,rfl⟩
    have KZ:=hid (show Keeps (fun _=>False) wr wz from by rw [← hwz];exact k3.alloc _)
    have HWZ:=hid hwz
    rw [hwz] at q3
    obtain⟨x0,x1,x2,x3,x4,x5,x6,x7,x8,x9,_,xl⟩:=cells10 q3
    clear c0 c1 k3 q3 hwz
    go_upto_region 6 with (fail)
    rw [HWZ.out]
    go_wp2_with fail
    refine (HRF.out _).mono ?_
    rintro e w4 ⟨v38,rfl,hr38,k4⟩
    have K4:=hid (KZ.out.trans k4)
    have HT:=hid (there24 (L:={ L with sv:=sv }) v38 (O.rfs 4) (HR.out.k0 K4.out) hr38.refs (by have:=O.rfs_len 4;omega) HN.out (HH.out _ (HK.out.trans K4.out.up)) HAS.out)
    have HV4:=hid (HV.out.keeps K4.out (fun _ _ h=>h))
    have HRa:=hid (HR.out.k0 K4.out)
    clear k4 hr38 x0 x1 x2 x3 x4 x5 x6 x7 x8 x9 xl
    go_wp2_with fail
    refine HT.out.mono ?_
    rintro e w5 ⟨rfl,k5,sv5,h5⟩
    have HR5:=hid (show R24 w5 m { L with sv:=sv5 } (M.shade (chs H (H.ob i))) q from by rw [HO.out];exact h5)
    have HV5:=hid (HV4.out.keeps k5 (fun z hz e=>by
     rcases HV4.out with⟨e1,_⟩ | ⟨g',cp,cu,e1,hg',_⟩
     ·rw [e1] at hz;cases hz
     ·rw [e1] at hz
      obtain rfl:g'=z:=Option.some.inj hz
      exact HRa.out.apart hg' (by decide) (by decide) e))
    have HK5:=hid ((HK.out.trans K4.out.up).trans k5)
    clear k5 h5
    go_wp2_with fail
    exact⟨⟨k+1,sv5,by omega,by go_num,hid (by rw [HN2.out];exact HR5.out),HV5,HK5⟩,by simp [intOf];omega⟩
  ·obtain rfl:k=tk.length:=by omega
   have ht:tk.take tk.length=tk:=List.take_length
   rw [ht] at HR
   obtain⟨X,hX⟩:∃ X,(if hasS tk i then M.shade (chs H (H.ob i)) else M)=X:=⟨_,rfl⟩
   rw [hX] at HR
   have hXn:X.P.n=M.P.n:=by rw [← hX];split;exact Mk.shade24_n _ _;rfl
   have hXc:X.P.c i=1:=by rw [← hX];split;exact shds_one _ _ _ HCI.out;exact HCI.out
   have hfin:({ X with P:=X.P.put i 2 }:Mk)=M.scanAt H i:=by
    unfold Mk.scanAt
    rw [← hX]
    by_cases hs:H.T.st i=1
    ·rw [if_pos (HST.out.2 hs),if_pos hs];rfl
    ·rw [if_neg (fun h=>hs (HST.out.1 h)),if_neg hs]
   have HFIN:=hid hfin
   have HBL:=hid (blackenP HR.out.pt (by rw [hXn];exact HI.out) hXc)
   obtain⟨cap,c0,c1,c2,c3,c4,c5,c6,cl⟩:=HR.out.cells
   clear hX hXn hXc hfin
   go_wp2_with fail
   refine HBL.out.mono ?_
   rintro e w3 ⟨rfl,k3,h3⟩
   have K3:=hid k3;have H3:=hid h3
   clear k3 h3
   go_wp2_with fail
   go_end0
   have h4:=HR.out.setP K3.out H3.out rfl
   rw [HFIN.out] at h4
   exact⟨rfl,HK.out.trans (K3.out.mono (fun _ _ h=>.inl h)),sv,h4⟩
end
end Go.Proofs.YtnlkfbndlngjaaaGreat
namespace Go.Proofs.YtnlkfbndlngjaaaGreat
open Go.RowKit
attribute [local go_sem] Oper.semAt_some
set_option linter.unusedVariables false
set_option linter.unusedSimpArgs false
section
variable {w w':World} {m q x:Nat} {L:L24} {M:Mk} {H:Hp}
theorem updf_same' {α:Type} (f:Nat→α) (i:Nat) (x:α):updf f i x i=x:=by simp [updf]
theorem updf_oth' {α:Type} (f:Nat→α) {i j:Nat} (x:α) (h:j≠i):updf f i x j=f j:=by simp [updf,h]
theorem R24.setBf {i:Nat} {v:Value} {B:Bf} (h:R24 w m L M q) (hi:i<M.K.many) (hk:Keeps (fun y=>y=L.bb i∨(L.bv i).ownBlock=some y) w w') (hB:R21 w' (L.bb i) v B) (hs:B.size=(M.B i).size)
 (hv:∀ k,v.ownBlock=some k→(L.bv i).ownBlock=some k∨w.heap.size≤k):R24 w' m { L with bv:=updf L.bv i v } { M with B:=updf M.B i B } q:=by
 obtain⟨⟨cap,o⟩,⟨cur,r,hr⟩,hc,hp,hst,hb,hin,a1,a2,a3⟩:=h
 have hbi:=(hb i hi).1
 have ob:=hbi.own
 have no:∀ {z:Nat} {cs:Array Value} {t:TypeId},w.heap[z]?=some (.cells cs t)→t≠258→3≠t→¬ (z=L.bb i∨(L.bv i).ownBlock=some z):=fun hz h1 h2 e=>e.elim (fun e=>type_ne hz ob h1 e) (fun e=>hbi.ne hz h2 e)
 obtain⟨cp,op⟩:=hp.own
 obtain⟨curp,rp,_,_⟩:=hp.row
 obtain⟨ck,oc⟩:=hc.own
 obtain⟨curc,rc,_⟩:=hc.row
 have nv:∀ {l:List Int} {v:Value},IRow w 0 v l→∀ k,v.ownBlock=some k→¬ k=L.bb i:=fun hv k hk' e=>by
  rcases hv.2 with⟨e1,_⟩ | ⟨g,cp',cu,e1,_,hg,_⟩
  ·rw [e1] at hk';cases hk'
  ·rw [e1] at hk'
   obtain rfl:g=k:=Option.some.inj hk'
   exact type_ne hg ob (by decide) e
 have lps:=lt_block rp
 refine⟨⟨cap,block_keep o hk (no o (by decide) (by decide))⟩,⟨cur,block_keep r hk (no r (by decide) (by decide)),hr⟩,hc.keeps hk (no oc (by decide) (by decide)) (no rc (by decide) (by decide)),hp.keeps hk (no op (by decide) (by decide)) (fun e=>e.elim (type_ne rp ob (by decide)) (fun e=>(a2 i hi _ e).1 rfl)),hst.keeps hk (no hst.own (by decide) (by decide)) (fun k hk' e=>e.elim (nv hst.row k hk') (fun e=>(a2 i hi _ e).2 hk')),fun j hj=>?_,hin,a1,fun j hj k hk'=>?_,fun j l hj hl hjl k hk'=>?_⟩
 ·by_cases e:j=i
  ·subst e
   show R21 w' (L.bb j) (updf L.bv j v j) (updf M.B j B j)∧(updf M.B j B j).size=q
   rw [updf_same',updf_same']
   exact⟨hB,by rw [hs];exact (hb j hj).2⟩
  ·show R21 w' (L.bb j) (updf L.bv i v j) (updf M.B i B j)∧(updf M.B i B j).size=q
   rw [updf_oth' _ _ e,updf_oth' _ _ e]
   obtain⟨h1,h2⟩:=hb j hj
   exact⟨h1.keeps hk (fun e'=>e'.elim (fun e'=>e (hin j i hj hi e')) (fun e'=>hbi.ne h1.own (by decide) e')) (fun k hk' e'=>e'.elim (nv h1.row k hk') (fun e'=>a3 i j hi hj (Ne.symm e) k e' hk')),h2⟩
 ·have hk2:(updf L.bv i v j).ownBlock=some k:=hk'
  by_cases e:j=i
  ·rw [e,updf_same'] at hk2
   rcases hv k hk2 with h | h
   ·exact a2 i hi k h
   ·refine⟨by show k≠L.ps;omega,fun h=>?_⟩
    have:=hst.lt k h;omega
  ·rw [updf_oth' _ _ e] at hk2
   exact a2 j hj k hk2
 ·have hk2:(updf L.bv i v j).ownBlock=some k:=hk'
  show (updf L.bv i v l).ownBlock≠some k
  intro h2
  by_cases e:j=i
  ·have e2:l≠i:=fun h=>hjl (e.trans h.symm)
   rw [e,updf_same'] at hk2
   rw [updf_oth' _ _ e2] at h2
   rcases hv k hk2 with h | h
   ·exact a3 i l hi hl (Ne.symm e2) k h h2
   ·have:=(hb l hl).1.lt k h2;omega
  ·rw [updf_oth' _ _ e] at hk2
   by_cases e2:l=i
   ·rw [e2,updf_same'] at h2
    rcases hv k h2 with h | h
    ·exact a3 j i hj hi e k hk2 h
    ·have:=(hb j hj).1.lt k hk2;omega
   ·rw [updf_oth' _ _ e2] at h2
    exact a3 j l hj hl hjl k hk2 h2
end
end Go.Proofs.YtnlkfbndlngjaaaGreat
namespace Go.Proofs.YtnlkfbndlngjaaaGreat
open Go.RowKit
attribute [local go_sem] Oper.semAt_some
set_option linter.unusedVariables false
set_option linter.unusedSimpArgs false
theorem tk_at {H:Hp} {y:Rf} (h:y∈H.T.tk):∃ i:Nat,y=⟨i,H.T.gn i⟩∧i<H.T.n∧H.T.st i=1∧ckV H.T i (H.T.gn i)=0:=by
 obtain⟨⟨i,g⟩,hi,rfl⟩:=List.mem_map.1 h
 obtain⟨h1,h2,h3⟩:=Tb.inn_mem hi
 obtain rfl:H.T.gn i=g:=h2
 exact⟨i,rfl,h3,h1,ckV_tk h3 h1⟩
theorem tk_before (T:Tb):∀ n (k:Nat) (y:Rf),((T.inn 1 n).map rfOf)[k]?=some y→∀ x∈((T.inn 1 n).map rfOf).take k,x.s<y.s
 | 0,k,y,h=>by simp [Tb.inn] at h
 | n+1,k,y,h=>by
  have ih:=tk_before T n k y
  by_cases hs:T.st n=1
  ·rw [Tb.inn_yes hs,List.map_append] at h ⊢
   by_cases hk:k<((T.inn 1 n).map rfOf).length
   ·rw [List.getElem?_append_left hk] at h
    rw [List.take_append_of_le_length (by omega)]
    exact ih h
   ·have hk2:k=((T.inn 1 n).map rfOf).length:=by
     have:=(List.getElem?_eq_some_iff.1 h).1
     simp only [List.length_append,List.map_cons,List.map_nil,List.length_cons,List.length_nil] at this
     omega
    rw [hk2] at h ⊢
    rw [List.getElem?_append_right (Nat.le_refl _),Nat.sub_self] at h
    obtain rfl:rfOf (n,T.gn n)=y:=by simpa using h
    intro x hx
    rw [List.take_append_of_le_length (Nat.le_refl _),List.take_length] at hx
    obtain⟨⟨i,g⟩,hi,rfl⟩:=List.mem_map.1 hx
    have:=(Tb.inn_mem hi).2.2
    show (i:Int)<n
    omega
  ·rw [Tb.inn_no hs] at h ⊢
   exact ih h
theorem tk_first {H:Hp} {i:Nat} (k:Nat) (y:Rf) (h:H.T.tk[k]?=some y) (hy:y.s=i):hasS (H.T.tk.take k) i=false:=by
 have h1:=tk_before H.T H.T.n k y h
 unfold hasS
 rw [List.any_eq_false]
 intro x hx
 have:=h1 x hx
 simp only [beq_iff_eq]
 omega
theorem tk_has {H:Hp} {i:Nat} (hi:i<H.T.n):hasS H.T.tk i=true↔H.T.st i=1:=by
 unfold hasS
 rw [List.any_eq_true]
 constructor
 ·rintro⟨x,hx,h⟩
  obtain⟨j,rfl,h1,h2,h3⟩:=tk_at hx
  have e:(j:Int)=i:=by simpa using h
  have:j=i:=by omega
  subst this;exact h2
 ·intro h
  obtain⟨suf,hs⟩:=Tb.inn_split (T:=H.T) hi h
  refine⟨⟨i,H.T.gn i⟩,List.mem_map.2 ⟨(i,H.T.gn i),by rw [hs];simp,rfl⟩,by simp⟩
theorem tk_le (H:Hp):H.T.tk.length≤H.T.n:=by
 unfold Tb.tk;rw [List.length_map];exact Tb.inn_len _ _ _
section
variable {w w':World} {m q x:Nat} {L:L24} {LR:L18} {M:Mk} {A:Ar}
theorem object18 (i:Nat) (g:Int) (h:R18 w x LR A) (hc:ckV A.H.T i g=0):
 Calls Tryz.prog 257 #[.pointer (some ⟨x,0,none⟩),.agg #[.int .i64 i,.int .u32 g]] w fun e w'=>e = .returned (.tuple #[.agg (A.H.ob i).arr,.int .i64 0])∧Keeps (fun _=>False) w w':=by
 obtain⟨wb,hwb⟩:∃ wb,(w.alloc (.cells #[.int .i64 i,.int .u32 g] 34)).alloc (.cells #[.int .i64 0,.int .i64 0,.int .u32 0,.int .i64 0,.int .u32 0,.int .i64 0,.int .u32 0,.int .i64 0,.int .u32 0,.bool false] 218)=wb:=⟨_,rfl⟩
 have kb:Keeps (fun _=>False) w wb:=by rw [← hwb];exact ((Keeps.refl _ _).alloc _).alloc _
 have qb:wb.heap[w.heap.size]?=some (.cells #[.int .i64 i,.int .u32 g] 34):=by rw [← hwb];exact alloc_old alloc_new
 have qz:wb.heap[w.heap.size+1]?=some (.cells #[.int .i64 0,.int .i64 0,.int .u32 0,.int .i64 0,.int .u32 0,.int .i64 0,.int .u32 0,.int .i64 0,.int .u32 0,.bool false] 218):=by rw [← hwb];exact alloc_new' (by simp)
 have hb:=h.k0 kb
 have hlx:=h.lt.1
 have HVA:=hid (valid18 x wb hb.made)
 obtain⟨O,hO⟩:∃ O,A.H.ob i=O:=⟨_,rfl⟩
 have HOB:=hid (fun W (hk:Keeps (fun _=>False) wb W)=>object14_ok i g (hb.k0 hk).heap hc)
 rw [hO] at HOB ⊢
 simp only [Ob.arr] at HOB ⊢
 have HPS:=hid (fun W (hk:Keeps (fun y=>y=w.heap.size+1) wb W)=>show W.cell? ⟨x,2,none⟩=some (.pointer (some ⟨LR.hb,0,none⟩))∧W.cell? ⟨w.heap.size,0,none⟩=some (.int .i64 i)∧W.cell? ⟨w.heap.size,1,none⟩=some (.int .u32 g) from by
  have q':=block_keep qb hk (by omega)
  obtain⟨c,cap,x1,_,_,_,x2,_⟩:=hb.own
  exact⟨cell_at (block_keep x1 hk (by omega)) x2,cell_at q' rfl,cell_at q' rfl⟩)
 have HW:=hid hwb;have HKB:=hid kb;have HQZ:=hid qz
 clear h hb kb qb hwb hO hc qz
 obtain⟨c2,b0,b1⟩:=HPS.out wb (Keeps.refl _ _)
 have hl0:w.heap.size+1<wb.heap.size:=lt_block HQZ.out
 go_enter Tryz.func257,Tryz.ntmps257
 go_upto_region 1 with (fail)
 rw [HW.out]
 go_wp2_with fail
 refine (HVA.out).mono ?_
 rintro e w' ⟨rfl,h'⟩
 obtain rfl:=h'.symm
 go_wp2_with fail
 go_region_held3 (fun W=>W.cell? ⟨x,2,none⟩=some (.pointer (some ⟨LR.hb,0,none⟩))∧W.cell? ⟨w.heap.size,0,none⟩=some (.int .i64 i)∧W.cell? ⟨w.heap.size,1,none⟩=some (.int .u32 g))
  ((refine HPS.out _ ?_;(repeat (first | with_reducible exact Keeps.refl _ _ | with_reducible exact hk3 | with_reducible refine Keeps.drew ?_ | with_reducible refine Keeps.setCell ?_ (.inl ?_) _))) <;> rfl)
  (first | (go_at_call 250;refine (HOB.out _ (Keeps.refl _ _).drew).mono ?_;rintro e w2 ⟨rfl,hk2⟩;have hk3:Keeps (fun y=>y=w.heap.size+1) wb w2:=(((Keeps.refl (fun _=>False) wb).drew).trans hk2).up;have nb:=block_keep (show (World.drew wb).heap[w.heap.size+1]?=_ from HQZ.out) hk2 (fun h=>h);obtain⟨n0,n1,n2,n3,n4,n5,n6,n7,n8,n9,nf,nl⟩:=cells10 nb;have nf0:=nf 0;have nf1:=nf 1;have nf2:=nf 2;have nf3:=nf 3;have nf4:=nf 4;have nf5:=nf 5;have nf6:=nf 6;have nf7:=nf 7;have nf8:=nf 8;have nf9:=nf 9;clear nf))
 all_goals
  go_wp2_with fail
  refine bodyPost_ret_by (v:=.tuple #[.agg #[.int .i64 O.n,.int .i64 O.f0.s,.int .u32 O.f0.g,.int .i64 O.f1.s,.int .u32 O.f1.g,.int .i64 O.f2.s,.int .u32 O.f2.g,.int .i64 O.f3.s,.int .u32 O.f3.g,.bool O.h],.int .i64 0]) (by simp [results,Tryz.results257,go_sem, *]) rfl ⟨rfl,?_⟩
  refine Keeps.fresh ?_
  repeat (first | (with_reducible exact ((HKB.out.trans (((Keeps.refl (fun _=>False) wb).drew).trans hk2)).up)) | with_reducible refine Keeps.setCell ?_ ?_ _ | with_reducible refine Keeps.alloc ?_ _ | with_reducible refine Keeps.drewN ?_ _ | with_reducible refine Keeps.drew ?_)
  all_goals first | (left;simp;done) | (left;simp;omega) | (right;simp;done) | (right;simp;omega)
theorem R24.alien (h:R24 w m L M q):Alien (fun y=>y=L.ps∨y=L.st) w:=by
 intro y c t hy ht
 refine h.apart hy ?_ ?_ <;> (rcases ht with rfl | rfl | rfl | rfl | rfl <;> decide)
theorem heapP (h:R18 w x LR A):Calls Tryz.prog 217 #[.pointer (some ⟨x,0,none⟩)] w fun e w1=>∃ b r,e = .returned (.pointer (some ⟨b,0,none⟩))∧Keeps (fun _=>False) w w1∧R14 w1 b r A.H:=
 (heap18 h).mono fun e w1 ⟨b,r,h1,h2,_,_,h3⟩=>⟨b,r,h1,h2,h3⟩
theorem there18 (v:Value) (l:List Rf) (h:R24 w m L M q) (hR:R18 w x LR A) (hv:Refs w v l) (hl:l.length≤5000) (hn:A.H.T.n=M.P.n):
 Calls Tryz.prog 138 #[.pointer (some ⟨m,0,none⟩),.pointer (some ⟨x,0,none⟩),v] w fun e w'=>e = .returned (.tuple #[])∧Keeps (fun y=>y=L.ps∨y=L.st) w w'∧∃ sv,R24 w' m { L with sv:=sv } (M.shade ((hres A.H l).map (·.s))) q:=
 there24 v l h hv hl hn (heapP hR) (fun W b r hW y=>has14 y.s y.g hW)
theorem scan18 (i:Nat) (h:R24 w m L M q) (hR:R18 w x LR A) (hi:i<M.P.n) (hn:A.H.T.n=M.P.n) (hc:M.P.c i=1):
 Calls Tryz.prog 223 #[.pointer (some ⟨m,0,none⟩),.pointer (some ⟨x,0,none⟩),.int .i64 i] w fun e w'=>e = .returned (.tuple #[])∧Keeps (fun y=>y=L.ps∨y=L.st) w w'∧∃ sv,R24 w' m { L with sv:=sv } (M.scanAt A.H i) q:=by
 have hal:=h.alien
 refine scan24 i h hi hn hc (fun W hk=>heapP (hR.keeps hk hal)) (fun W b r hW y=>has14 y.s y.g hW) (fun W b r hW=>all14 hW) (fun W hk y hy=>?_) (Nat.le_trans (tk_le _) (by have:=h.pt.n2;omega)) (fun k y=>tk_first k y) (tk_has (by omega))
 obtain⟨j,rfl,h1,h2,h3⟩:=tk_at hy
 exact object18 j _ (hR.keeps hk hal) h3
end
end Go.Proofs.YtnlkfbndlngjaaaGreat
