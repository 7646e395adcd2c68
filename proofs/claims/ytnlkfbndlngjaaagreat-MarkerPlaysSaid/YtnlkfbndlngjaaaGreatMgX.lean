import Derived.Test.YtnlkfbndlngjaaaGreatMgR
set_option maxHeartbeats 2000000
set_option maxRecDepth 100000
namespace Go.Proofs.YtnlkfbndlngjaaaGreat
open Go.RowKit
def varsArr (f:Nat→Rf):Array Value:=#[.int .i64 (f 0).s,.int .u32 (f 0).g,.int .i64 (f 1).s,.int .u32 (f 1).g,.int .i64 (f 2).s,.int .u32 (f 2).g,.int .i64 (f 3).s,.int .u32 (f 3).g,.int .i64 (f 4).s,.int .u32 (f 4).g,.int .i64 (f 5).s,.int .u32 (f 5).g,.int .i64 (f 6).s,.int .u32 (f 6).g,.int .i64 (f 7).s,.int .u32 (f 7).g]
theorem vp0 (v0 v1 v2 v3 v4 v5 v6 v7 v8 v9 v10 v11 v12 v13 v14 v15:Value) (w:World):Sem.run Tryz.prog (part 34 #[v0,v1,v2,v3,v4,v5,v6,v7,v8,v9,v10,v11,v12,v13,v14,v15] 0) w = .ok (.agg #[v0,v1]) w:=by kernel_rfl
theorem vp1 (v0 v1 v2 v3 v4 v5 v6 v7 v8 v9 v10 v11 v12 v13 v14 v15:Value) (w:World):Sem.run Tryz.prog (part 34 #[v0,v1,v2,v3,v4,v5,v6,v7,v8,v9,v10,v11,v12,v13,v14,v15] 2) w = .ok (.agg #[v2,v3]) w:=by kernel_rfl
theorem vp2 (v0 v1 v2 v3 v4 v5 v6 v7 v8 v9 v10 v11 v12 v13 v14 v15:Value) (w:World):Sem.run Tryz.prog (part 34 #[v0,v1,v2,v3,v4,v5,v6,v7,v8,v9,v10,v11,v12,v13,v14,v15] 4) w = .ok (.agg #[v4,v5]) w:=by kernel_rfl
theorem vp3 (v0 v1 v2 v3 v4 v5 v6 v7 v8 v9 v10 v11 v12 v13 v14 v15:Value) (w:World):Sem.run Tryz.prog (part 34 #[v0,v1,v2,v3,v4,v5,v6,v7,v8,v9,v10,v11,v12,v13,v14,v15] 6) w = .ok (.agg #[v6,v7]) w:=by kernel_rfl
theorem vp4 (v0 v1 v2 v3 v4 v5 v6 v7 v8 v9 v10 v11 v12 v13 v14 v15:Value) (w:World):Sem.run Tryz.prog (part 34 #[v0,v1,v2,v3,v4,v5,v6,v7,v8,v9,v10,v11,v12,v13,v14,v15] 8) w = .ok (.agg #[v8,v9]) w:=by kernel_rfl
theorem vp5 (v0 v1 v2 v3 v4 v5 v6 v7 v8 v9 v10 v11 v12 v13 v14 v15:Value) (w:World):Sem.run Tryz.prog (part 34 #[v0,v1,v2,v3,v4,v5,v6,v7,v8,v9,v10,v11,v12,v13,v14,v15] 10) w = .ok (.agg #[v10,v11]) w:=by kernel_rfl
theorem vp6 (v0 v1 v2 v3 v4 v5 v6 v7 v8 v9 v10 v11 v12 v13 v14 v15:Value) (w:World):Sem.run Tryz.prog (part 34 #[v0,v1,v2,v3,v4,v5,v6,v7,v8,v9,v10,v11,v12,v13,v14,v15] 12) w = .ok (.agg #[v12,v13]) w:=by kernel_rfl
theorem vp7 (v0 v1 v2 v3 v4 v5 v6 v7 v8 v9 v10 v11 v12 v13 v14 v15:Value) (w:World):Sem.run Tryz.prog (part 34 #[v0,v1,v2,v3,v4,v5,v6,v7,v8,v9,v10,v11,v12,v13,v14,v15] 14) w = .ok (.agg #[v14,v15]) w:=by kernel_rfl
theorem vars_part (f:Nat→Rf) (i:Nat) (hi:i<8) (w:World):Sem.run Tryz.prog (part 34 (varsArr f) (i * 2)) w = .ok (.agg #[.int .i64 (f i).s,.int .u32 (f i).g]) w:=by
 match i,hi with
 | 0,_=>exact vp0 _ _ _ _ _ _ _ _ _ _ _ _ _ _ _ _ w
 | 1,_=>exact vp1 _ _ _ _ _ _ _ _ _ _ _ _ _ _ _ _ w
 | 2,_=>exact vp2 _ _ _ _ _ _ _ _ _ _ _ _ _ _ _ _ w
 | 3,_=>exact vp3 _ _ _ _ _ _ _ _ _ _ _ _ _ _ _ _ w
 | 4,_=>exact vp4 _ _ _ _ _ _ _ _ _ _ _ _ _ _ _ _ w
 | 5,_=>exact vp5 _ _ _ _ _ _ _ _ _ _ _ _ _ _ _ _ w
 | 6,_=>exact vp6 _ _ _ _ _ _ _ _ _ _ _ _ _ _ _ _ w
 | 7,_=>exact vp7 _ _ _ _ _ _ _ _ _ _ _ _ _ _ _ _ w
theorem vars_items (f g:Nat→Rf) (w:World):∀ is:List Nat,(∀ i∈is,i<8)→(Op.eqItems 9999 34 2 (varsArr f) (varsArr g) is).run Tryz.prog w = .ok (is.all fun i=>(f i).s == (g i).s && (f i).g == (g i).g) w
 | [],_=>rfl
 | i :: is,h=>by
  have hS:Tryz.prog.underlying 34=some (.struct (Tryz.prog.fieldsOf 34)):=by kernel_rfl
  have hp:Tryz.prog.stoodInHeld 34=false:=by kernel_rfl
  have he:(Op.equalIn 9999 34 (.agg #[.int .i64 (f i).s,.int .u32 (f i).g]) (.agg #[.int .i64 (g i).s,.int .u32 (g i).g])).run Tryz.prog w = .ok ((f i).s == (g i).s && (f i).g == (g i).g) w:=by
   rw [show (9999:Nat)=9998+1 from rfl,run_equalIn_agg w 9998 _ _ _ hS hp]
   simp only [Program.fieldsOf,Tryz.underlying34]
   go_simp
   by_cases h1:(f i).s=(g i).s <;> by_cases h2:(f i).g=(g i).g <;> simp [h1,h2]
  simp only [Op.eqItems,Sem.run_bind,vars_part f i (h i (by simp)),vars_part g i (h i (by simp)),Result.andThen_ok,he]
  rcases hb:((f i).s == (g i).s && (f i).g == (g i).g) with _ | _
  ·simp [hb]
  ·have ih:=vars_items f g w is (fun j hj=>h j (by simp [hj]))
   simp [hb,ih]
theorem eq_vars (f g:Nat→Rf) (w:World):Sem.run Tryz.prog (binOp .eql 164 (.agg (varsArr f)) (.agg (varsArr g))) w = .ok (.bool ((List.range 8).all fun i=>(f i).s == (g i).s && (f i).g == (g i).g)) w:=by
 have hu:Tryz.prog.underlying 164=some (.array 8 34):=by kernel_rfl
 have hc:Tryz.prog.cellsOf 34=2:=by kernel_rfl
 obtain⟨i,hi,_⟩:=ref_info
 rw [run_eql_struct,show (10000:Nat)=9999+1 from rfl,run_equalIn_array w 9999 _ _ hu hi,hc]
 rw [vars_items f g w _ (fun i hi=>List.mem_range.1 hi)]
 rfl
end Go.Proofs.YtnlkfbndlngjaaaGreat
namespace Go.Proofs.YtnlkfbndlngjaaaGreat
open Go.RowKit
def IdxAt (p:Rf→Bool) (l:List Rf) (e:Ending):Prop:=
 (∃ (k:Nat) (r:Rf),l[k]?=some r∧p r=true∧(∀ x∈l.take k,p x=false)∧e = .returned (.int .i64 k))∨((∀ x∈l,p x=false)∧e = .returned (.int .i64 (-1)))
theorem rindex (f:Nat) (caps:Array Value) (p:Rf→Bool) (v:Value) (l:List Rf) (w:World) (hv:Refs w v l) (hl:l.length≤256) (eg:∀ args w,(callFunc f args).run Tryz.prog w = .ok (.enter f args) w)
 (hf:∀ x∈l,∀ W,Keeps (fun _=>False) w W→Calls Tryz.prog f (#[.agg #[.int .i64 x.s,.int .u32 x.g]] ++ caps) W fun e W'=>e = .returned (.bool (p x))∧Keeps (fun _=>False) W W'):
 Calls Tryz.prog 32 #[v,.func (.func f) #[] caps] w fun e w'=>IdxAt p l e∧Keeps (fun _=>False) w w':=by
 have HF:=hid hf
 clear hf
 rcases hv with⟨rfl,rfl⟩ | ⟨g,cap,cur,rfl,hg,hcur⟩
 ·go_enter Tryz.func32,Tryz.ntmps32
  go_wp2_with fail
  go_loopw [8] (fun i wr=>i = .int .i64 0∧w=wr) (fun _ _=>0)
  case atStart=>exact⟨rfl,rfl⟩
  case round=>
   obtain⟨rfl,rfl⟩:=hrel
   go_wp2_with fail
   go_ret
   exact⟨.inr ⟨fun x hx=>(by cases hx),rfl⟩,Keeps.refl _ _⟩
 ·have HG:=hid hg;have HC:=hid hcur
  clear hg hcur
  go_enter Tryz.func32,Tryz.ntmps32
  go_wp2_with fail
  go_loopw [8] (fun i wr=>∃ k:Nat,k≤l.length∧i = .int .i64 k∧(∀ x∈l.take k,p x=false)∧Keeps (fun _=>False) w wr) (fun i _=>l.length - (intOf i).toNat)
  case atStart=>exact⟨0,Nat.zero_le _,rfl,fun x hx=>(by simp at hx),Keeps.refl _ _⟩
  case round=>
   obtain⟨k,hk,rfl,hno,hkk⟩:=hrel
   have HK:=hid hkk;have HNO:=hid hno
   by_cases hlt:k<l.length
   ·obtain⟨x,hx⟩:∃ x,l[k]?=some x:=⟨_,List.getElem?_eq_getElem hlt⟩
    have hg:=block_keep HG.out hkk (fun h=>h)
    have c0:=cell_at hg (HC.out k x hx).1
    have c1:=cell_at hg (HC.out k x hx).2
    have hlt':(k:Int)<(l.length:Int):=by omega
    have hk0:(0:Int)≤k:=by omega
    have HX:=hid (HF.out x (List.mem_of_getElem? hx) wr hkk)
    have HXX:=hid hx
    have htk:l.take (k+1)=l.take k ++ [x]:=by
     rw [List.take_add_one,hx];rfl
    have HTK:=hid htk
    clear hkk hx hg hno htk
    go_wp2_with fail
    refine HX.out.mono ?_
    rintro e w2 ⟨rfl,hk2⟩
    rcases hp:p x with _ | _
    ·have HP:=hid hp
     clear hp
     go_wp2_with fail
     refine⟨⟨k+1,by omega,by simp,?_,HK.out.trans hk2⟩,by simp [intOf];omega⟩
     intro y hy
     rw [HTK.out] at hy
     rcases List.mem_append.1 hy with hy | hy
     ·exact HNO.out y hy
     ·rw [List.mem_singleton.1 hy];exact HP.out
    ·have HP:=hid hp
     clear hp
     go_wp2_with fail
     go_ret
     exact⟨.inl ⟨k,x,HXX.out,HP.out,HNO.out,rfl⟩,HK.out.trans hk2⟩
   ·have hnl:¬ (k:Int)<(l.length:Int):=by omega
    have HE:=hid (show l.take k=l from List.take_of_length_le (by omega))
    clear hkk hno
    go_wp2_with fail
    go_ret
    refine⟨.inr ⟨fun x hx=>?_,rfl⟩,HK.out⟩
    rw [← HE.out] at hx
    exact HNO.out x hx
theorem run_clear_refs (w:World) (b o n c:Nat) (hn:0<n) (hc:∀ j,j<n * 2→(w.cell? ⟨b,o+j,none⟩).isSome=true) (hf:∀ j,j<n * 2→w.frozen? ⟨b,o+j,none⟩=false):
 ∃ vs:List Value,vs.length=n * 2∧∀ ty,Sem.run Tryz.prog (Builtin.clear_ #[46] ty #[.slice (some ⟨b,o,none⟩) n c]) w = .ok (.tuple #[]) (w.setCells b o vs):=by
 refine⟨(Builtin.zeroCells #[.int .i64 0,.int .u32 0] n).toList,by simp [Builtin.zeroCells],fun ty=>?_⟩
 have hl:(Builtin.zeroCells #[.int .i64 0,.int .u32 0] n).toList.length=n * 2:=by simp [Builtin.zeroCells]
 have h1:∀ v∈(Builtin.zeroCells #[.int .i64 0,.int .u32 0] n).toList,v.oneCell'=true:=by
  intro v hv
  simp only [Builtin.zeroCells,Array.toList_map,List.mem_map] at hv
  obtain⟨i,_,rfl⟩:=hv
  have:i % 2=0∨i % 2=1:=by omega
  rcases this with h | h <;> simp [h,Value.oneCell']
 have hst:=run_storeCells_cells (P:=Tryz.prog) b o (Builtin.zeroCells #[.int .i64 0,.int .u32 0] n).toList 0 w (by rw [hl];simpa using hc) (by rw [hl];simpa using hf) h1
 simp only [Nat.add_zero] at hst
 have hz:∀ w,Sem.run Tryz.prog (zeroValue 34) w = .ok (.agg #[.int .i64 0,.int .u32 0]) w:=fun w=>by kernel_rfl
 obtain⟨m,rfl⟩:∃ m,n=m+1:=⟨n - 1,by omega⟩
 simp [Builtin.clear_,run_underlying Tryz.underlying46,hz,hst,Value.cells]
end Go.Proofs.YtnlkfbndlngjaaaGreat
namespace Go.Proofs.YtnlkfbndlngjaaaGreat
open Go.RowKit
def Firsts (c:Array Value) (l:List Rf):Prop:=∀ (j:Nat) (r:Rf),l[j]?=some r→c[j * 2]?=some (.int .i64 r.s)∧c[j * 2+1]?=some (.int .u32 r.g)
theorem Firsts.take {c:Array Value} {l:List Rf} (h:Firsts c l) (k:Nat):Firsts c (l.take k):=fun j r hj=>by
 rw [List.getElem?_take] at hj
 split at hj
 ·exact h j r hj
 ·cases hj
theorem Firsts.snoc {c:Array Value} {l:List Rf} (h:Firsts c l) (r:Rf) (hs:l.length * 2+1<c.size):Firsts ((c.setIfInBounds (l.length * 2) (.int .i64 r.s)).setIfInBounds (l.length * 2+1) (.int .u32 r.g)) (l ++ [r]):=fun j q hj=>by
 by_cases e:j<l.length
 ·rw [List.getElem?_append_left e] at hj
  obtain⟨h0,h1⟩:=h j q hj
  exact⟨by rw [Array.getElem?_setIfInBounds_ne (by omega),Array.getElem?_setIfInBounds_ne (by omega)];exact h0,by rw [Array.getElem?_setIfInBounds_ne (by omega),Array.getElem?_setIfInBounds_ne (by omega)];exact h1⟩
 ·rw [List.getElem?_append_right (by omega)] at hj
  have hj0:j=l.length:=by
   rcases Nat.lt_or_ge (j - l.length) 1 with h | h
   ·omega
   ·rw [List.getElem?_eq_none (by simpa using h)] at hj;cases hj
  subst hj0
  obtain rfl:r=q:=by simpa using hj
  refine⟨?_,?_⟩
  ·rw [Array.getElem?_setIfInBounds_ne (by omega),Array.getElem?_setIfInBounds_self_of_lt (by omega)]
  ·rw [Array.getElem?_setIfInBounds_self_of_lt (by simp;omega)]
theorem rdelete2 (f:Nat) (caps:Array Value) (p:Rf→Bool) (g cap:Nat) (cur:Array Value) (l:List Rf) (w:World) (hg:w.heap[g]?=some (.cells cur 34)) (hcur:Firsts cur l) (hl:l.length≤256) (hcap:l.length≤cap) (hsz:l.length * 2≤cur.size)
 (eg:∀ args w,(callFunc f args).run Tryz.prog w = .ok (.enter f args) w)
 (hf:∀ x∈l,∀ W,Keeps (fun y=>y=g) w W→Calls Tryz.prog f (#[.agg #[.int .i64 x.s,.int .u32 x.g]] ++ caps) W fun e W'=>e = .returned (.bool (p x))∧Keeps (fun _=>False) W W'):
 Calls Tryz.prog 269 #[.slice (some ⟨g,0,none⟩) l.length cap,.func (.func f) #[] caps] w fun e w'=>∃ v,e = .returned v∧∃ c',w'.heap[g]?=some (.cells c' 34)∧v = .slice (some ⟨g,0,none⟩) (l.filter (fun x=>!p x)).length cap∧c'.size=cur.size∧Firsts c' (l.filter (fun x=>!p x))∧Keeps (fun y=>y=g) w w':=by
 have hfil:∀ m:List Rf,(∀ x∈m,p x=false)→m.filter (fun x=>!p x)=m:=fun m h=>List.filter_eq_self.2 (fun x hx=>by simp [h x hx])
 have HFI:=hid hfil
 have HIX:=hid (rindex f caps p (.slice (some ⟨g,0,none⟩) l.length cap) l w (.inr ⟨g,cap,cur,rfl,hg,hcur⟩) hl eg (fun x hx W hk=>hf x hx W hk.up))
 have HF:=hid hf;have HG:=hid hg;have HC:=hid hcur;have HS:=hid hsz
 clear hfil hf hg hcur hsz
 go_enter Tryz.func269,Tryz.ntmps269
 go_wp2_with fail
 refine HIX.out.mono ?_
 rintro e w1 ⟨hix,hk1⟩
 have HK1:=hid hk1
 clear hk1
 rcases hix with⟨k,r,hkr,hpr,hno,rfl⟩ | ⟨hno,rfl⟩
 ·have hkl:k<l.length:=(List.getElem?_eq_some_iff.1 hkr).1
  have HST:=hid (show ((l.take (k+1)).filter (fun x=>!p x))=l.take k by
   rw [List.take_add_one,hkr,List.filter_append,HFI.out _ hno]
   simp [hpr])
  have hk0:(0:Int)≤k:=by omega
  have hk1:(k:Int)≤256:=by omega
  have hkq:((k:Int) == -1)=false:=by simp
  clear hkr hpr hno
  go_wp2_with fail
  go_loopw [5,6] (fun s5 s6 wr=>∃ (i j:Nat) (c:Array Value),s5 = .int .i64 i∧s6 = .int .i64 j∧i<j∧j≤l.length∧Hid (((l.take j).filter (fun x=>!p x)).length=i)∧Hid (Keeps (fun y=>y=g) w wr)∧Hid (wr.heap[g]?=some (.cells c 34)∧c.size=cur.size∧Firsts c ((l.take j).filter (fun x=>!p x))∧∀ (m:Nat) (q:Rf),j≤m→l[m]?=some q→c[m * 2]?=some (.int .i64 q.s)∧c[m * 2+1]?=some (.int .u32 q.g))) (fun _ s6 _=>l.length - (intOf s6).toNat)
  case atStart=>
   refine⟨k,k+1,cur,rfl,by go_num,by omega,by omega,?_,hid HK1.out.up,hid ⟨block_keep HG.out HK1.out (fun h=>h),rfl,?_,fun m q _ hm=>HC.out m q hm⟩⟩
   ·refine hid ?_
    rw [HST.out,List.length_take];omega
   ·rw [HST.out];exact HC.out.take k
  case round=>
   obtain⟨i,j,c,rfl,rfl,hij,hj,HLen,HKr,HB⟩:=hrel
   by_cases hlt:j<l.length
   ·obtain⟨x,hx⟩:∃ x,l[j]?=some x:=⟨_,List.getElem?_eq_getElem hlt⟩
    have hb:=HB.out.1
    have x0:=cell_at hb (HB.out.2.2.2 j x (Nat.le_refl _) hx).1
    have x1:=cell_at hb (HB.out.2.2.2 j x (Nat.le_refl _) hx).2
    have hgl:=lt_block hb
    have hlt':(j:Int)<(l.length:Int):=by omega
    have hj0:(0:Int)≤j:=by omega
    have hi0:(0:Int)≤i:=by omega
    have hi1:(i:Int)<(l.length:Int):=by omega
    have hi2:(i:Int)≤256:=by omega
    have HX:=hid (fun W (hk:Keeps (fun y=>y=g) w W)=>HF.out x (List.mem_of_getElem? hx) W hk)
    have HTK:=hid (show (l.take (j+1)).filter (fun x=>!p x)=(l.take j).filter (fun x=>!p x) ++ (if p x then [] else [x]) by
     rw [List.take_add_one,hx,List.filter_append]
     rcases hp:p x with _ | _ <;> simp [hp])
    have HXX:=hid hx
    clear hx hb
    go_wp2_with fail
    refine (HX.out _ (HKr.out.trans (Keeps.up ((Keeps.refl _ _).alloc _)))).mono ?_
    rintro e w2 ⟨rfl,hk2⟩
    obtain⟨y0,y1,_,yl⟩:=cells2 (block_keep (alloc_new (w:=wr)) hk2 (fun h=>h))
    have hb2:=block_keep (alloc_old HB.out.1) hk2 (fun h=>h)
    have HB2:=hid hb2
    have HK2:=hid (((Keeps.refl (fun _=>False) wr).alloc _).trans hk2)
    rcases hp:p x with _ | _
    ·have HP:=hid hp
     have hs2:i * 2+1<c.size:=by rw [HB.out.2.1];have:=HS.out;omega
     obtain⟨z0,hz0⟩:∃ z,c[i * 2]?=some z:=⟨_,Array.getElem?_eq_getElem (by omega)⟩
     obtain⟨z1,hz1⟩:∃ z,c[i * 2+1]?=some z:=⟨_,Array.getElem?_eq_getElem hs2⟩
     have i0:=cell_at hb2 hz0
     have i1:=cell_at hb2 hz1
     have f0:=frozen_block hb2 (i * 2);have f1:=frozen_block hb2 (i * 2+1)
     have hgl2:=lt_block hb2
     clear hk2 hp hb2 hz0 hz1
     go_wp2_with fail
     refine⟨⟨i+1,j+1,_,by go_num,by go_num,by omega,by omega,?_,?_,hid ⟨set_block (set_block HB2.out (i * 2) _) (i * 2+1) _,by simp [HB.out.2.1],?_,?_⟩⟩,by simp [intOf];omega⟩
     ·refine hid ?_
      rw [HTK.out,HP.out];simp [HLen.out]
     ·refine hid ?_
      exact ((HKr.out.trans HK2.out.up).setCell (p:=⟨g,_,none⟩) (.inl rfl) _).setCell (p:=⟨g,_,none⟩) (.inl rfl) _
     ·have:=HB.out.2.2.1.snoc x (by rw [HLen.out];exact hs2)
      rw [HLen.out] at this
      rw [HTK.out,HP.out]
      exact this
     ·intro m q hm hq
      obtain⟨h0,h1⟩:=HB.out.2.2.2 m q (by omega) hq
      exact⟨by rw [Array.getElem?_setIfInBounds_ne (by omega),Array.getElem?_setIfInBounds_ne (by omega)];exact h0,by rw [Array.getElem?_setIfInBounds_ne (by omega),Array.getElem?_setIfInBounds_ne (by omega)];exact h1⟩
    ·have HP:=hid hp
     clear hk2 hp hb2
     go_wp2_with fail
     refine⟨⟨i,j+1,c,rfl,by go_num,by omega,by omega,?_,hid (HKr.out.trans HK2.out.up),hid ⟨HB2.out,HB.out.2.1,?_,?_⟩⟩,by simp [intOf];omega⟩
     ·refine hid ?_
      rw [HTK.out,HP.out];simp [HLen.out]
     ·rw [HTK.out,HP.out];simpa using HB.out.2.2.1
     ·exact fun m q hm hq=>HB.out.2.2.2 m q (by omega) hq
   ·obtain rfl:j=l.length:=by omega
    have hnl:¬ ((l.length:Nat):Int)<(l.length:Int):=by omega
    have hi0:(0:Int)≤i:=by omega
    have hi1:(i:Int)≤(l.length:Int):=by omega
    have hi2:(i:Int)≤256:=by omega
    have hb:=HB.out.1
    have hsz:=HS.out
    have hin:∀ j,j<(l.length - i) * 2→i * 2+j<c.size:=fun j hj=>by rw [HB.out.2.1];omega
    obtain⟨vs,hvs,hcl⟩:=run_clear_refs wr g (i * 2) (l.length - i) (cap - i) (by omega) (fun j hj=>by rw [cell_block hb,Array.getElem?_eq_getElem (hin j hj)];rfl) (fun j _=>frozen_block hb _)
    obtain⟨c',q1,q2,q3⟩:=setCells_block g vs (i * 2) wr c _ hb (by rw [hvs,HB.out.2.1];omega)
    have HQ:=hid q1;have HQ3:=hid q3;have HQS:=hid (q2.trans HB.out.2.1)
    have HKC:=hid (setCells_keeps g vs (i * 2) wr)
    have hicap:¬ i=cap:=by omega
    have HTL:=hid (show l.take l.length=l from List.take_length)
    obtain⟨W2,hW2⟩:∃ W2,wr.setCells g (i * 2) vs=W2:=⟨_,rfl⟩
    rw [hW2] at hcl HQ HKC
    clear hb hin q1 q2 q3 hvs hW2 hsz
    go_wp2_with fail
    go_ret
    refine⟨.slice (some ⟨g,0,none⟩) i cap,rfl,c',HQ.out,?_,HQS.out,?_,HKr.out.trans HKC.out⟩
    ·have:=HLen.out
     rw [HTL.out] at this
     rw [this]
    ·intro m r hm
     have hml:m<i:=by
      have h1:=(List.getElem?_eq_some_iff.1 hm).1
      have:=HLen.out
      rw [HTL.out] at this
      omega
     have h1:=HB.out.2.2.1
     rw [HTL.out] at h1
     obtain⟨h2,h3⟩:=h1 m r hm
     exact⟨by rw [HQ3.out,if_neg (by omega)];exact h2,by rw [HQ3.out,if_neg (by omega)];exact h3⟩
 ·have HN:=hid (HFI.out _ hno)
  clear hno
  go_wp2_with fail
  go_ret
  refine⟨.slice (some ⟨g,0,none⟩) l.length cap,rfl,cur,block_keep HG.out HK1.out (fun h=>h),?_,rfl,?_,HK1.out.up⟩
  ·rw [HN.out]
  ·rw [HN.out];exact HC.out
end Go.Proofs.YtnlkfbndlngjaaaGreat
namespace Go.Proofs.YtnlkfbndlngjaaaGreat
open Go.RowKit
theorem firsts_take:∀ (l:List Rf) (c:Array Value),Firsts c l→l.length * 2≤c.size→c.toList.take (l.length * 2)=l.flatMap encR:=by
 intro l c h hs
 apply List.ext_getElem?
 intro i
 by_cases hi:i<l.length * 2
 ·rw [List.getElem?_take_of_lt hi,Array.getElem?_toList]
  obtain⟨r,hr⟩:∃ r,l[i / 2]?=some r:=⟨_,List.getElem?_eq_getElem (by omega)⟩
  obtain⟨a,b⟩:=h _ r hr
  obtain⟨a',b'⟩:=encR_at hr
  by_cases e:i % 2=0
  ·rw [show i=i / 2 * 2 by omega,a,a']
  ·rw [show i=i / 2 * 2+1 by omega,b,b']
 ·have hl:(l.flatMap encR).length=l.length * 2:=by
   clear h hs hi
   induction l with
   | nil=>rfl
   | cons x l ih=>simp only [List.flatMap_cons,List.length_append,ih,List.length_cons,encR,List.length_nil];omega
  rw [List.getElem?_eq_none (by rw [List.length_take];omega),List.getElem?_eq_none (by omega)]
theorem row_of {w:World} {base g cap:Nat} {c:Array Value} {l:List Rf} (hb:base≤g) (hg:w.heap[g]?=some (.cells c 34)) (h1:l.length≤cap) (h2:cap≤maxLen) (h3:c.size=cap * 2) (hf:Firsts c l):
 Row w base (.slice (some ⟨g,0,none⟩) l.length cap) l:=by
 have ht:=firsts_take l c hf (by omega)
 refine⟨?_,.inr ⟨g,cap,c,rfl,hb,hg,h1,h2,h3,ht⟩⟩
 have hm:min (l.length * 2) c.size=l.length * 2:=Nat.min_eq_left (by omega)
 rw [← ht,List.length_take,Array.length_toList]
 exact hm
theorem glall1 (r:Rf) (w:World):Calls Tryz.prog 270 #[.agg #[.int .i64 r.s,.int .u32 r.g]] w fun e w'=>e = .returned (.bool (!r.nz))∧Keeps (fun _=>False) w w':=by
 have ez:=eql_no r
 go_enter Tryz.func270,Tryz.ntmps270
 go_wp2_with fail
 go_ret
 exact⟨rfl,(by repeat (first | exact Keeps.refl _ _ | apply Keeps.alloc | apply Keeps.drewN | apply Keeps.drew))⟩
def glV (f:Nat→Rf):List Rf:=(List.range 8).map f
theorem eq_none {f:Nat→Rf}:((List.range 8).all fun i=>(f i).s == (Rf.no).s && (f i).g == (Rf.no).g)=true↔∀ i,i<8→f i = .no:=by
 rw [List.all_eq_true]
 constructor
 ·intro h i hi
  have:=h i (List.mem_range.2 hi)
  simp only [Bool.and_eq_true,beq_iff_eq] at this
  obtain⟨a,b⟩:=this
  rcases hf:f i with⟨s,g⟩
  rw [hf] at a b
  simp only at a b
  subst a;subst b;rfl
 ·intro h i hi
  rw [h i (List.mem_range.1 hi)];rfl
theorem glall_row (b:Nat) (f:Nat→Rf) (w:World) (h:GlAt w b f):
 Calls Tryz.prog 262 #[.pointer (some ⟨b,0,none⟩)] w fun e w'=>∃ v,e = .returned v∧Row w' w.heap.size v ((glV f).filter (·.nz))∧Keeps (fun _=>False) w w':=by
 by_cases hn:∀ i,i<8→f i = .no
 ·obtain⟨c,hc,hC⟩:=h
  have h':GlAt w b (fun _=>.no):=⟨c,hc,hC.size,hC.made,fun i hi=>by have:=hC.row i hi;rw [hn i hi] at this;exact this,fun _=>Rf.no_wf⟩
  refine (glall_none b w h').mono ?_
  rintro e w' ⟨rfl,hk⟩
  refine⟨_,rfl,?_,hk⟩
  rw [show (glV f).filter (·.nz)=[] from ?_]
  ·exact Row.nil _ _
  rw [List.filter_eq_nil_iff]
  intro r hr
  obtain⟨i,hi,rfl⟩:=List.mem_map.1 hr
  rw [hn i (List.mem_range.1 hi)];decide
 ·have heq:∀ w,Sem.run Tryz.prog (binOp .eql 164 (.agg (varsArr f)) (.agg (varsArr (fun _=>Rf.no)))) w = .ok (.bool false) w:=fun w=>(eq_vars f (fun _=>Rf.no) w).trans (by
   rw [Bool.eq_false_iff.2 (fun hh=>hn (eq_none.1 hh))])
  simp only [varsArr,Rf.no] at heq
  obtain⟨c,hc,hC⟩:=h
  have c1:=cell_at hc (hC.row 0 (by omega)).1
  have c2:=cell_at hc (hC.row 0 (by omega)).2
  have c3:=cell_at hc (hC.row 1 (by omega)).1
  have c4:=cell_at hc (hC.row 1 (by omega)).2
  have c5:=cell_at hc (hC.row 2 (by omega)).1
  have c6:=cell_at hc (hC.row 2 (by omega)).2
  have c7:=cell_at hc (hC.row 3 (by omega)).1
  have c8:=cell_at hc (hC.row 3 (by omega)).2
  have c9:=cell_at hc (hC.row 4 (by omega)).1
  have c10:=cell_at hc (hC.row 4 (by omega)).2
  have c11:=cell_at hc (hC.row 5 (by omega)).1
  have c12:=cell_at hc (hC.row 5 (by omega)).2
  have c13:=cell_at hc (hC.row 6 (by omega)).1
  have c14:=cell_at hc (hC.row 6 (by omega)).2
  have c15:=cell_at hc (hC.row 7 (by omega)).1
  have c16:=cell_at hc (hC.row 7 (by omega)).2
  simp only [Nat.zero_mul,Nat.one_mul,Nat.reduceMul,Nat.reduceAdd] at c1 c2 c3 c4 c5 c6 c7 c8 c9 c10 c11 c12 c13 c14 c15 c16
  have hbl:=lt_block hc
  have hlen:(glV f).length=8:=by simp [glV]
  have HCL:=hid (rclone_ok b 1 8 8 (glV f) w hlen (by omega) (fun j u hj=>by
   rw [cell_block hc]
   exact hC.row.news (n:=8) (by omega) hj) hbl)
  have HLN:=hid hlen
  have e1:=enters_of Tryz.func270 (by kernel_rfl) rfl
  clear hc hC hn hlen
  go_enter Tryz.func262,Tryz.ntmps262
  go_wp2_with fail
  refine HCL.out.mono ?_
  rintro e w1 ⟨v,rfl,hr1,hk1⟩
  have hck:∃ g cap cur,v = .slice (some ⟨g,0,none⟩) (glV f).length cap∧w.heap.size≤g∧w1.heap[g]?=some (.cells cur 34)∧Firsts cur (glV f)∧(glV f).length≤cap∧cap≤maxLen∧cur.size=cap * 2:=by
   have h0:=HLN.out
   obtain⟨h1,h2⟩:=hr1
   rcases h2 with⟨rfl,h2⟩ | ⟨g,cap,cur,rfl,hb,hg,r1,r2,r3,r4⟩
   ·omega
   ·refine⟨g,cap,cur,rfl,hb,hg,fun j r hj=>?_,r1,r2,r3⟩
    have hlt:j<(glV f).length:=(List.getElem?_eq_some_iff.1 hj).1
    obtain⟨a,b⟩:=encR_at hj
    rw [← r4] at a b
    rw [List.getElem?_take_of_lt (by omega),Array.getElem?_toList] at a b
    exact⟨a,b⟩
  obtain⟨g,cap,cur,rfl,hgb,hg,hcur,hcap,hmax,hsz⟩:=hck
  have HD:=hid (rdelete2 270 #[] (fun r=>!r.nz) g cap cur (glV f) w1 hg hcur (by rw [HLN.out];decide) hcap (by omega) e1 (fun x _ W _=>glall1 x W))
  have HK1:=hid hk1;have HCAP:=hid hcap;have HMAX:=hid hmax;have HSZ:=hid hsz
  clear hr1 hcur hg hcap hmax hsz hk1
  go_wp2_with fail
  refine HD.out.mono ?_
  rintro e w2 ⟨_,rfl,c2,hg2,rfl,hs2,hf2,hk2⟩
  go_wp2
  go_ret
  have hll:((glV f).filter (fun x=>!(!x.nz))).length≤(glV f).length:=List.length_filter_le _ _
  have hee:(glV f).filter (fun x=>!(!x.nz))=(glV f).filter (·.nz):=by congr 1;funext x;simp
  rw [hee] at hf2 hll
  refine⟨_,rfl,row_of hgb hg2 (by have:=HCAP.out;omega) HMAX.out (by rw [hs2];exact HSZ.out) hf2,?_⟩
  ·exact ((HK1.out.up (T:=fun y=>w.heap.size≤y)).trans' hk2 (U:=fun y=>w.heap.size≤y) (fun _ _ h=>h) (fun k _ h=>by rw [h];exact hgb)).fresh
theorem aglobals_row (a:Nat) (L:ArL) (A:Ar) (w:World) (h:ArIn w a L A):
 Calls Tryz.prog 236 #[.pointer (some ⟨a,0,none⟩)] w fun e w'=>∃ v,e = .returned v∧Row w' w.heap.size v A.glL∧Keeps (fun _=>False) w w':=by
 have c0:=h.c0;have c7:=h.c7
 have HA:=hid (fun w' (hk:Keeps (fun _=>False) w w')=>glall_row L.g A.gl w' ((h.keeps0 hk).gl))
 clear h
 go_enter Tryz.func236,Tryz.ntmps236
 go_wp2_with fail
 refine ((avalid a L.o _ c0)).mono ?_
 rintro e w' ⟨rfl,h'⟩
 obtain rfl:=h'.symm
 go_wp2_with fail
 refine (HA.out _ (Keeps.refl _ _)).mono ?_
 rintro e w1 ⟨v,rfl,hv,hk⟩
 go_wp2
 go_ret
 exact⟨v,rfl,hv,hk⟩
theorem aglobals_any (a:Nat) (L:ArL) (A:Ar) (w:World) (h:ArIn w a L A):
 Calls Tryz.prog 236 #[.pointer (some ⟨a,0,none⟩)] w fun e w'=>∃ v,e = .returned v∧Refs w' v A.glL∧Keeps (fun _=>False) w w'∧(∀ k,v.ownBlock=some k→w.heap.size≤k):=by
 refine (aglobals_row a L A w h).mono ?_
 rintro e w' ⟨v,rfl,h1,h2⟩
 exact⟨v,rfl,h1.refs,h2,fun k hk=>(h1.lt k hk).1⟩
end Go.Proofs.YtnlkfbndlngjaaaGreat
