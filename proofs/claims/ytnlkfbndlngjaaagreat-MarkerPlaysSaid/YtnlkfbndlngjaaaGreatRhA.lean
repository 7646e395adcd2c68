import Derived.Test.YtnlkfbndlngjaaaGreatRgI
set_option maxHeartbeats 1000000
set_option maxRecDepth 100000
namespace Go.Proofs.YtnlkfbndlngjaaaGreat
open Go.RowKit
attribute [local go_sem] Oper.semAt_some
set_option linter.unusedVariables false
set_option linter.unusedSimpArgs false
theorem bool_info:∃ i,Tryz.prog.info? 4=some i∧i.zero=some (.bool false)∧i.size=1∧i.bytes=1:=by
 refine⟨_,rfl,?_,?_,?_⟩ <;> kernel_rfl
theorem made_bools {m:Nat} (h1:1≤m) (h4:m≤4):∃ C:Array Value,(∀ W:World,(Instr.makeSlice 203 (.int .i64 m) (.int .i64 m)).run Tryz.prog W = .ok (.slice (some ⟨W.heap.size,0,none⟩) m m) (W.alloc (.cells C 4)))∧∀ j,j<m→C[j]?=some (.bool false):=by
 obtain⟨ri,hi1,hi2,hi3,hi4⟩:=bool_info
 refine⟨madeCells (Value.bool false).cells (m * 1),fun W=>?_,?_⟩
 ·have:=run_makeSlice (P:=Tryz.prog) W 203 4 ri (.bool false) Tryz.underlying203 hi1 hi2 .i64 .i64 m m (by omega) (by omega) (by rw [hi3,Int.toNat_natCast];omega) (by rw [hi4];omega) (by omega)
  rw [hi3,Int.toNat_natCast] at this
  exact this
 ·intro j hj
  rw [← Array.getElem?_toList]
  show (madeCells #[Value.bool false] (m * 1)).toList[j]?=_
  rw [toList_madeCells_one,List.getElem?_replicate,if_pos (by omega)]
theorem made_ints {m:Nat} (h1:1≤m) (h4:m≤256):∃ C:Array Value,(∀ W:World,(Instr.makeSlice 200 (.int .i64 m) (.int .i64 m)).run Tryz.prog W = .ok (.slice (some ⟨W.heap.size,0,none⟩) m m) (W.alloc (.cells C 3)))∧∀ j,j<m→C[j]?=some (.int .i64 0):=by
 obtain⟨ri,hi1,hi2,hi3,hi4⟩:=int_info
 refine⟨madeCells (Value.int .i64 0).cells (m * 1),fun W=>?_,?_⟩
 ·have:=run_makeSlice (P:=Tryz.prog) W 200 3 ri (.int .i64 0) Tryz.underlying200 hi1 hi2 .i64 .i64 m m (by omega) (by omega) (by rw [hi3,Int.toNat_natCast];omega) (by rw [hi4];omega) (by omega)
  rw [hi3,Int.toNat_natCast] at this
  exact this
 ·intro j hj
  rw [← Array.getElem?_toList]
  show (madeCells #[Value.int .i64 0] (m * 1)).toList[j]?=_
  rw [toList_madeCells_one,List.getElem?_replicate,if_pos (by omega)]
theorem cells4f {w:World} {b:Nat} {v0 v1 v2 v3:Value} {t:TypeId} (h:w.heap[b]?=some (.cells #[v0,v1,v2,v3] t)):
 w.cell? ⟨b,0,none⟩=some v0∧w.cell? ⟨b,1,none⟩=some v1∧w.cell? ⟨b,2,none⟩=some v2∧w.cell? ⟨b,3,none⟩=some v3∧(∀ i,w.frozen? ⟨b,i,none⟩=false)∧b<w.heap.size:=
 ⟨cell_at h rfl,cell_at h rfl,cell_at h rfl,cell_at h rfl,frozen_block h,lt_block h⟩
theorem cells7f {w:World} {b:Nat} {v0 v1 v2 v3 v4 v5 v6:Value} {t:TypeId} (h:w.heap[b]?=some (.cells #[v0,v1,v2,v3,v4,v5,v6] t)):
 w.cell? ⟨b,0,none⟩=some v0∧w.cell? ⟨b,1,none⟩=some v1∧w.cell? ⟨b,2,none⟩=some v2∧w.cell? ⟨b,3,none⟩=some v3∧w.cell? ⟨b,4,none⟩=some v4∧w.cell? ⟨b,5,none⟩=some v5∧w.cell? ⟨b,6,none⟩=some v6∧(∀ i,w.frozen? ⟨b,i,none⟩=false)∧b<w.heap.size:=
 ⟨cell_at h rfl,cell_at h rfl,cell_at h rfl,cell_at h rfl,cell_at h rfl,cell_at h rfl,cell_at h rfl,frozen_block h,lt_block h⟩
structure R22 (w:World) (b s:Nat) (K:Ck):Prop where
 own:∃ cap,w.heap[b]?=some (.cells #[.bool true,.int .i64 K.ph,.slice (some ⟨s,0,none⟩) K.many cap,.int .i64 K.cy] 205)
 row:∃ cur,w.heap[s]?=some (.cells cur 4)∧∀ i,i<K.many→cur[i]?=some (.bool (K.seen i))
 m1:1≤K.many
 m4:K.many≤4
 p5:K.ph≤5
 off:∀ i,K.many≤i→K.seen i=false
section
variable {w w':World} {b s:Nat} {K:Ck} {S:Nat→Prop}
theorem R22.keeps (h:R22 w b s K) (hk:Keeps S w w') (h1:¬ S b) (h2:¬ S s):R22 w' b s K:=by
 obtain⟨⟨cap,o⟩,⟨cur,r,hr⟩,a,c,d,f⟩:=h
 exact⟨⟨cap,block_keep o hk h1⟩,⟨cur,block_keep r hk h2,hr⟩,a,c,d,f⟩
theorem R22.k0 (h:R22 w b s K) (hk:Keeps (fun _=>False) w w'):R22 w' b s K:=h.keeps hk (fun h=>h) (fun h=>h)
theorem valid22 (b:Nat) (w:World) (h:w.cell? ⟨b,0,none⟩=some (.bool true)):Calls Tryz.prog 216 #[.pointer (some ⟨b,0,none⟩)] w fun e w'=>e = .returned (.bool true)∧w'=w:=by
 go_enter Tryz.func216,Tryz.ntmps216
 go_wp2
 go_ret
 exact⟨rfl,rfl⟩
theorem phase22 (h:R22 w b s K):Calls Tryz.prog 136 #[.pointer (some ⟨b,0,none⟩)] w fun e w'=>e = .returned (.int .i64 K.ph)∧w'=w:=by
 obtain⟨⟨cap,o⟩,_⟩:=h
 obtain⟨c0,c1,_⟩:=cells4 o
 have HV:=hid (valid22 b w c0)
 clear o
 go_enter Tryz.func136,Tryz.ntmps136
 go_wp2_with fail
 refine (HV.out).mono ?_
 rintro e w' ⟨rfl,h'⟩
 obtain rfl:=h'.symm
 go_wp2_with fail
 go_ret
 exact⟨rfl,rfl⟩
theorem seen22_range (i:Int) (h:R22 w b s K) (hi:i<0∨(K.many:Int)≤i):Calls Tryz.prog 214 #[.pointer (some ⟨b,0,none⟩),.int .i64 i] w fun e w'=>e = .returned (.tuple #[.bool false,.int .i64 3])∧w'=w:=by
 obtain⟨⟨cap,o⟩,_⟩:=h
 obtain⟨c0,c1,c2,_⟩:=cells4 o
 have HV:=hid (valid22 b w c0)
 clear o
 rcases hi with hi | hi
 ·go_enter Tryz.func214,Tryz.ntmps214
  go_wp2_with fail
  refine (HV.out).mono ?_
  rintro e w' ⟨rfl,h'⟩
  obtain rfl:=h'.symm
  go_wp2_with fail
  go_ret2
  exact⟨rfl,rfl⟩
 ·by_cases h0:i<0
  all_goals
   go_enter Tryz.func214,Tryz.ntmps214
   go_wp2_with fail
   refine (HV.out).mono ?_
   rintro e w' ⟨rfl,h'⟩
   obtain rfl:=h'.symm
   go_wp2_with fail
   go_ret2
   exact⟨rfl,rfl⟩
theorem seen22_ok (i:Nat) (h:R22 w b s K) (hi:i<K.many):Calls Tryz.prog 214 #[.pointer (some ⟨b,0,none⟩),.int .i64 i] w fun e w'=>e = .returned (.tuple #[.bool (K.seen i),.int .i64 0])∧w'=w:=by
 obtain⟨⟨cap,o⟩,⟨cur,hr,hc⟩,_⟩:=h
 obtain⟨c0,c1,c2,_⟩:=cells4 o
 have HV:=hid (valid22 b w c0)
 have d0:=cell_at hr (hc i hi)
 have hi0:¬ (i:Int)<0:=by omega
 have hi1:¬ (K.many:Int)≤(i:Int):=by omega
 have hi2:(i:Int)<(K.many:Int):=by omega
 have hi3:(0:Int)≤(i:Int):=by omega
 clear o hr hc
 go_enter Tryz.func214,Tryz.ntmps214
 go_wp2_with fail
 refine (HV.out).mono ?_
 rintro e w' ⟨rfl,h'⟩
 obtain rfl:=h'.symm
 go_wp2_with fail
 go_ret2
 exact⟨rfl,rfl⟩
theorem shakes22 (h:R22 w b s K):Calls Tryz.prog 215 #[.pointer (some ⟨b,0,none⟩)] w fun e w'=>e = .returned (.bool (K.ph == 1 || K.ph == 2))∧w'=w:=by
 obtain⟨⟨cap,o⟩,_⟩:=h
 obtain⟨c0,c1,c2,_⟩:=cells4 o
 obtain⟨p,hp⟩:∃ p,K.ph=p:=⟨_,rfl⟩
 rw [hp] at c1 ⊢
 clear o hp
 by_cases h1:p=1
 ·subst h1
  go_enter Tryz.func215,Tryz.ntmps215
  go_wp2_with fail
  go_ret
  exact⟨rfl,rfl⟩
 ·by_cases h2:p=2
  ·subst h2
   go_enter Tryz.func215,Tryz.ntmps215
   go_wp2_with fail
   go_ret
   exact⟨rfl,rfl⟩
  ·have e1:((p:Int) == 1)=false:=by simp;omega
   have e2:((p:Int) == 2)=false:=by simp;omega
   have e3:(p == 1 || p == 2)=false:=by simp [h1,h2]
   rw [e3]
   clear h1 h2 e3
   go_enter Tryz.func215,Tryz.ntmps215
   go_wp2_with fail
   go_ret
   exact⟨rfl,rfl⟩
theorem ack22_range (i:Int) (h:R22 w b s K) (hi:i<0∨(K.many:Int)≤i):Calls Tryz.prog 135 #[.pointer (some ⟨b,0,none⟩),.int .i64 i] w fun e w'=>e = .returned (.tuple #[.bool false,.int .i64 3])∧w'=w:=by
 have HS:=hid (seen22_range i h hi)
 clear h hi
 go_enter Tryz.func135,Tryz.ntmps135
 go_wp2_with fail
 refine (HS.out).mono ?_
 rintro e w' ⟨rfl,h'⟩
 obtain rfl:=h'.symm
 go_wp2_with fail
 go_ret2
 exact⟨rfl,rfl⟩
theorem ack22_state (i:Nat) (h:R22 w b s K) (hi:i<K.many) (h1:K.ph≠1) (h2:K.ph≠2):Calls Tryz.prog 135 #[.pointer (some ⟨b,0,none⟩),.int .i64 i] w fun e w'=>e = .returned (.tuple #[.bool false,.int .i64 8])∧w'=w:=by
 have HS:=hid (seen22_ok i h hi)
 have HK:=hid (shakes22 h)
 rw [show (K.ph == 1 || K.ph == 2)=false by simp [h1,h2]] at HK
 obtain⟨B,hB⟩:∃ B,K.seen i=B:=⟨_,rfl⟩
 rw [hB] at HS
 clear h hi h1 h2 hB
 go_enter Tryz.func135,Tryz.ntmps135
 go_wp2_with fail
 refine (HS.out).mono ?_
 rintro e w' ⟨rfl,h'⟩
 obtain rfl:=h'.symm
 go_wp2_with fail
 refine (HK.out).mono ?_
 rintro e w' ⟨rfl,h'⟩
 obtain rfl:=h'.symm
 go_wp2_with fail
 go_ret2
 exact⟨rfl,rfl⟩
theorem to22 (p:Nat) (hp:p≤5) (h:R22 w b s K):Calls Tryz.prog 220 #[.pointer (some ⟨b,0,none⟩),.int .i64 p] w fun e w'=>e = .returned (.tuple #[])∧Keeps (fun y=>y=b) w w'∧∃ s',w.heap.size≤s'∧R22 w' b s' (K.to p):=by
 obtain⟨⟨cap,o⟩,_,m1,m4,_,_⟩:=h
 obtain⟨C,hC,hC2⟩:=made_bools m1 m4
 have HC:=hid hC2
 have HO:=hid o
 obtain⟨c0,c1,c2,c3,cf,cl⟩:=cells4f o
 have cf1:=cf 1;have cf2:=cf 2
 clear hC2 o cf
 go_enter Tryz.func220,Tryz.ntmps220
 go_wp2_with fail
 go_end0
 refine⟨rfl,?_,w.heap.size,Nat.le_refl _,⟨⟨K.many,?_⟩,⟨C,?_,HC.out⟩,m1,m4,hp,fun _ _=>rfl⟩⟩
 ·repeat (first | (with_reducible exact (Keeps.refl _ _)) | with_reducible refine Keeps.setCell ?_ ?_ _ | with_reducible refine Keeps.alloc ?_ _ | with_reducible refine Keeps.drewN ?_ _ | with_reducible refine Keeps.drew ?_)
  all_goals first | (left;simp;done) | (left;simp;omega) | (right;simp;done) | (right;simp;omega)
 ·exact alloc_old (set_block (set_block HO.out 1 (.int .i64 p)) 2 (.slice (some ⟨w.heap.size,0,none⟩) K.many K.many))
 ·exact alloc_new' (by simp)
theorem begin22 (h:R22 w b s K) (hp:K.ph=0):Calls Tryz.prog 144 #[.pointer (some ⟨b,0,none⟩)] w fun e w'=>e = .returned (.int .i64 0)∧Keeps (fun y=>y=b) w w'∧∃ s',w.heap.size≤s'∧R22 w' b s' (K.to 1):=by
 have HT:=hid (to22 1 (by decide) h)
 obtain⟨⟨cap,o⟩,_⟩:=h
 obtain⟨c0,c1,c2,c3,cf,cl⟩:=cells4f o
 have HV:=hid (valid22 b w c0)
 rw [hp] at c1
 clear o cf hp
 go_enter Tryz.func144,Tryz.ntmps144
 go_wp2_with fail
 refine (HV.out).mono ?_
 rintro e w' ⟨rfl,h'⟩
 obtain rfl:=h'.symm
 go_wp2_with fail
 refine HT.out.mono ?_
 rintro e w1 ⟨rfl,k1,s',hs,h1⟩
 have H1:=hid (And.intro k1 (And.intro hs h1))
 clear k1 hs h1
 go_wp2_with fail
 go_ret
 exact⟨rfl,H1.out.1,s',H1.out.2⟩
theorem new22_ok (m:Nat) (w:World) (h1:1≤m) (h4:m≤4):Calls Tryz.prog 62 #[.int .i64 m] w fun e w'=>∃ b,e = .returned (.tuple #[.pointer (some ⟨b,0,none⟩),.int .i64 0])∧Keeps (fun _=>False) w w'∧w.heap.size≤b∧∃ s,w.heap.size≤s∧R22 w' b s ⟨0,m,0,fun _=>false⟩:=by
 obtain⟨C,hC,hC2⟩:=made_bools h1 h4
 have HC:=hid hC2
 have e1:¬ (m:Int)<1:=by omega
 have e4:¬ 4<(m:Int):=by omega
 clear hC2
 go_enter Tryz.func62,Tryz.ntmps62
 go_wp2_with fail
 go_ret2
 exact⟨_,rfl,((Keeps.refl _ _).alloc _).alloc _,by simp,w.heap.size,Nat.le_refl _,⟨⟨m,alloc_new' (by simp)⟩,⟨C,alloc_old alloc_new,HC.out⟩,h1,h4,by show (0:Nat)≤5;decide,fun _ _=>rfl⟩⟩
theorem new21_ok (n:Nat) (w:World) (h1:1≤n) (h4:n≤64):Calls Tryz.prog 123 #[.int .i64 n] w fun e w'=>e = .returned (.tuple #[.pointer (some ⟨w.heap.size,0,none⟩),.int .i64 0])∧Keeps (fun _=>False) w w'∧w'.heap[w.heap.size]?=some (.cells #[.int .i64 n,.slice none 0 0,.bool false] 258):=by
 have e1:¬ (n:Int)<1:=by omega
 have e4:¬ 64<(n:Int):=by omega
 go_enter Tryz.func123,Tryz.ntmps123
 go_wp2_with fail
 go_ret2
 exact⟨rfl,(Keeps.refl _ _).alloc _,alloc_new⟩
theorem buf_info:∃ i,Tryz.prog.info? 210=some i∧i.zero=some (.pointer none)∧i.size=1∧i.bytes=8:=by
 refine⟨_,rfl,?_,?_,?_⟩ <;> kernel_rfl
def BRow (w:World) (base:Nat) (v:Value) (l:List Value):Prop:=w.ownsRow base 210 1 v l.length l
theorem BRow.keeps {S:Nat→Prop} {base:Nat} {v:Value} {l:List Value} (h:BRow w base v l) (hk:Keeps S w w') (hS:∀ k,base≤k→k<w.heap.size→v.ownBlock=some k→¬ S k):BRow w' base v l:=by
 obtain⟨h1,h2⟩:=h
 refine⟨h1,?_⟩
 rcases h2 with h2 | ⟨g,cap,cur,rfl,hb,hg,r1,r2,r3,r4⟩
 ·exact .inl h2
 ·exact .inr ⟨g,cap,cur,rfl,hb,block_keep hg hk (hS g hb (lt_block hg) rfl),r1,r2,r3,r4⟩
theorem BRow.ne {base z:Nat} {v:Value} {l:List Value} {c:Array Value} {t:TypeId} (h:BRow w base v l) (hz:w.heap[z]?=some (.cells c t)) (ht:210≠t):¬ v.ownBlock=some z:=by
 intro e
 rcases h.2 with⟨rfl,_⟩ | ⟨g,cap,cur,rfl,_,hg,_⟩
 ·cases e
 ·obtain rfl:g=z:=Option.some.inj e
  exact type_ne hg hz ht rfl
theorem BRow.slice {base:Nat} {v:Value} {l:List Value} (h:BRow w base v l):∃ a c,v = .slice a l.length c:=own_shape h
theorem BRow.lt {base:Nat} {v:Value} {l:List Value} (h:BRow w base v l):∀ k,v.ownBlock=some k→base≤k∧k<w.heap.size:=World.ownsRow.lt h
theorem run_append_buf (ty:TypeId) (base:Nat) (v q:Value) (l:List Value) (g:Nat) (w:World) (hv:BRow w base v l) (hg:w.heap[g]?=some (.cells #[q] 210)) (hq:q.oneCell'=true) (h1:l.length≤1000) (hb:base≤w.heap.size):
 ∃ v' w',(Builtin.append_ #[132,132] ty #[v,.slice (some ⟨g,0,none⟩) 1 1]).run Tryz.prog w = .ok v' w'∧BRow w' base v' (l ++ [q])∧Keeps (fun k=>v.ownBlock=some k) w w'∧(v'.ownBlock=v.ownBlock∨v'.ownBlock=some w.heap.size):=by
 obtain⟨ri,hi1,hi2,hi3,hi4⟩:=buf_info
 obtain⟨v',w',r1,r2,r3,_,r5⟩:=run_append_own_at (P:=Tryz.prog) w base 132 ty 210 ri (.pointer none) 1 8 Tryz.underlying132 hi1 hi2 hi3 hi4 rfl (by decide) v l.length l hv ⟨g,0,none⟩ 1 1 [q] rfl
  (fun j x hj=>by
   rw [Addr.add_mid,Nat.zero_add,cell_block hg]
   rw [← List.getElem?_toArray] at hj
   exact hj)
  (fun u hu=>by rw [List.mem_singleton.1 hu];exact hq) (by simp [maxLen];omega) (by omega) hb
 refine⟨v',w',r1,?_,(grown_keeps r3).mono (fun k _ h=>h),r5⟩
 unfold BRow
 rw [List.length_append]
 exact r2
theorem wpList_append_buf {ops:Array Oper} {rest:List Oper} {o:Oper} {a:Act} {Q:Exit→Act→World→Prop} (w:World) (hgd:o.guard=none) (s x:Operand)
 (ho:o.op = .call { callee:=.builtin .append,args:=#[s,x],argTypes:=#[132,132] })
 (base g:Nat) (v q:Value) (l:List Value) (hs:a.eval s=v) (hx:a.eval x = .slice (some ⟨g,0,none⟩) 1 1) (hv:BRow w base v l) (hg:w.heap[g]?=some (.cells #[q] 210)) (hq:q.oneCell'=true) (h1:l.length≤1000) (hb:base≤w.heap.size)
 (h:∀ v' w',BRow w' base v' (l ++ [q])→Keeps (fun k=>v.ownBlock=some k) w w'→(v'.ownBlock=v.ownBlock∨v'.ownBlock=some w.heap.size)→wpList Tryz.prog ops Q rest (a.put o.dst v') w'):
 wpList Tryz.prog ops Q (o :: rest) a w:=by
 refine wpList_plain hgd fun K hK=>?_
 obtain⟨v',w',hr,h2,h3,h4⟩:=run_append_buf o.type base v q l g w hv hg hq h1 hb
 unfold Oper.wp execOp
 simp only [ho,resolve,invoke,builtin,Sem.run_bind,Sem.run_pure,Result.andThen_ok,List.map_toArray,List.map_cons,List.map_nil,hs,hx,hr]
 exact hK _ _ (h v' w' h2 h3 h4)
structure K24 (w:World) (m c s n k:Nat) (K:Ck):Prop where
 own:∃ (p:Nat) (vP vS vB:Value),w.heap[m]?=some (.cells #[.int .i64 n,.int .i64 k,.int .i64 p,.pointer (some ⟨c,0,none⟩),vP,vS,vB] 134)
 ck:R22 w c s K
 hm:K.many=k
 n1:1≤n
 n2:n≤256
theorem new24_bad (n k q p:Int) (w:World) (hb:n<1∨256<n∨k<1∨4<k∨q<1∨64<q∨p<1∨64<p):
 Calls Tryz.prog 22 #[.int .i64 n,.int .i64 k,.int .i64 q,.int .i64 p] w fun e w'=>e = .returned (.tuple #[.pointer none,.int .i64 2])∧Keeps (fun _=>False) w w':=by
 have hc:n<1∨(¬ n<1∧256<n)∨(¬ n<1∧¬ 256<n∧k<1)∨(¬ n<1∧¬ 256<n∧¬ k<1∧4<k)∨(¬ n<1∧¬ 256<n∧¬ k<1∧¬ 4<k∧q<1)∨(¬ n<1∧¬ 256<n∧¬ k<1∧¬ 4<k∧¬ q<1∧64<q)∨(¬ n<1∧¬ 256<n∧¬ k<1∧¬ 4<k∧¬ q<1∧¬ 64<q∧p<1)∨(¬ n<1∧¬ 256<n∧¬ k<1∧¬ 4<k∧¬ q<1∧¬ 64<q∧¬ p<1∧64<p):=by omega
 clear hb
 rcases hc with h1 | ⟨h1,h2⟩ | ⟨h1,h2,h3⟩ | ⟨h1,h2,h3,h4⟩ | ⟨h1,h2,h3,h4,h5⟩ | ⟨h1,h2,h3,h4,h5,h6⟩ | ⟨h1,h2,h3,h4,h5,h6,h7⟩ | ⟨h1,h2,h3,h4,h5,h6,h7,h8⟩
 all_goals
  go_enter Tryz.func22,Tryz.ntmps22
  go_wp2_with fail
  go_ret2
  exact⟨rfl,Keeps.refl _ _⟩
theorem valid24 (m:Nat) (n:Int) (w:World) (h:w.cell? ⟨m,0,none⟩=some (.int .i64 n)) (hn:0<n):Calls Tryz.prog 143 #[.pointer (some ⟨m,0,none⟩)] w fun e w'=>e = .returned (.bool true)∧w'=w:=by
 go_enter Tryz.func143,Tryz.ntmps143
 go_wp2
 go_ret
 exact⟨rfl,rfl⟩
section
variable {m c n k x N:Nat} {L:L18} {A:Ar}
theorem check24_ok (h:K24 w m c s n k K) (hR:R18 w x L A) (hn:A.H.T.n=n) (hm:A.many=k):Calls Tryz.prog 134 #[.pointer (some ⟨m,0,none⟩),.pointer (some ⟨x,0,none⟩)] w fun e w'=>e = .returned (.int .i64 0)∧Keeps (fun _=>False) w w':=by
 have H24:=hid h
 have HCP:=hid (copy18 hR)
 have HSZ:=hid (fun W (hk:Keeps (fun _=>False) w W)=>sizes18 (hR.k0 hk))
 rw [hn,hm] at HSZ
 obtain⟨⟨p,vP,vS,vB,o⟩,hc,h3,n1,n2⟩:=h
 obtain⟨c0,c1,c2,c3,c4,c5,c6,cf,cl⟩:=cells7f o
 have HO:=hid o
 have HV:=hid (valid24 m n w c0 (by omega))
 clear hR o hc cf c0 c1 c2 c3 c4 c5 c6 hn hm
 go_enter Tryz.func134,Tryz.ntmps134
 go_wp2_with fail
 refine (HV.out).mono ?_
 rintro e w' ⟨rfl,h'⟩
 obtain rfl:=h'.symm
 go_wp2_with fail
 refine HCP.out.mono ?_
 rintro e w1 ⟨x',L',rfl,k1,_,_,_⟩
 have K1:=hid k1
 clear k1
 go_wp2_with fail
 refine (HSZ.out _ K1.out).mono ?_
 rintro e w2 ⟨rfl,k2⟩
 have K2:=hid (K1.out.trans k2)
 obtain⟨c0,c1,c2,c3,c4,c5,c6,cf,_⟩:=cells7f (block_keep HO.out (K1.out.trans k2) (fun h=>h))
 clear k2
 go_wp2_with fail
 go_ret
 exact⟨rfl,K2.out⟩
end
end
end Go.Proofs.YtnlkfbndlngjaaaGreat
