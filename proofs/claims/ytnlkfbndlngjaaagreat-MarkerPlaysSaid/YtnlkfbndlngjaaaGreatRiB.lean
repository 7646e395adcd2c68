import Derived.Test.YtnlkfbndlngjaaaGreatRhA
set_option maxHeartbeats 1000000
set_option maxRecDepth 100000
namespace Go.Proofs.YtnlkfbndlngjaaaGreat
open Go.RowKit
attribute [local go_sem] Oper.semAt_some
set_option linter.unusedVariables false
set_option linter.unusedSimpArgs false
section
variable {w w':World} {b s:Nat} {K:Ck} {S:Nat→Prop}
theorem Ck.all_iff {K:Ck} (h4:K.many≤4) (ho:∀ i,K.many≤i→K.seen i=false):K.all=true↔∀ i,i<K.many→K.seen i=true:=by
 have key:∀ i,(K.seen i == decide (i<K.many))=true↔(i<K.many→K.seen i=true):=fun i=>by
  by_cases hi:i<K.many
  ·simp [hi]
  ·have:=ho i (by omega)
   simp [hi,this]
 unfold Ck.all
 simp only [Bool.and_eq_true,key]
 constructor
 ·rintro⟨⟨⟨h0,h1⟩,h2⟩,h3⟩ i hi
  have:i=0∨i=1∨i=2∨i=3:=by omega
  rcases this with rfl | rfl | rfl | rfl <;> simp_all
 ·intro h
  exact⟨⟨⟨h 0,h 1⟩,h 2⟩,h 3⟩
theorem ready22 (h:R22 w b s K):Calls Tryz.prog 139 #[.pointer (some ⟨b,0,none⟩)] w fun e w'=>e = .returned (.bool K.ready)∧Keeps (fun _=>False) w w':=by
 have HS:=hid (shakes22 h)
 have HA:=hid (Ck.all_iff h.m4 h.off)
 have HRD:=hid (show K.ready=((K.ph == 1 || K.ph == 2) && K.all) from rfl)
 have HB2:=hid (fun W (hk:Keeps (fun _=>False) w W)=>(h.k0 hk))
 have hm4:=h.m4
 obtain⟨⟨cap,o⟩,_⟩:=h
 obtain⟨c0,c1,c2,c3,cl⟩:=cells4 o
 have HV:=hid (valid22 b w c0)
 have HO:=hid o
 obtain⟨m,hm⟩:∃ m,K.many=m:=⟨_,rfl⟩
 have HM:=hid hm
 rw [hm] at HO HA hm4
 obtain⟨R,hR⟩:∃ R,K.ready=R:=⟨_,rfl⟩
 rw [hR] at HRD ⊢
 obtain⟨B,hB⟩:∃ B,(K.ph == 1 || K.ph == 2)=B:=⟨_,rfl⟩
 rw [hB] at HS HRD
 clear o hm hR hB c0 c1 c2 c3
 cases B
 ·rw [show R=false from HRD.out]
  go_enter Tryz.func139,Tryz.ntmps139
  go_wp2_with fail
  refine (HV.out).mono ?_
  rintro e w' ⟨rfl,h'⟩
  obtain rfl:=h'.symm
  go_wp2_with fail
  refine (HS.out).mono ?_
  rintro e w' ⟨rfl,h'⟩
  obtain rfl:=h'.symm
  go_wp2_with fail
  go_ret
  exact⟨rfl,Keeps.refl _ _⟩
 ·go_enter Tryz.func139,Tryz.ntmps139
  go_wp2_with fail
  refine (HV.out).mono ?_
  rintro e w' ⟨rfl,h'⟩
  obtain rfl:=h'.symm
  go_wp2_with fail
  refine (HS.out).mono ?_
  rintro e w' ⟨rfl,h'⟩
  obtain rfl:=h'.symm
  go_wp2_with fail
  go_loopw [3] (fun ix wr=>∃ i:Nat,i≤m∧ix = .int .i64 i∧Hid (Keeps (fun _=>False) w wr)∧Hid (∀ j,j<i→K.seen j=true)) (fun ix _=>m - (intOf ix).toNat)
  case atStart=>exact⟨0,Nat.zero_le _,rfl,hid (Keeps.refl _ _),hid (fun j hj=>by omega)⟩
  case round=>
   obtain⟨i,hi,rfl,HK,HT⟩:=hrel
   have hi0:(0:Int)≤i:=by omega
   obtain⟨c0,c1,c2,c3,cl'⟩:=cells4 (block_keep HO.out HK.out (fun h=>h))
   by_cases hlt:i<m
   ·have hlt':(i:Int)<(m:Int):=by omega
    obtain⟨cur,hr,hc⟩:=(HB2.out _ HK.out).row
    have d0:=cell_at hr (hc i (by rw [HM.out];exact hlt))
    have HSI:=hid (show K.seen i=K.seen i from rfl)
    obtain⟨q,hq⟩:∃ q,K.seen i=q:=⟨_,rfl⟩
    rw [hq] at d0
    have HQ:=hid hq
    obtain⟨s2,hs2⟩:=(HB2.out _ HK.out).own
    have hcs:=(cells4 hs2).2.2.1
    clear hr hc hq hs2
    cases q
    ·have hRf:R=false:=by
      rw [HRD.out]
      cases ha:K.all
      ·rfl
      ·have:=HA.out.1 ha i hlt
       rw [HQ.out] at this;cases this
     subst hRf
     clear hcs
     go_wp2_with fail
     go_ret
     exact⟨rfl,HK.out⟩
    ·have HT':=hid (show ∀ j,j<i+1→K.seen j=true from fun j hj=>by
      by_cases e:j=i
      ·rw [e];exact HQ.out
      ·exact HT.out j (by omega))
     clear hcs
     go_wp2_with fail
     exact⟨⟨i+1,by omega,by go_num,HK,HT'⟩,by simp [intOf];omega⟩
   ·obtain rfl:i=m:=by omega
    have hRt:R=true:=by rw [HRD.out,HA.out.2 HT.out];rfl
    subst hRt
    go_wp2_with fail
    go_ret
    exact⟨rfl,HK.out⟩
end
structure R15 (w:World) (b s:Nat) (P:Pt):Prop where
 own:∃ cap,w.heap[b]?=some (.cells #[.slice (some ⟨s,0,none⟩) P.n cap] 207)
 row:∃ cur,w.heap[s]?=some (.cells cur 3)∧P.n≤cur.size∧∀ i,i<P.n→cur[i]?=some (.int .i64 (P.c i))
 n1:1≤P.n
 n2:P.n≤256
section
variable {w w':World} {b s:Nat} {P:Pt} {S:Nat→Prop}
theorem R15.keeps (h:R15 w b s P) (hk:Keeps S w w') (h1:¬ S b) (h2:¬ S s):R15 w' b s P:=by
 obtain⟨⟨cap,o⟩,⟨cur,r,hr⟩,a,c⟩:=h
 exact⟨⟨cap,block_keep o hk h1⟩,⟨cur,block_keep r hk h2,hr⟩,a,c⟩
theorem R15.put (h:R15 w b s P) (i:Nat) (x:Int) (hi:i<P.n):R15 (w.setCell ⟨s,i,none⟩ (.int .i64 x)) b s (P.put i x):=by
 obtain⟨⟨cap,o⟩,⟨cur,r,hz,hr⟩,a,c⟩:=h
 have hbs:b≠s:=type_ne o r (by decide)
 refine⟨⟨cap,set_oth o hbs⟩,⟨_,set_block r i _,by rw [Array.size_setIfInBounds];exact hz,fun j hj=>?_⟩,a,c⟩
 show (cur.setIfInBounds i (.int .i64 x))[j]?=some (.int .i64 (updf P.c i x j))
 by_cases e:j=i
 ·subst e
  rw [Array.getElem?_setIfInBounds_self_of_lt (by omega)]
  simp [updf]
 ·rw [Array.getElem?_setIfInBounds_ne (by omega),hr j hj]
  simp [updf,e]
theorem check15_ok (i:Nat) (h:R15 w b s P) (hi:i<P.n):Calls Tryz.prog 225 #[.pointer (some ⟨b,0,none⟩),.int .i64 i] w fun e w'=>e = .returned (.int .i64 0)∧w'=w:=by
 obtain⟨⟨cap,o⟩,_,n1,n2⟩:=h
 obtain⟨c0,_,_⟩:=cells1 o
 have h0:¬ (i:Int)<0:=by omega
 have h1:¬ (P.n:Int)≤(i:Int):=by omega
 have hz:((P.n:Int) == 0)=false:=by simp;omega
 clear o
 go_enter Tryz.func225,Tryz.ntmps225
 go_wp2_with fail
 go_ret
 exact⟨rfl,rfl⟩
theorem check15_range (i:Int) (h:R15 w b s P) (hi:i<0∨(P.n:Int)≤i):Calls Tryz.prog 225 #[.pointer (some ⟨b,0,none⟩),.int .i64 i] w fun e w'=>e = .returned (.int .i64 3)∧w'=w:=by
 obtain⟨⟨cap,o⟩,_,n1,n2⟩:=h
 obtain⟨c0,_,_⟩:=cells1 o
 have hz:((P.n:Int) == 0)=false:=by simp;omega
 clear o
 by_cases h0:i<0
 ·clear hi
  go_enter Tryz.func225,Tryz.ntmps225
  go_wp2_with fail
  go_ret
  exact⟨rfl,rfl⟩
 ·have h1:(P.n:Int)≤i:=by omega
  clear hi
  go_enter Tryz.func225,Tryz.ntmps225
  go_wp2_with fail
  go_ret
  exact⟨rfl,rfl⟩
theorem of15_ok (i:Nat) (h:R15 w b s P) (hi:i<P.n):Calls Tryz.prog 164 #[.pointer (some ⟨b,0,none⟩),.int .i64 i] w fun e w'=>e = .returned (.tuple #[.int .i64 (P.c i),.int .i64 0])∧w'=w:=by
 have HC:=hid (check15_ok i h hi)
 obtain⟨⟨cap,o⟩,⟨cur,r,hz,hr⟩,n1,n2⟩:=h
 obtain⟨c0,_,_⟩:=cells1 o
 have d0:=cell_at r (hr i hi)
 have hi':(i:Int)<(P.n:Int):=by omega
 have hi0:(0:Int)≤(i:Int):=by omega
 clear o r hr
 go_enter Tryz.func164,Tryz.ntmps164
 go_wp2_with fail
 refine (HC.out).mono ?_
 rintro e w' ⟨rfl,h'⟩
 obtain rfl:=h'.symm
 go_wp2_with fail
 go_ret2
 exact⟨rfl,rfl⟩
theorem of15_range (i:Int) (h:R15 w b s P) (hi:i<0∨(P.n:Int)≤i):Calls Tryz.prog 164 #[.pointer (some ⟨b,0,none⟩),.int .i64 i] w fun e w'=>e = .returned (.tuple #[.int .i64 0,.int .i64 3])∧w'=w:=by
 have HC:=hid (check15_range i h hi)
 clear h hi
 go_enter Tryz.func164,Tryz.ntmps164
 go_wp2_with fail
 refine (HC.out).mono ?_
 rintro e w' ⟨rfl,h'⟩
 obtain rfl:=h'.symm
 go_wp2_with fail
 go_ret2
 exact⟨rfl,rfl⟩
theorem shade15_ok (i:Nat) (h:R15 w b s P) (hi:i<P.n):Calls Tryz.prog 254 #[.pointer (some ⟨b,0,none⟩),.int .i64 i] w fun e w'=>e = .returned (.tuple #[.bool (P.c i == 0),.int .i64 0])∧Keeps (fun y=>y=s) w w'∧R15 w' b s (P.shade i):=by
 have HC:=hid (check15_ok i h hi)
 have HH:=hid h
 obtain⟨⟨cap,o⟩,⟨cur,r,hz,hr⟩,n1,n2⟩:=h
 obtain⟨c0,_,_⟩:=cells1 o
 have d0:=cell_at r (hr i hi)
 have df:=frozen_block r i
 have hi':(i:Int)<(P.n:Int):=by omega
 have hi0:(0:Int)≤(i:Int):=by omega
 have hsl:=lt_block r
 clear o r hr
 by_cases hc:P.c i=0
 ·have HP:=hid (show P.shade i=P.put i 1 by unfold Pt.shade;rw [if_pos hc])
  have HI:=hid (HH.out.put i 1 hi)
  rw [hc] at d0 ⊢
  clear hc
  go_enter Tryz.func254,Tryz.ntmps254
  go_wp2_with fail
  refine (HC.out).mono ?_
  rintro e w' ⟨rfl,h'⟩
  obtain rfl:=h'.symm
  go_wp2_with fail
  go_ret2
  exact⟨rfl,keeps_set1 _ _ _ _,by rw [HP.out];exact HI.out⟩
 ·have HP:=hid (show P.shade i=P by unfold Pt.shade;rw [if_neg hc])
  have hc0:(P.c i == 0)=false:=by simpa using hc
  have hc1:(P.c i != 0)=true:=by simpa using hc
  rw [hc0]
  clear hc
  go_enter Tryz.func254,Tryz.ntmps254
  go_wp2_with fail
  refine (HC.out).mono ?_
  rintro e w' ⟨rfl,h'⟩
  obtain rfl:=h'.symm
  go_wp2_with fail
  go_ret2
  exact⟨rfl,Keeps.refl _ _,by rw [HP.out];exact HH.out⟩
theorem blacken15 (i:Nat) (k:Int) (h:R15 w b s P) (hi:i<P.n):Calls Tryz.prog 234 #[.pointer (some ⟨b,0,none⟩),.int .i64 i,.int .i64 k] w fun e w'=>e = .returned (.int .i64 (if P.c i=k then 0 else 8))∧Keeps (fun y=>y=s) w w'∧R15 w' b s (if P.c i=k then P.put i 2 else P):=by
 have HC:=hid (check15_ok i h hi)
 have HH:=hid h
 obtain⟨⟨cap,o⟩,⟨cur,r,hz,hr⟩,n1,n2⟩:=h
 obtain⟨c0,_,_⟩:=cells1 o
 have d0:=cell_at r (hr i hi)
 have df:=frozen_block r i
 have hi':(i:Int)<(P.n:Int):=by omega
 have hi0:(0:Int)≤(i:Int):=by omega
 have hsl:=lt_block r
 clear o r hr
 by_cases hc:P.c i=k
 ·rw [if_pos hc,if_pos hc]
  have HI:=hid (HH.out.put i 2 hi)
  have hc1:(P.c i != k)=false:=by simpa using hc
  clear hc
  go_enter Tryz.func234,Tryz.ntmps234
  go_wp2_with fail
  refine (HC.out).mono ?_
  rintro e w' ⟨rfl,h'⟩
  obtain rfl:=h'.symm
  go_wp2_with fail
  go_ret
  exact⟨rfl,keeps_set1 _ _ _ _,HI.out⟩
 ·rw [if_neg hc,if_neg hc]
  have hc1:(P.c i != k)=true:=by simpa using hc
  clear hc
  go_enter Tryz.func234,Tryz.ntmps234
  go_wp2_with fail
  refine (HC.out).mono ?_
  rintro e w' ⟨rfl,h'⟩
  obtain rfl:=h'.symm
  go_wp2_with fail
  go_ret
  exact⟨rfl,Keeps.refl _ _,HH.out⟩
theorem bleach15_ok (i:Nat) (h:R15 w b s P) (hi:i<P.n):Calls Tryz.prog 149 #[.pointer (some ⟨b,0,none⟩),.int .i64 i] w fun e w'=>e = .returned (.int .i64 0)∧Keeps (fun y=>y=s) w w'∧R15 w' b s (P.put i 0):=by
 have HC:=hid (check15_ok i h hi)
 have HI:=hid (h.put i 0 hi)
 obtain⟨⟨cap,o⟩,⟨cur,r,hz,hr⟩,n1,n2⟩:=h
 obtain⟨c0,_,_⟩:=cells1 o
 have d0:=cell_at r (hr i hi)
 have df:=frozen_block r i
 have hi':(i:Int)<(P.n:Int):=by omega
 have hi0:(0:Int)≤(i:Int):=by omega
 have hsl:=lt_block r
 clear o r hr
 go_enter Tryz.func149,Tryz.ntmps149
 go_wp2_with fail
 refine (HC.out).mono ?_
 rintro e w' ⟨rfl,h'⟩
 obtain rfl:=h'.symm
 go_wp2_with fail
 go_ret
 exact⟨rfl,keeps_set1 _ _ _ _,HI.out⟩
theorem bleach15_range (i:Int) (h:R15 w b s P) (hi:i<0∨(P.n:Int)≤i):Calls Tryz.prog 149 #[.pointer (some ⟨b,0,none⟩),.int .i64 i] w fun e w'=>e = .returned (.int .i64 3)∧w'=w:=by
 have HC:=hid (check15_range i h hi)
 clear h hi
 go_enter Tryz.func149,Tryz.ntmps149
 go_wp2_with fail
 refine (HC.out).mono ?_
 rintro e w' ⟨rfl,h'⟩
 obtain rfl:=h'.symm
 go_wp2_with fail
 go_ret
 exact⟨rfl,rfl⟩
theorem clear15 (h:R15 w b s P):Calls Tryz.prog 145 #[.pointer (some ⟨b,0,none⟩)] w fun e w'=>e = .returned (.tuple #[])∧Keeps (fun y=>y=b) w w'∧R15 w' b w.heap.size P.clear:=by
 have HC:=hid (check15_ok 0 h h.n1)
 obtain⟨⟨cap,o⟩,_,n1,n2⟩:=h
 obtain⟨C,hC,hC2⟩:=made_ints n1 n2
 have HO:=hid o;have HC2:=hid hC2
 obtain⟨c0,cf,cl⟩:=cells1 o
 clear o hC2
 go_enter Tryz.func145,Tryz.ntmps145
 go_wp2_with fail
 refine (HC.out).mono ?_
 rintro e w' ⟨rfl,h'⟩
 obtain rfl:=h'.symm
 go_wp2_with fail
 go_end0
 have hsz:P.n≤C.size:=by have:=(Array.getElem?_eq_some_iff.1 (HC2.out (P.n - 1) (by omega))).1;omega
 exact⟨rfl,(keeps_set1 _ _ _ _).alloc _,⟨⟨P.n,alloc_old (set_block HO.out 0 (.slice (some ⟨w.heap.size,0,none⟩) P.n P.n))⟩,⟨C,alloc_new' (by simp),hsz,HC2.out⟩,n1,n2⟩⟩
end
end Go.Proofs.YtnlkfbndlngjaaaGreat
namespace Go.Proofs.YtnlkfbndlngjaaaGreat
open Go.RowKit
attribute [local go_sem] Oper.semAt_some
set_option linter.unusedVariables false
set_option linter.unusedSimpArgs false
def ORow (w:World) (base:Nat) (v:Value) (l:List Bool):Prop:=w.ownsRow base 4 1 v l.length (l.map Value.bool)
def Bools (w:World) (v:Value) (l:List Bool):Prop:=
 (v = .slice none 0 0∧l=[])∨∃ g cap cur,v = .slice (some ⟨g,0,none⟩) l.length cap∧w.heap[g]?=some (.cells cur 4)∧∀ (j:Nat) (x:Bool),l[j]?=some x→cur[j]?=some (.bool x)
theorem orow_empty {w:World} {base B:Nat} (h:w.heap[B]?=some (.cells #[] 4)) (hb:base≤B):ORow w base (.slice (some ⟨B,0,none⟩) 0 0) []:=
 ⟨rfl,.inr ⟨B,0,_,rfl,hb,h,by simp,by simp [maxLen],by simp,by simp⟩⟩
theorem ORow.cells {w:World} {base:Nat} {v:Value} {l:List Bool} (h:ORow w base v l) (hn:1≤l.length):∃ g cap cur,v = .slice (some ⟨g,0,none⟩) l.length cap∧base≤g∧w.heap[g]?=some (.cells cur 4)∧∀ (j:Nat) (x:Bool),l[j]?=some x→cur[j]?=some (.bool x):=by
 rcases h.2 with⟨_,h0⟩ | ⟨g,cap,cur,e,hb,hg,r1,r2,r3,r4⟩
 ·omega
 ·refine⟨g,cap,cur,e,hb,hg,fun j x hj=>?_⟩
  have hlt:j<l.length:=(List.getElem?_eq_some_iff.1 hj).1
  have a:(l.map Value.bool)[j]?=some (.bool x):=by rw [List.getElem?_map,hj];rfl
  rw [← r4] at a
  rw [List.getElem?_take_of_lt (by omega),Array.getElem?_toList] at a
  exact a
theorem run_append_bools (ty:TypeId) (base:Nat) (v u:Value) (l m:List Bool) (w:World) (hv:ORow w base v l) (hu:Bools w u m) (h1:l.length+m.length≤1000000) (hb:base≤w.heap.size):
 ∃ v' w',(Builtin.append_ #[203,203] ty #[v,u]).run Tryz.prog w = .ok v' w'∧ORow w' base v' (l ++ m)∧Keeps (fun k=>v.ownBlock=some k) w w'∧(v'.ownBlock=v.ownBlock∨v'.ownBlock=some w.heap.size):=by
 obtain⟨ri,hi1,hi2,hi3,hi4⟩:=bool_info
 rcases hu with⟨rfl,rfl⟩ | ⟨g,cap,cur,rfl,hg,hc⟩
 ·refine⟨v,w,?_,by simpa using hv,Keeps.refl _ _,.inl rfl⟩
  rcases hv.2 with⟨rfl,_⟩ | ⟨g,c,cur,rfl,_,_,hn,_⟩
  ·simp [Builtin.append_,run_underlying Tryz.underlying203,sizeOf,typeInfo,hi1,Builtin.lenOf,Builtin.firstCells]
  ·simp [Builtin.append_,run_underlying Tryz.underlying203,sizeOf,typeInfo,hi1,Builtin.lenOf,Builtin.firstCells,hn,storeCells]
 ·obtain⟨v',w',r1,r2,r3,_,r5⟩:=run_append_own_at (P:=Tryz.prog) w base 203 ty 4 ri (.bool false) 1 1 Tryz.underlying203 hi1 hi2 hi3 hi4 rfl (by decide) v l.length (l.map Value.bool) hv ⟨g,0,none⟩ m.length cap (m.map Value.bool) (by simp)
   (fun j x hj=>by
    have hjl:j<m.length:=by have:=(List.getElem?_eq_some_iff.1 hj).1;simpa using this
    obtain⟨r,hr⟩:∃ r,m[j]?=some r:=⟨_,List.getElem?_eq_getElem hjl⟩
    rw [List.getElem?_map,hr] at hj
    rw [Addr.add_mid,Nat.zero_add,cell_block hg,hc _ r hr]
    exact hj)
   (fun u hu=>by obtain⟨x,_,rfl⟩:=List.mem_map.1 hu;rfl) (by simp [maxLen];omega) (by omega) hb
  refine⟨v',w',r1,?_,(grown_keeps r3).mono (fun k _ h=>h),r5⟩
  unfold ORow
  rw [List.length_append,List.map_append]
  exact r2
theorem wpList_append_bools {ops:Array Oper} {rest:List Oper} {o:Oper} {a:Act} {Q:Exit→Act→World→Prop} (w:World) (hgd:o.guard=none) (s x:Operand)
 (ho:o.op = .call { callee:=.builtin .append,args:=#[s,x],argTypes:=#[203,203] })
 (base:Nat) (v u:Value) (l m:List Bool) (hs:a.eval s=v) (hx:a.eval x=u) (hv:ORow w base v l) (hu:Bools w u m) (h1:l.length+m.length≤1000000) (hb:base≤w.heap.size)
 (h:∀ v' w',ORow w' base v' (l ++ m)→Keeps (fun k=>v.ownBlock=some k) w w'→(v'.ownBlock=v.ownBlock∨v'.ownBlock=some w.heap.size)→wpList Tryz.prog ops Q rest (a.put o.dst v') w'):
 wpList Tryz.prog ops Q (o :: rest) a w:=by
 refine wpList_plain hgd fun K hK=>?_
 obtain⟨v',w',hr,h2,h3,h4⟩:=run_append_bools o.type base v u l m w hv hu h1 hb
 unfold Oper.wp execOp
 simp only [ho,resolve,invoke,builtin,Sem.run_bind,Sem.run_pure,Result.andThen_ok,List.map_toArray,List.map_cons,List.map_nil,hs,hx,hr]
 exact hK _ _ (h v' w' h2 h3 h4)
section
variable {w w':World} {b s:Nat} {K:Ck} {S:Nat→Prop}
def Ck.seenL (K:Ck):List Bool:=(List.range K.many).map K.seen
theorem Ck.seenL_at {K:Ck} {i:Nat} (h:i<K.many):K.seenL[i]?=some (K.seen i):=by
 unfold Ck.seenL
 rw [List.getElem?_map,List.getElem?_range h];rfl
theorem Ck.seenL_len (K:Ck):K.seenL.length=K.many:=by simp [Ck.seenL]
theorem ack22_ok (i:Nat) (h:R22 w b s K) (hi:i<K.many) (hp:K.ph=1∨K.ph=2):Calls Tryz.prog 135 #[.pointer (some ⟨b,0,none⟩),.int .i64 i] w fun e w'=>e = .returned (.tuple #[.bool (!K.seen i),.int .i64 0])∧Keeps (fun y=>y=b) w w'∧∃ s',w.heap.size≤s'∧R22 w' b s' (K.ack i):=by
 have HS:=hid (seen22_ok i h hi)
 have HSH:=hid (shakes22 h)
 rw [show (K.ph == 1 || K.ph == 2)=true by rcases hp with h | h <;> rw [h] <;> rfl] at HSH
 have HH:=hid h
 obtain⟨⟨cap,o⟩,⟨cur,hr,hc⟩,m1,m4,p5,off⟩:=h
 obtain⟨c0,c1,c2,c3,cf,cl⟩:=cells4f o
 have cf2:=cf 2
 have HO:=hid o
 have HBU:=hid (show ∀ o,Bools (w.alloc o) (.slice (some ⟨s,0,none⟩) K.many cap) K.seenL from fun o=>.inr ⟨s,cap,cur,by rw [K.seenL_len],alloc_old hr,fun j x hj=>by
  have hj':j<K.many:=by have:=(List.getElem?_eq_some_iff.1 hj).1;rwa [K.seenL_len] at this
  rw [Ck.seenL_at hj'] at hj
  rw [hc j hj',Option.some.inj hj]⟩)
 have HE:=hid (orow_empty (base:=w.heap.size) (alloc_new (w:=w) (o:=.cells #[] 4)) (Nat.le_refl _))
 have HLN:=hid K.seenL_len
 have HAC:=hid off
 obtain⟨B,hB⟩:∃ B,K.seen i=B:=⟨_,rfl⟩
 rw [hB] at HS ⊢
 obtain⟨sl,hsl⟩:∃ sl,K.seenL=sl:=⟨_,rfl⟩
 rw [hsl] at HBU HLN
 have HSL:=hid hsl
 have hi':(i:Int)<(K.many:Int):=by omega
 have hi0:(0:Int)≤(i:Int):=by omega
 clear o hr hc cf off hB hsl hp
 have HARM:Hid (∀ v5 w5,ORow w5 w.heap.size v5 sl→Keeps (fun k=>(Value.slice (some ⟨w.heap.size,0,none⟩) 0 0).ownBlock=some k) (w.alloc (.cells #[] 4)) w5→∃ g5 cap5 cur5,v5 = .slice (some ⟨g5,0,none⟩) K.many cap5∧Keeps (fun _=>False) w w5∧w.heap.size≤g5∧w5.heap[g5]?=some (.cells cur5 4)∧∀ j,j<K.many→cur5[j]?=some (.bool (K.seen j))):=hid (fun v5 w5 hr5 hk5=>by
  obtain⟨g5,cap5,cur5,e,hb5,hg5,hc5⟩:=hr5.cells (by rw [HLN.out];exact m1)
  refine⟨g5,cap5,cur5,by rw [e,HLN.out],Keeps.fresh (((Keeps.refl (fun y=>w.heap.size≤y) w).alloc _).trans' hk5 (fun _ _ h=>h) (fun y _ hy=>?_)),hb5,hg5,fun j hj=>hc5 j _ ?_⟩
  ·have:w.heap.size=y:=Option.some.inj hy
   omega
  ·have:=Ck.seenL_at (K:=K) hj
   rw [HSL.out] at this
   exact this)
 go_enter Tryz.func135,Tryz.ntmps135
 go_wp2_with fail
 refine (HS.out).mono ?_
 rintro e w' ⟨rfl,h'⟩
 obtain rfl:=h'.symm
 go_wp2_with fail
 refine (HSH.out).mono ?_
 rintro e w' ⟨rfl,h'⟩
 obtain rfl:=h'.symm
 go_wp2_with (first
  | (at_builtin;refine wpList_append_bools _ rfl _ _ rfl w.heap.size (.slice (some ⟨w.heap.size,0,none⟩) 0 0) (.slice (some ⟨s,0,none⟩) K.many cap) [] sl rfl rfl HE.out (HBU.out _) (by have:=HLN.out;simp only [List.length_nil];omega) (by simp) ?_;intro v5 w5 hr5 hk5 ho5;obtain⟨g5,cap5,cur5,rfl,k5,hb5,hg5,hc5⟩:=HARM.out _ _ hr5 hk5;have HK5:=hid k5;have HO5:=hid (block_keep HO.out k5 (fun h=>h));obtain⟨e0,e1,e2,e3,ef,el⟩:=cells4f HO5.out;have ef2:=ef 2;have HG5:=hid hg5;have HC5:=hid hc5;have d5:=cell_at hg5 (hc5 i hi);have df5:=frozen_block hg5 i;have hl5:=lt_block hg5;have hbg:b<g5:=(by omega);clear c0 c1 c2 c3 cf2 cl ef hr5 hk5 ho5 k5 hg5 hc5)
  | fail)
 go_ret2
 have hne:g5≠b:=by omega
 refine⟨rfl,?_,g5,hb5,⟨⟨cap5,set_block (set_oth HO5.out (fun e=>hne e.symm)) 2 _⟩,⟨_,set_oth (set_block HG5.out i _) hne,fun j hj=>?_⟩,m1,m4,p5,fun j hj=>?_⟩⟩
 ·exact Keeps.trans' (HK5.out.trans' (keeps_set1 w5 g5 i (.bool true)) (U:=fun y=>y=b) (fun _ _ h=>h.elim) (fun y hy h=>by omega)) (keeps_set1 _ b 2 _) (fun _ _ h=>h) (fun _ _ h=>h)
 ·show (cur5.setIfInBounds i (.bool true))[j]?=some (.bool (updf K.seen i true j))
  have hj5:=HC5.out j hj
  by_cases e:j=i
  ·subst e
   rw [Array.getElem?_setIfInBounds_self_of_lt ((Array.getElem?_eq_some_iff.1 hj5).1)]
   simp [updf]
  ·rw [Array.getElem?_setIfInBounds_ne (by omega),hj5]
   simp [updf,e]
 ·show updf K.seen i true j=false
  have hj':K.many≤j:=hj
  have:=HAC.out j hj'
  have e:j≠i:=by omega
  simp [updf,e,this]
theorem go22_ok (h:R22 w b s K) (hp:K.ph≠0) (hr:K.ph=1∨K.ph=2→K.all=true) (hcy:K.cy<4611686018427387904):Calls Tryz.prog 140 #[.pointer (some ⟨b,0,none⟩)] w fun e w'=>e = .returned (.int .i64 0)∧Keeps (fun y=>y=b) w w'∧∃ s',w.heap.size≤s'∧R22 w' b s' K.go:=by
 have HSH:=hid (shakes22 h)
 have HRD:=hid (ready22 h)
 have HT:=hid (fun W (hk:Keeps (fun _=>False) w W) (p:Nat) (hp:p≤5)=>to22 p hp (h.k0 hk))
 have p5:=h.p5
 have HH:=hid h
 obtain⟨⟨cap,o⟩,_⟩:=h
 obtain⟨c0,c1,c2,c3,cf,cl⟩:=cells4f o
 have HV:=hid (valid22 b w c0)
 have HO:=hid o
 have hc:K.ph=1∨K.ph=2∨K.ph=3∨K.ph=4∨K.ph=5:=by omega
 clear o cf
 rcases hc with hq | hq | hq | hq | hq
 all_goals
  rw [hq] at c1
  have HQ:=hid hq
 ·rw [show (K.ph == 1 || K.ph == 2)=true by rw [HQ.out];rfl] at HSH
  have HR2:=hid (show K.ready=true by unfold Ck.ready;rw [hr (by omega),HQ.out];rfl)
  rw [HR2.out] at HRD
  have HGO:=hid (show K.go=K.to 2 by unfold Ck.go Ck.to;rw [if_neg (by omega),HQ.out])
  clear hr hp hq
  go_enter Tryz.func140,Tryz.ntmps140
  go_wp2_with fail
  refine (HV.out).mono ?_
  rintro e w' ⟨rfl,h'⟩
  obtain rfl:=h'.symm
  go_wp2_with fail
  refine (HSH.out).mono ?_
  rintro e w' ⟨rfl,h'⟩
  obtain rfl:=h'.symm
  go_wp2_with fail
  refine HRD.out.mono ?_
  rintro e w1 ⟨rfl,k1⟩
  have K1:=hid k1
  obtain⟨c0',c1',c2',c3',cf,cl'⟩:=cells4f (block_keep HO.out k1 (fun h=>h))
  rw [HQ.out] at c1'
  clear c0 c1 c2 c3 cl cf k1
  go_wp2_with fail
  refine (HT.out _ K1.out 2 (by decide)).mono ?_
  rintro e w2 ⟨rfl,k2,s',ls,h2⟩
  have K2:=hid (K1.out.up.trans k2);have H2:=hid h2;have LS:=hid (Nat.le_trans K1.out.size ls)
  clear k2 h2 ls
  go_wp2_with fail
  go_ret
  rw [HGO.out]
  exact⟨rfl,K2.out,s',LS.out,H2.out⟩
 ·rw [show (K.ph == 1 || K.ph == 2)=true by rw [HQ.out];rfl] at HSH
  have HR2:=hid (show K.ready=true by unfold Ck.ready;rw [hr (by omega),HQ.out];rfl)
  rw [HR2.out] at HRD
  have HGO:=hid (show K.go=K.to 3 by unfold Ck.go Ck.to;rw [if_neg (by omega),HQ.out])
  clear hr hp hq
  go_enter Tryz.func140,Tryz.ntmps140
  go_wp2_with fail
  refine (HV.out).mono ?_
  rintro e w' ⟨rfl,h'⟩
  obtain rfl:=h'.symm
  go_wp2_with fail
  refine (HSH.out).mono ?_
  rintro e w' ⟨rfl,h'⟩
  obtain rfl:=h'.symm
  go_wp2_with fail
  refine HRD.out.mono ?_
  rintro e w1 ⟨rfl,k1⟩
  have K1:=hid k1
  obtain⟨c0',c1',c2',c3',cf,cl'⟩:=cells4f (block_keep HO.out k1 (fun h=>h))
  rw [HQ.out] at c1'
  clear c0 c1 c2 c3 cl cf k1
  go_wp2_with fail
  refine (HT.out _ K1.out 3 (by decide)).mono ?_
  rintro e w2 ⟨rfl,k2,s',ls,h2⟩
  have K2:=hid (K1.out.up.trans k2);have H2:=hid h2;have LS:=hid (Nat.le_trans K1.out.size ls)
  clear k2 h2 ls
  go_wp2_with fail
  go_ret
  rw [HGO.out]
  exact⟨rfl,K2.out,s',LS.out,H2.out⟩
 ·rw [show (K.ph == 1 || K.ph == 2)=false by rw [HQ.out];rfl] at HSH
  have HGO:=hid (show K.go=K.to 4 by unfold Ck.go Ck.to;rw [if_neg (by omega),HQ.out])
  clear hr hp hq
  go_enter Tryz.func140,Tryz.ntmps140
  go_wp2_with fail
  refine (HV.out).mono ?_
  rintro e w' ⟨rfl,h'⟩
  obtain rfl:=h'.symm
  go_wp2_with fail
  refine (HSH.out).mono ?_
  rintro e w' ⟨rfl,h'⟩
  obtain rfl:=h'.symm
  go_wp2_with fail
  refine (HT.out _ (Keeps.refl _ _) 4 (by decide)).mono ?_
  rintro e w2 ⟨rfl,k2,s',ls,h2⟩
  have K2:=hid k2;have H2:=hid h2;have LS:=hid ls
  clear k2 h2 ls
  go_wp2_with fail
  go_ret
  rw [HGO.out]
  exact⟨rfl,K2.out,s',LS.out,H2.out⟩
 ·rw [show (K.ph == 1 || K.ph == 2)=false by rw [HQ.out];rfl] at HSH
  have HGO:=hid (show K.go=K.to 5 by unfold Ck.go Ck.to;rw [if_neg (by omega),HQ.out])
  clear hr hp hq
  go_enter Tryz.func140,Tryz.ntmps140
  go_wp2_with fail
  refine (HV.out).mono ?_
  rintro e w' ⟨rfl,h'⟩
  obtain rfl:=h'.symm
  go_wp2_with fail
  refine (HSH.out).mono ?_
  rintro e w' ⟨rfl,h'⟩
  obtain rfl:=h'.symm
  go_wp2_with fail
  refine (HT.out _ (Keeps.refl _ _) 5 (by decide)).mono ?_
  rintro e w2 ⟨rfl,k2,s',ls,h2⟩
  have K2:=hid k2;have H2:=hid h2;have LS:=hid ls
  clear k2 h2 ls
  go_wp2_with fail
  go_ret
  rw [HGO.out]
  exact⟨rfl,K2.out,s',LS.out,H2.out⟩
 ·rw [show (K.ph == 1 || K.ph == 2)=false by rw [HQ.out];rfl] at HSH
  have hcy0:(0:Int)≤(K.cy:Int):=by omega
  have hcy1:(K.cy:Int)<4611686018427387904:=by omega
  have HGO:=hid (show K.go={ K.to 0 with cy:=K.cy+1 } by unfold Ck.go Ck.to;rw [if_pos HQ.out,HQ.out])
  clear hr hp hq hcy
  go_enter Tryz.func140,Tryz.ntmps140
  go_wp2_with fail
  refine (HV.out).mono ?_
  rintro e w' ⟨rfl,h'⟩
  obtain rfl:=h'.symm
  go_wp2_with fail
  refine (HSH.out).mono ?_
  rintro e w' ⟨rfl,h'⟩
  obtain rfl:=h'.symm
  go_wp2_with fail
  refine (HT.out _ (Keeps.refl _ _) 0 (by decide)).mono ?_
  rintro e w2 ⟨rfl,k2,s',ls,h2⟩
  have K2:=hid k2;have H2:=hid h2;have LS:=hid ls
  obtain⟨cap2,o2⟩:=h2.own
  have HO2:=hid o2
  obtain⟨d0,d1,d2,d3,df,dl⟩:=cells4f o2
  rw [show (K.to 0).cy=K.cy from rfl] at d3
  have df3:=df 3
  clear c0 c1 c2 c3 cl df k2 h2 ls o2
  go_wp2_with fail
  go_ret
  have hsb:s'≠b:=by have:=LS.out;have:=lt_block HO.out;omega
  rw [HGO.out]
  exact⟨rfl,K2.out.trans (keeps_set1 _ _ _ _),s',LS.out,⟨⟨cap2,set_block HO2.out 3 _⟩,by obtain⟨cur,hr,hc⟩:=H2.out.row;exact⟨cur,set_oth hr hsb,hc⟩,H2.out.m1,H2.out.m4,H2.out.p5,H2.out.off⟩⟩
end
end Go.Proofs.YtnlkfbndlngjaaaGreat
