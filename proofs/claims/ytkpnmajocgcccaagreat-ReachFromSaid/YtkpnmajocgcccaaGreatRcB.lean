import Derived.Test.YtkpnmajocgcccaaGreatKqA
import Derived.Test.YtkpnmajocgcccaaGreatRcA
import Derived.Test.YtkpnmajocgcccaaGreatRcS
import Derived.Shelf.SlSortCmp.WholeK
import Derived.Shelf.SlSortCmp.NoneTotal
set_option maxHeartbeats 1000000
namespace Go.Proofs.YtkpnmajocgcccaaGreat
open Go.RowKit
set_option linter.unusedVariables false
set_option linter.unusedSimpArgs false
abbrev Rs:={ r:Rf // 0≤r.s∧r.s<4611686018427387904 }
instance:Inhabited Rs:=⟨⟨Rf.no,by decide,by decide⟩⟩
def encS (x:Rs):List Value:=encR x.1
def cfS (x y:Rs):Int:=x.1.s - y.1.s
theorem ltS (x y:Rs):Go.Proofs.ltOf cfS x y=decide (x.1.s<y.1.s):=by
 unfold Go.Proofs.ltOf cfS
 by_cases h:x.1.s<y.1.s
 ·rw [decide_eq_true h,decide_eq_true (by omega)]
 ·rw [decide_eq_false h,decide_eq_false (by omega)]
theorem swoS:Go.Sort.SWO (Go.Proofs.ltOf cfS) where
 irrefl x:=by rw [ltS];simp
 trans x y z h1 h2:=by rw [ltS] at *;simp at *;omega
 ntrans x y z h1 h2:=by rw [ltS] at *;simp at *;omega
theorem bySlot_call (x y:Rs) (W:World):Calls Tryz.prog 40 #[.agg (encS x).toArray,.agg (encS y).toArray] W
 fun e w'=>e = .returned (.int .i64 (cfS x y))∧∃ q os',w'=Go.Sort.grow (W.drewN q) os':=by
 obtain⟨⟨xs,xg⟩,hx0,hx1⟩:=x
 obtain⟨⟨ys,yg⟩,hy0,hy1⟩:=y
 dsimp only at hx0 hx1 hy0 hy1
 have hw:IntKind.i64.wrap (xs - ys)=xs - ys:=IntWalk.i64_in _ (by omega)
 simp only [encS,encR,cfS]
 go_enter Tryz.func40,Tryz.ntmps40
 go_wp2
 go_ret
 exact⟨rfl,0,_,by rw [Go.Sort.alloc_eq_grow,Go.Sort.alloc_eq_grow,Go.Sort.grow_grow];rfl⟩
theorem heap_sortedK {w:World} {g n:Nat} {os:Array Obj} {cur:Array Value} {e:TypeId} {fr:Nat × Nat} (d:Array Rs) (hb:w.heap[g]?=some (.cells cur e fr)):
 (Go.Proofs.sortWorldK encS 2 w g 0 n d os).heap[g]?=some (.cells (Go.Sort.putCells id 0 (Go.Sort.flatK encS 2 d) cur) e fr):=by
 have hg:g<w.heap.size:=lt_block hb
 unfold Go.Proofs.sortWorldK Go.Sort.putRowK
 rw [Go.Sort.heap_grow_old _ _ (by simpa using hg)]
 simp [Go.Sort.putRow,Go.Sort.mapBlock,Go.Sort.ahead,Array.getElem?_modify,hb,Go.Sort.onCells]
theorem keeps_sortedK {w:World} {g n:Nat} {os:Array Obj} (d:Array Rs):Keeps (fun y=>y=g) w (Go.Proofs.sortWorldK encS 2 w g 0 n d os):=by
 unfold Go.Proofs.sortWorldK Go.Sort.putRowK
 refine⟨rfl,rfl,rfl,by simp,fun k hk hne=>?_⟩
 rw [Go.Sort.heap_grow_old _ _ (by simpa using hk)]
 have:g≠k:=fun e=>hne e.symm
 simp [Go.Sort.putRow,Go.Sort.mapBlock,Go.Sort.ahead,Array.getElem?_modify,this]
theorem flatS_at {ss:List Rs} {t:Nat} (ht:t<ss.length * 2):(ss.flatMap encS)[t]?=some ((encS ss.toArray[t / 2]!)[t % 2]!):=by
 obtain⟨x,hx⟩:∃ x,ss[t / 2]?=some x:=⟨_,List.getElem?_eq_getElem (by omega)⟩
 have e0:ss.flatMap encS=(ss.map (·.1)).flatMap encR:=by rw [List.flatMap_map];rfl
 have hx':(ss.map (·.1))[t / 2]?=some x.1:=by rw [List.getElem?_map,hx];rfl
 obtain⟨a,b⟩:=encR_at hx'
 have e1:ss.toArray[t / 2]! = x:=by
  rw [getElem!_pos ss.toArray (t / 2) (by simp;omega)]
  simp only [List.getElem_toArray]
  exact (List.getElem?_eq_some_iff.1 hx).2
 rw [e0,e1]
 rcases Nat.mod_two_eq_zero_or_one t with h | h
 ·rw [h,show t=t / 2 * 2 by omega,a];rfl
 ·rw [h,show t=t / 2 * 2+1 by omega,b];rfl
theorem flatMap_len (ss:List Rs):(ss.flatMap encS).length=ss.length * 2:=by
 induction ss with
 | nil=>rfl
 | cons x l ih=>rw [List.flatMap_cons,List.length_append,ih];simp [encS,encR];omega
theorem flatK_list (ss:List Rs):(Go.Sort.flatK encS 2 ss.toArray).toList=ss.flatMap encS:=by
 apply List.ext_getElem?
 intro t
 by_cases ht:t<ss.length * 2
 ·rw [flatS_at ht,Array.getElem?_toList,Array.getElem?_eq_getElem (by simpa using ht),← getElem!_pos,Go.Sort.get_flatK _ _ _ _ (by simpa using ht)]
 ·rw [List.getElem?_eq_none (by simpa using ht),List.getElem?_eq_none (by rw [flatMap_len];omega)]
theorem holdsK_of {w:World} {g:Nat} {cur:Array Value} {e:TypeId} {ss:List Rs} (hb:w.heap[g]?=some (.cells cur e (0,0))) (ht:cur.toList.take (ss.length * 2)=ss.flatMap encS):Go.Sort.HoldsK encS 2 w g 0 ss.toArray:=by
 intro j hj
 have hj':j<ss.length * 2:=by simpa using hj
 refine⟨?_,by simp [World.frozen?,hb]⟩
 have h1:(cur.toList.take (ss.length * 2))[j]?=(ss.flatMap encS)[j]?:=by rw [ht]
 rw [List.getElem?_take_of_lt hj',flatS_at hj'] at h1
 rw [Go.Sort.get_flatK _ _ _ _ (by simpa using hj')]
 simp only [World.cell?,hb,Nat.zero_add,Option.isSome_none,Bool.false_eq_true,if_false,id]
 rw [← Array.getElem?_toList,h1]
theorem take_putK (cur:Array Value) (ts:List Rs) (h:ts.length * 2≤cur.size):(Go.Sort.putCells id 0 (Go.Sort.flatK encS 2 ts.toArray) cur).toList.take (ts.length * 2)=ts.flatMap encS:=by
 rw [← flatK_list]
 have hs:(Go.Sort.flatK encS 2 ts.toArray).size=ts.length * 2:=by simp
 generalize Go.Sort.flatK encS 2 ts.toArray=F at hs ⊢
 apply List.ext_getElem?
 intro j
 by_cases hj:j<ts.length * 2
 ·rw [List.getElem?_take_of_lt hj,Array.getElem?_toList,Array.getElem?_toList]
  simp [Go.Sort.putCells,hs,hj,show j<cur.size by omega]
 ·rw [List.getElem?_take_eq_none (by omega),List.getElem?_eq_none (by simp;omega)]
theorem sorted_srt {ss ts:List Rs} (h1:ts.Perm ss) (h2:∀ i j,i<j→j<ts.length→Go.Proofs.ltOf cfS ts.toArray[j]! ts.toArray[i]! = false) (ho:OneSlot (ss.map (·.1))):ts.map (·.1)=srt (ss.map (·.1)):=by
 refine srt_unique (h1.map _) ?_ ho
 unfold BySlot
 rw [List.pairwise_map,List.pairwise_iff_getElem]
 intro i j hi hj hij
 have:=h2 i j hij hj
 rw [ltS,getElem!_pos ts.toArray j (by simpa using hj),getElem!_pos ts.toArray i (by simpa using hi)] at this
 simp at this
 omega
theorem bySlot_enters:∀ args w,(callFunc 40 args).run Tryz.prog w = .ok (.enter 40 args) w:=enters_of Tryz.func40 (by kernel_rfl) rfl
theorem isAgg_ref (w:World):(isAgg 41).run Tryz.prog w = .ok true w:=by kernel_rfl
theorem sizeOf_ref (w:World):(Go.sizeOf 41).run Tryz.prog w = .ok 2 w:=by kernel_rfl
theorem rsort_ok (v:Value) (l:List Rf) (base:Nat) (w:World) (hv:Row w base v l) (hl:∀ r∈l,0≤r.s∧r.s<4611686018427387904) (ho:OneSlot l) (hn:l.length≤65536):
 Calls Tryz.prog 39 #[v,.func (.func 40) #[] #[]] w fun e w'=>e = .returned (.tuple #[])∧Row w' base v (srt l)∧Keeps (fun k=>v.ownBlock=some k) w w':=by
 obtain⟨ss,rfl⟩:∃ ss:List Rs,ss.map (·.1)=l:=⟨l.pmap (fun r h=>⟨r,h⟩) hl,by simp [List.map_pmap]⟩
 rw [List.length_map] at hn
 obtain⟨hv1,hv2⟩:=hv
 rw [List.length_map] at hv1 hv2
 rcases hv2 with⟨rfl,h0⟩ | ⟨g,cap,cur,rfl,hb,hg,r1,r2,r3,r4⟩
 ·obtain rfl:ss=[]:=List.eq_nil_of_length_eq_zero h0
  exact (AnyF.slices_SortFunc_none lay_sort none 0 _ w).mono fun e w' ⟨he,hw⟩=>⟨he,by rw [hw];exact Row.nil _ _,by rw [hw];exact Keeps.refl _ _⟩
 ·have e0:(ss.map (·.1)).flatMap encR=ss.flatMap encS:=by rw [List.flatMap_map];rfl
  rw [e0] at hv1 r4
  have hcon:=AnyQ.slices_SortFunc lay_sort 2 isAgg_ref sizeOf_ref encS (fun _=>rfl) (fun x v hv=>by simp [encS,encR] at hv;rcases hv with rfl | rfl <;> rfl) cfS swoS 40 #[] g 0 cap ss.toArray w bySlot_enters
   (fun _ _ _ _ x y=>bySlot_call x y _) (holdsK_of hg r4) (lt_block hg) (by simp;omega)
  refine hcon.mono ?_
  rintro e w' ⟨rfl,d',n,os,⟨p1,_,p2⟩,hs,rfl⟩
  have hd:d'.size=ss.length:=by simpa using p1
  obtain⟨ts,rfl⟩:∃ ts:List Rs,ts.toArray=d':=⟨d'.toList,by simp⟩
  have hl2:ts.length=ss.length:=by simpa using hd
  have hperm:ts.Perm ss:=by
   have h0:=p2
   have e1:(ss.toArray.extract 0 ss.toArray.size).toList=ss:=by simp
   have e2:(ts.toArray.extract 0 ss.toArray.size).toList=ts:=by simp [← hl2]
   rw [e1,e2] at h0
   exact h0
  have hsrt:=sorted_srt hperm (fun i j hij hj=>hs i j (Nat.zero_le _) hij (by simpa [← hl2] using hj)) ho
  refine⟨rfl,?_,(keeps_sortedK _).mono (fun k _ h=>by subst h;rfl)⟩
  rw [← hsrt]
  refine⟨?_,.inr ⟨g,cap,_,?_,hb,heap_sortedK _ hg,?_,r2,by simp [Go.Sort.putCells,r3],?_⟩⟩
  ·rw [List.flatMap_map]
   show (ts.flatMap encS).length=_
   rw [flatMap_len,List.length_map]
  ·simp [hl2]
  ·simp [hl2];exact r1
  ·rw [List.flatMap_map,List.length_map]
   exact take_putK cur ts (by rw [r3];exact Nat.mul_le_mul_right 2 (by omega))
structure Rf.Nm (r:Rf):Prop where
 s0:0≤r.s
 s1:r.s<4611686018427387904
 wf:r.Wf
theorem Rf.Nm.key {r:Rf} (h:r.Nm):∃ kl,keyOf Tryz.prog 41 r.val=some kl:=by
 obtain⟨h0,h1,h2,h3⟩:=h
 have e1:IntKind.i64.min=-9223372036854775808:=by decide
 have e2:IntKind.i64.max=9223372036854775807:=by decide
 have e3:IntKind.u32.min=0:=by decide
 have e4:IntKind.u32.max=4294967295:=by decide
 exact ref_key (by simp [Lit.wf,e1,e2];omega) (by simp [Lit.wf,e3,e4];omega)
theorem val_inj {r q:Rf} (h:r.val=q.val):r=q:=by
 obtain⟨a,b⟩:=r;obtain⟨c,d⟩:=q
 simp [Rf.val] at h
 rw [h.1,h.2]
def VMap (w:World) (b:Nat) (q:List (Rf × Value)):Prop:=
 (∃ es clock,w.heap[b]?=some (.map es clock)∧es.toList.map (fun e=>(e.key,e.val))=q.map (fun x=>(Rf.val x.1,x.2)))∧∀ x∈q,x.1.Nm
theorem VMap.lt {w:World} {b:Nat} {q:List (Rf × Value)} (h:VMap w b q):b<w.heap.size:=by
 obtain⟨⟨es,c,h1,_⟩,_⟩:=h;exact lt_block h1
theorem VMap.keeps {w w':World} {b:Nat} {q:List (Rf × Value)} {S:Nat→Prop} (h:VMap w b q) (hk:Keeps S w w') (hS:¬ S b):VMap w' b q:=by
 obtain⟨⟨es,c,h1,h2⟩,h3⟩:=h
 exact⟨⟨es,c,block_keep h1 hk hS,h2⟩,h3⟩
theorem VMap.made (w:World):VMap (w.alloc (.map #[] 0)) w.heap.size []:=⟨⟨#[],0,alloc_new,rfl⟩,fun _ h=>by cases h⟩
theorem VMap.keys {w:World} {b:Nat} {q:List (Rf × Value)} {es:Array MapEntry} (h2:es.toList.map (fun e=>(e.key,e.val))=q.map (fun x=>(Rf.val x.1,x.2))) (h3:∀ x∈q,x.1.Nm):∀ e∈es.toList,∃ l,keyOf Tryz.prog 41 e.key=some l:=by
 intro e he
 have:(e.key,e.val)∈q.map (fun x=>(Rf.val x.1,x.2)):=by rw [← h2];exact List.mem_map.2 ⟨e,he,rfl⟩
 obtain⟨x,hx,e1⟩:=List.mem_map.1 this
 obtain⟨kl,hkl⟩:=(h3 x hx).key
 injection e1 with e1 e2
 exact⟨kl,by rw [← e1];exact hkl⟩
theorem VMap.look {w:World} {b:Nat} {q:List (Rf × Value)} (h:VMap w b q) {t e:TypeId} (ht:Tryz.prog.underlying t=some (.map 41 e)) {z:Value} (hz:(zeroValue e).run Tryz.prog w = .ok z w) {r:Rf} (hr:r.Nm) (c:Bool):
 ((∀ x∈q,x.1≠r)∧(Instr.lookup t (.map (some b)) r.val c).run Tryz.prog w = .ok (if c then .tuple #[z,.bool false] else z) w)∨
 (∃ v,(r,v)∈q∧(Instr.lookup t (.map (some b)) r.val c).run Tryz.prog w = .ok (if c then .tuple #[v,.bool true] else v) w):=by
 obtain⟨⟨es,clock,hb,h2⟩,h3⟩:=h
 obtain⟨kl,hkey⟩:=hr.key
 rcases ref_law.find w hkey es.toList (VMap.keys (w:=w) (b:=b) h2 h3) with⟨h1,hno⟩ | ⟨j,e0,h1,hj,he⟩
 ·refine .inl ⟨fun x hx e1=>?_,by simp [Instr.lookup,run_underlying ht,MapKept.run_getObj_map hb,ref_law.check w _ hkey,h1,hz,Result.andThen]⟩
  have:(Rf.val x.1,x.2)∈es.toList.map (fun e=>(e.key,e.val)):=by rw [h2];exact List.mem_map.2 ⟨x,hx,rfl⟩
  obtain⟨e',he',e2⟩:=List.mem_map.1 this
  injection e2 with e2 _
  exact hno e' he' (by rw [e2,e1])
 ·refine .inr ⟨e0.val,?_,by simp [Instr.lookup,run_underlying ht,MapKept.run_getObj_map hb,ref_law.check w _ hkey,h1,Result.andThen]⟩
  have:(e0.key,e0.val)∈q.map (fun x=>(Rf.val x.1,x.2)):=by rw [← h2];exact List.mem_map.2 ⟨e0,List.mem_of_getElem? hj,rfl⟩
  obtain⟨x,hx,e1⟩:=List.mem_map.1 this
  injection e1 with e1 e2
  rw [he] at e1
  rw [← val_inj e1,← e2]
  exact hx
theorem VMap.set {w:World} {b:Nat} {q:List (Rf × Value)} (h:VMap w b q) {t e:TypeId} (ht:Tryz.prog.underlying t=some (.map 41 e)) {r:Rf} (hr:r.Nm) (hn:∀ x∈q,x.1≠r) (v:Value):
 ∃ w',(Instr.mapUpdate t (.map (some b)) r.val v).run Tryz.prog w = .ok () w'∧VMap w' b (q ++ [(r,v)])∧Keeps (fun y=>y=b) w w':=by
 obtain⟨⟨es,clock,hb,h2⟩,h3⟩:=h
 obtain⟨kl,hkey⟩:=hr.key
 rcases ref_law.find w hkey es.toList (VMap.keys (w:=w) (b:=b) h2 h3) with⟨h1,hno⟩ | ⟨j,e0,h1,hj,he⟩
 ·refine⟨Go.ChangeMaps.setBlock w b (.map (es.push ⟨r.val,v,clock⟩) (clock+1)),by simp [Instr.mapUpdate,run_underlying ht,MapKept.run_getObj_map hb,ref_law.check w false hkey,h1,MapKept.run_setObj_map _ hb,Result.andThen,Go.ChangeMaps.setBlock],⟨⟨_,_,Go.ChangeMaps.heap_setBlock_same hb _,?_⟩,fun x hx=>?_⟩,⟨rfl,rfl,rfl,by simp [Go.ChangeMaps.setBlock],fun i _ hi=>Go.ChangeMaps.heap_setBlock_other hb _ hi⟩⟩
  ·simp [h2]
  ·rcases List.mem_append.1 hx with hx | hx
   ·exact h3 x hx
   ·rw [List.mem_singleton.1 hx];exact hr
 ·have:(e0.key,e0.val)∈q.map (fun x=>(Rf.val x.1,x.2)):=by rw [← h2];exact List.mem_map.2 ⟨e0,List.mem_of_getElem? hj,rfl⟩
  obtain⟨x,hx,e1⟩:=List.mem_map.1 this
  injection e1 with e1 _
  rw [he] at e1
  exact absurd (val_inj e1) (hn x hx)
end Go.Proofs.YtkpnmajocgcccaaGreat
