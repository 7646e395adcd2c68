import Derived.Test.YtjfmagccmjdhoaaGreatMgK
import Derived.Test.YtjfmagccmjdhoaaGreatMgH
import Derived.ProofKit
import Derived.Deep.Slices
import Derived.Deep.Fields
import Derived.ChangeSame
import Derived.Deep.AppendLies
import Derived.Deep.RegionLaw
set_option maxHeartbeats 2000000
set_option maxRecDepth 100000
namespace Go.Proofs.YtjfmagccmjdhoaaGreat
open Go.RowKit
theorem pbuf_info:∃ i,Tryz.prog.info? 140=some i∧i.zero=some (.pointer none)∧i.size=1∧i.bytes=8:=by
 have h:(Tryz.prog.info? 140).map (fun i=>(i.zero,i.size,i.bytes))=some (some (.pointer none),1,8):=by kernel_rfl
 rcases hi:Tryz.prog.info? 140 with _ | i
 ·rw [hi] at h;cases h
 ·rw [hi] at h
  simp only [Option.map_some,Option.some.injEq,Prod.mk.injEq] at h
  exact⟨i,rfl,h.1,h.2.1,h.2.2⟩
def ptrs (bb:Nat→Nat) (k:Nat):List Value:=(List.range k).map (fun j=>.pointer (some ⟨bb j,0,none⟩))
theorem ptrs_succ (bb:Nat→Nat) (k x:Nat):ptrs (zU bb k x) (k+1)=ptrs bb k ++ [.pointer (some ⟨x,0,none⟩)]:=by
 rw [ptrs,List.range_succ,List.map_append]
 congr 1
 ·rw [ptrs]
  apply List.map_congr_left
  intro j hj
  rw [zS _ _ (by have:=List.mem_range.1 hj;omega)]
 ·simp [zU]
theorem owns_keeps {w w':World} {base:Nat} {e:TypeId} {size:Nat} {v:Value} {n:Nat} {xs:List Value} {S:Nat→Prop} (h:w.ownsRow base e size v n xs) (hk:zA S w w') (hS:∀ k,base≤k→¬ S k):w'.ownsRow base e size v n xs:=by
 obtain⟨h1,h2⟩:=h
 refine⟨h1,?_⟩
 rcases h2 with h2 | ⟨g,cap,cur,rfl,hb,hg,r⟩
 ·exact .inl h2
 ·exact .inr ⟨g,cap,cur,rfl,hb,zB hg hk (hS g hb),r⟩
def Mk.new (n many size places:Nat):Mk:=⟨⟨0,many,0,fun _=>false⟩,⟨n,fun _=>0⟩,⟨false,0,size,0,fun _=>0⟩,fun _=>⟨fun _=>0,places,0,0,true⟩⟩
theorem mnew_ok (n k s p:Nat) (w:World) (n1:1≤n) (n2:n≤256) (k1:1≤k) (k4:k≤4) (s1:1≤s) (s2:s≤64) (p1:1≤p) (p2:p≤64):
 Calls Tryz.prog 74 #[.int .i64 n,.int .i64 k,.int .i64 s,.int .i64 p] w fun e w'=>e = .returned (.tuple #[.pointer (some ⟨w.heap.size,0,none⟩),.int .i64 0])∧Kz w w'∧∃ L,MkIn w' w.heap.size L (Mk.new n k s p)∧L.Btw w.heap.size k w.heap.size w'.heap.size:=by
 obtain⟨ii,hi1,hi2,hi3,hi4⟩:=pbuf_info
 have HC:=zC (fun w=>cnew_ok n w (by omega) (by omega))
 have HP:=zC (fun w=>ph_new k w k1 k4)
 have HS:=zC (fun w=>qnew_ok s w (by omega) (by omega))
 have HB:=zC (fun w=>bnew_ok p w (by omega) (by omega))
 go_in
 go_wp2_with fail
 refine (HC.out _).mono ?_
 rintro e w1 ⟨rfl,hk1,hp1⟩
 have hq:=zB (zE (w:=w)) hk1 (fun h=>h)
 obtain⟨c0,c1,c2,c3,c4,c5,cl⟩:=zY hq
 have f3:=zL hq 3;have f2:=zL hq 2
 have HQ1:=zC hq
 have HK1:=zC (((zA.refl (fun y=>w.heap.size≤y) w).alloc _).trans hk1.up)
 rw [World.size_alloc] at hp1 ⊢
 have HP1:=zC hp1
 have hl1:=hp1.lt
 clear hk1 hp1 hq
 go_wp2_with fail
 refine (HP.out _).mono ?_
 rintro e w2 ⟨rfl,hk2,hp2⟩
 have hsz1:(w1.setCell ⟨w.heap.size,3,none⟩ (.pointer (some ⟨w.heap.size+1,0,none⟩))).heap.size=w1.heap.size:=by simp [World.setCell]
 rw [hsz1] at hp2 ⊢
 have hq:=zB (zH HQ1.out 3 _) hk2 (fun h=>h)
 obtain⟨d0,d1,d2,d3,d4,d5,dl⟩:=zY (hq.trans rfl)
 have g4:=zL hq 4;have g2:=zL hq 2
 have HQ2:=zC hq
 have HP2:=zC ((HP1.out.keeps (zJ _ _ _ _) (by omega)).keeps hk2 (fun h=>h))
 have HCK2:=zC hp2
 have hl2:=hp2.lt
 have HK2:=zC ((HK1.out.setCell (p:=⟨w.heap.size,3,none⟩) (.inl (Nat.le_refl _)) _).trans hk2.up)
 clear hk2 hp2 hq c0 c1 c2 c3 c4 c5 f2 f3 hsz1
 go_wp2_with fail
 refine (HS.out _).mono ?_
 rintro e w3 ⟨rfl,hk3,hp3⟩
 have hsz2:(w2.setCell ⟨w.heap.size,2,none⟩ (.pointer (some ⟨w1.heap.size,0,none⟩))).heap.size=w2.heap.size:=by simp [World.setCell]
 rw [hsz2] at hp3 ⊢
 have hq:=zB (zH HQ2.out 2 _) hk3 (fun h=>h)
 obtain⟨c0,c1,c2,c3,c4,c5,cl⟩:=zY (hq.trans rfl)
 have g4':=zL hq 4
 have HQ3:=zC hq
 have hl3:=hp3.lt
 have HP3:=zC ((HP2.out.keeps (zJ _ _ _ _) (by omega)).keeps hk3 (fun h=>h))
 have HCK3:=zC ((HCK2.out.keeps (zJ _ _ _ _) (by omega)).keeps hk3 (fun h=>h))
 have HS3:=zC hp3
 have HK3:=zC ((HK2.out.setCell (p:=⟨w.heap.size,2,none⟩) (.inl (Nat.le_refl _)) _).trans hk3.up)
 clear hk3 hp3 hq d0 d1 d2 d3 d4 d5 g4 g2 hsz2
 go_wp2_with fail
 obtain⟨w4,hw4⟩:∃ w4,w3.setCell ⟨w.heap.size,4,none⟩ (.pointer (some ⟨w2.heap.size,0,none⟩))=w4:=⟨_,rfl⟩
 have kw:zA (fun y=>y=w.heap.size) w3 w4:=by rw [← hw4];exact zJ _ _ _ _
 have q4:w4.heap[w.heap.size]?=some (.cells #[.int .i64 n,.int .i64 k,.pointer (some ⟨w1.heap.size,0,none⟩),.pointer (some ⟨w.heap.size+1,0,none⟩),.pointer (some ⟨w2.heap.size,0,none⟩),.slice none 0 0] 136):=by
  rw [← hw4];exact (zH HQ3.out 4 _).trans rfl
 rw [hw4]
 have HQ4:=zC q4
 have HP4:=zC (HP3.out.keeps kw (by omega));have HCK4:=zC (HCK3.out.keeps kw (by omega));have HS4:=zC (HS3.out.keeps kw (by omega))
 have HK4:=zC (HK3.out.trans' kw (U:=fun y=>w.heap.size≤y) (fun _ _ h=>h) (fun y _ h=>by omega))
 have hz4:=kw.size
 clear kw q4 hw4 c0 c1 c2 c3 c4 c5 g4'
 go_loopw [52] (fun ix wr=>∃ (j:Nat) (bb:Nat→Nat) (v:Value),j≤k∧ix = .int .i64 j∧wr.heap[w.heap.size]?=some (.cells #[.int .i64 n,.int .i64 k,.pointer (some ⟨w1.heap.size,0,none⟩),.pointer (some ⟨w.heap.size+1,0,none⟩),.pointer (some ⟨w2.heap.size,0,none⟩),v] 136)∧
  wr.ownsRow w4.heap.size 140 1 v j (ptrs bb j)∧(∀ x,x<j→BfAt wr (bb x) ⟨fun _=>0,p,0,0,true⟩∧w4.heap.size≤bb x)∧(∀ x y,x<j→y<j→bb x=bb y→x=y)∧zA (fun y=>y=w.heap.size∨w4.heap.size≤y) w4 wr) (fun ix _=>k - (intOf ix).toNat)
 case atStart=>exact⟨0,fun _=>0,_,Nat.zero_le _,rfl,HQ4.out,World.ownsRow_nil _ _ _ _,fun _ h=>by omega,fun _ _ h=>by omega,zA.refl _ _⟩
 case round=>
  obtain⟨j,bb,v,hj,rfl,hq,hrow,hbf,hinj,hkk⟩:=hrel
  by_cases hlt:j<k
  ·have hlt':(j:Int)<(k:Int):=by omega
   have hj0:(0:Int)≤j:=by omega
   have hszr:=hkk.size
   have HQ:=zC hq;have HROW:=zC hrow;have HBF:=zC hbf;have HINJ:=zC hinj;have HKK:=zC hkk
   clear hq hrow hbf hinj hkk
   go_wp2_with fail
   refine (HB.out _).mono ?_
   rintro e w5 ⟨rfl,hk5,hb5⟩
   have hq5:=zB HQ.out hk5 (fun h=>h)
   obtain⟨x0,x1,x2,x3,x4,x5,xl⟩:=zY hq5
   have f5:=zL hq5 5
   have HR5:=zC (owns_keeps HROW.out hk5 (fun _ _ h=>h))
   have HQ5:=zC hq5;have HB5:=zC hb5;have HK5:=zC hk5
   have hsz5:=hk5.size
   clear hk5 hb5 hq5
   go_wp2_with (at_builtin;refine wpList_append_own _ rfl _ _ 134 rfl w4.heap.size 140 ii (.pointer none) 1 8 Tryz.underlying134 hi1 hi2 hi3 hi4 rfl (by decide) _ _ _ rfl (World.ownsRow.alloc HR5.out _) ⟨w5.heap.size,0,none⟩ 1 1 [.pointer (some ⟨wr.heap.size,0,none⟩)] rfl ?qc1 ?qc2 ?qc3 ?qc4 ?qc5 ?qc6 ?_)
   case qc1=>rfl
   case qc2=>
    intro i u hi
    match i,hi with
    | 0,hi=>simp at hi;subst hi;simp [Addr.add]
   case qc3=>intro u hu;simp at hu;subst hu;rfl
   case qc4=>unfold maxLen;omega
   case qc5=>omega
   case qc6=>simp;omega
   intro v' w6 hown hgr _
   obtain⟨p',cap',hv'⟩:=zW hown
   have hro:=HR5.out.lt
   have hgk:=qC hgr
   have hnw:¬ v.ownBlock=some w.heap.size:=fun h=>by have:=(hro _ h).1;omega
   have hnb:∀ {x:Nat} {c:Array Value},w5.heap[x]?=some (.cells c 234)→¬ v.ownBlock=some x:=by
    intro x c hx h
    obtain⟨_,h2⟩:=HR5.out
    rcases h2 with⟨h2,_⟩ | ⟨g,cap,cur,rfl,hb,hg,r⟩
    ·subst h2;cases h
    ·simp only [Value.ownBlock,Option.some.injEq] at h
     exact zM hx hg (by decide) h.symm
   have q6:=zB (zG (o:=.cells #[.pointer (some ⟨wr.heap.size,0,none⟩)] 140) HQ5.out) hgk hnw
   have HR6:=zC hown
   have hbb6:∀ (x:Nat) (B:Bf),BfAt w5 x B→BfAt w6 x B:=by
    rintro x B ⟨c,hx,hc⟩
    exact⟨c,zB (zG (o:=.cells #[.pointer (some ⟨wr.heap.size,0,none⟩)] 140) hx) hgk (hnb hx),hc⟩
   have HBB:=zC hbb6
   have f6:=zL q6 5
   have c6:=zD (i:=5) q6 rfl
   have HQ6:=zC q6
   have hsz6:=hgk.size
   have HK6:=zC (((HK5.out.up (T:=fun y=>y=w.heap.size∨w4.heap.size≤y)).alloc (.cells #[.pointer (some ⟨wr.heap.size,0,none⟩)] 140)).trans' hgk (U:=fun y=>y=w.heap.size∨w4.heap.size≤y) (fun _ _ h=>h) (fun y _ h=>.inr (hro _ h).1))
   have HV:=zC hv'
   clear hown hgr hgk q6 hro hv' hnw hnb hbb6
   obtain rfl:=HV.out
   simp only [World.size_alloc] at hsz6
   go_wp2_with fail
   have hB0:=HBF.out
   have hsz:=HKK.out.size
   have kl:zA (fun y=>y=w.heap.size) w6 (w6.setCell ⟨w.heap.size,5,none⟩ (.slice p' (j+1) cap')):=zJ _ _ _ _
   refine⟨⟨j+1,zU bb j wr.heap.size,_,by omega,rfl,zH HQ6.out 5 _,?_,?_,?_,?_⟩,by simp [intOf];omega⟩
   ·rw [ptrs_succ]
    have h:=owns_keeps HR6.out kl (fun y hy h=>by omega)
    exact h
   ·intro x hx
    by_cases he:x=j
    ·subst he
     simp only [zR]
     exact⟨(HBB.out _ _ HB5.out).keeps kl (by omega),by omega⟩
    ·simp only [zS _ _ he]
     have h:=hB0 x (by omega)
     have:=h.1.lt
     exact⟨(HBB.out _ _ (h.1.keeps HK5.out (fun h=>h))).keeps kl (by omega),h.2⟩
   ·intro x y hx hy hxy
    by_cases he:x=j <;> by_cases hf:y=j
    ·omega
    ·subst he
     simp only [zR,zS _ _ hf] at hxy
     have:=(hB0 y (by omega)).1.lt
     omega
    ·subst hf
     simp only [zR,zS _ _ he] at hxy
     have:=(hB0 x (by omega)).1.lt
     omega
    ·simp only [zS _ _ he,zS _ _ hf] at hxy
     exact HINJ.out x y (by omega) (by omega) hxy
   ·exact (HKK.out.trans' HK6.out (U:=fun y=>y=w.heap.size∨w4.heap.size≤y) (fun _ _ h=>h) (fun y _ h=>h)).trans' kl (fun _ _ h=>h) (fun y _ h=>.inl h)
  ·obtain rfl:j=k:=by omega
   have hlt':¬ (j:Int)<(j:Int):=by omega
   have HQ:=zC hq;have HROW:=zC hrow;have HBF:=zC hbf;have HINJ:=zC hinj;have HKK:=zC hkk
   obtain⟨p',cap',hv'⟩:=zW HROW.out
   have HV:=zC hv'
   clear hq hrow hbf hinj hkk hv'
   go_wp2_with fail
   obtain rfl:=HV.out
   have hsz:=HKK.out.size
   have hro:=HROW.out.lt
   obtain⟨rl,r2⟩:=HROW.out
   rcases r2 with⟨r2,hj0⟩ | ⟨g,cap,cur,r2,hb,hg,hjc,hcm,hcs,htk⟩
   ·omega
   obtain⟨rfl,rfl⟩:p'=some ⟨g,0,none⟩∧cap'=cap:=by cases r2;exact⟨rfl,rfl⟩
   have hgl:=zF hg
   have hkP:PtAt wr (w.heap.size+1) _:=HP4.out.keeps HKK.out (by omega)
   have hkC:CkAt wr w1.heap.size _:=HCK4.out.keeps HKK.out (by omega)
   have hkS:SqAt wr w2.heap.size _:=HS4.out.keeps HKK.out (by omega)
   go_ret2
   refine⟨rfl,?_,⟨w1.heap.size,w.heap.size+1,w2.heap.size,g,cap',bb⟩,⟨HQ.out,⟨cur,hg,?_⟩,hkC,hkP,hkS,fun x hx=>(HBF.out x hx).1,HINJ.out⟩,⟨by omega,by simp only;omega,by simp only;omega,by simp only;omega,by simp only;omega,?_⟩⟩
   ·exact (HK4.out.trans' HKK.out (U:=fun y=>w.heap.size≤y) (fun _ _ h=>h) (fun y _ h=>by rcases h with h | h <;> omega)).fresh
   ·intro x hx
    have e:cur.toList[x]?=(ptrs bb j)[x]?:=by
     rw [← htk,List.getElem?_take_of_lt (by simpa [Mk.new] using hx)]
    rw [Array.getElem?_toList] at e
    rw [e,ptrs,List.getElem?_map,List.getElem?_range (by simpa [Mk.new] using hx)]
    rfl
   ·intro x hx
    have h:=HBF.out x hx
    have:=h.1.lt
    simp only
    omega
def Mk.note (M:Mk) (i:Nat) (x:Int):Mk:=
 if (M.B i).n=(M.B i).size then { M with B:=zU M.B i (M.B i).over,P:=(shd M.P M.S x.toNat).1,S:=(shd M.P M.S x.toNat).2 }
 else { M with B:=zU M.B i ((M.B i).note x) }
theorem Mk.note_P (M:Mk) (i:Nat) (x:Int):(M.note i x).P.n=M.P.n:=by
 unfold Mk.note;split
 ·show (shd M.P M.S x.toNat).1.n=_
  unfold shd;split <;> rfl
 ·rfl
theorem Mk.note_K (M:Mk) (i:Nat) (x:Int):(M.note i x).K=M.K:=by
 unfold Mk.note;split <;> rfl
theorem cells4 {w:World} {b:Nat} {v0 v1 v2 v3:Value} {t:TypeId} (h:w.heap[b]?=some (.cells #[v0,v1,v2,v3] t)):
 w.cell? ⟨b,0,none⟩=some v0∧w.cell? ⟨b,1,none⟩=some v1∧w.cell? ⟨b,2,none⟩=some v2∧w.cell? ⟨b,3,none⟩=some v3∧b<w.heap.size:=
 ⟨zD h rfl,zD h rfl,zD h rfl,zD h rfl,zF h⟩
theorem mmade_bad (m:Nat) (x g:Int) (L:MkL) (M:Mk) (w:World) (h:MkIn w m L M) (hb:x<0∨M.P.n≤x∨g=0):
 Calls Tryz.prog 94 #[.pointer (some ⟨m,0,none⟩),.agg #[.int .i64 x,.int .u32 g]] w fun e w'=>e = .returned (.int .i64 2)∧Kz w w':=by
 have kq:Kz w (w.alloc (.cells #[.int .i64 x,.int .u32 g] 51)):=(zA.refl _ w).alloc _
 have hB:=h.keeps0 kq
 have HV:=zC (mvalid m L M _ hB)
 obtain⟨d0,d1,d2,d3,d4,d5,dl⟩:=zY hB.own
 have HK:=zC kq
 clear h hB kq
 have fin:∀ (b c d:Bool),decide (x<0)=b→decide ((M.P.n:Int)≤x)=c→decide (g=0)=d→(b || c || d)=true→
  Calls Tryz.prog 94 #[.pointer (some ⟨m,0,none⟩),.agg #[.int .i64 x,.int .u32 g]] w fun e w'=>e = .returned (.int .i64 2)∧Kz w w':=by
  intro b c d hb hc hd hbcd
  cases b
  ·cases c
   ·cases d
    ·cases hbcd
    ·have hd':g=0:=by simpa using hd
     subst hd'
     clear hd hbcd
     go_in
     go_wp2_with fail
     refine zP HV.out ?_
     go_wp2_with fail
     go_quiet (fail)
     go_wp2_with fail
     go_ret
     exact⟨rfl,HK.out.drewN _⟩
   ·clear hd hbcd
    go_in
    go_wp2_with fail
    refine zP HV.out ?_
    go_wp2_with fail
    go_quiet (fail)
    go_wp2_with fail
    go_ret
    exact⟨rfl,HK.out.drewN _⟩
  ·clear hc hd hbcd
   go_in
   go_wp2_with fail
   refine zP HV.out ?_
   go_wp2_with fail
   go_quiet (fail)
   go_wp2_with fail
   go_ret
   exact⟨rfl,HK.out.drewN _⟩
 refine fin _ _ _ rfl rfl rfl ?_
 rcases hb with h | h | h <;> simp [h]
end Go.Proofs.YtjfmagccmjdhoaaGreat
namespace Go.Proofs.YtjfmagccmjdhoaaGreat
open Go.RowKit
theorem all_one {c:Array Value} (h:∀ i,i<c.size→∃ v,c[i]?=some v∧v.oneCell'=true):c.all (·.oneCell')=true:=by
 rw [Array.all_eq_true]
 intro i hi
 obtain⟨v,hv,h1⟩:=h i hi
 obtain⟨_,hx⟩:=Array.getElem?_eq_some_iff.1 hv
 rw [hx];exact h1
theorem BfC.one {c:Array Value} {B:Bf} (h:BfC c B):c.all (·.oneCell')=true:=all_one fun i hi=>by
 rw [h.sz] at hi
 by_cases h1:i<64
 ·exact⟨_,h.row i h1,rfl⟩
 ·have:i=64∨i=65∨i=66∨i=67:=by omega
  rcases this with rfl | rfl | rfl | rfl
  ·exact⟨_,h.size,rfl⟩
  ·exact⟨_,h.from',rfl⟩
  ·exact⟨_,h.n,rfl⟩
  ·exact⟨_,h.whole,rfl⟩
theorem bcopy_ok (b:Nat) (B:Bf) (w:World) (h:BfAt w b B):
 Calls Tryz.prog 83 #[.pointer (some ⟨b,0,none⟩)] w fun e w'=>e = .returned (.pointer (some ⟨w.heap.size,0,none⟩))∧Kz w w'∧BfAt w' w.heap.size B:=by
 have HV:=zC (bmade b B w h)
 obtain⟨c,hb,hc⟩:=h
 have hs:=hc.sz
 have HB:=zC hb;clear hb
 have HI:=zC (show (Tryz.prog.info? 234).map (·.size)=some c.size by rw [hs];kernel_rfl)
 have hst:∀ w':World,Sem.run Tryz.prog (storeCells ⟨w'.heap.size,0,none⟩ c.toList) (w'.alloc (.cells Tryz.zeroCells234 234)) = .ok () (w'.alloc (.cells c 234)):=
  fun w'=>run_storeCells_new w' _ _ c HI.out (by rw [Tryz.zeroCells234_size,hs]) hc.one
 have HC:=zC hc;clear hc
 have HS:=zC hs;clear hs
 go_in
 go_wp2_with fail
 refine zP HV.out ?_
 go_wp2_with (with_reducible refine wpList_load_row rfl _ _ rfl b rfl _ c _ _ HB.out Tryz.underlying234 rfl HI.out ?_)
 go_ret
 exact⟨rfl,(zA.refl _ _).alloc _,c,zE,HC.out⟩
theorem phcopy_ok (b:Nat) (K:Ck) (w:World) (h:CkAt w b K):
 Calls Tryz.prog 80 #[.pointer (some ⟨b,0,none⟩)] w fun e w'=>e = .returned (.pointer (some ⟨w.heap.size,0,none⟩))∧Kz w w'∧CkAt w' w.heap.size K:=by
 have HV:=zC (ph_valid b K w h)
 have HH:=zC h
 obtain⟨c0,c1,c2,c3,c4,c5,c6,c7,c8,c9,c10,cl⟩:=cells11 (by simpa only [Ck.arr] using h.own)
 clear h
 go_in
 go_wp2_with fail
 refine zP HV.out ?_
 go_wp2_with fail
 go_ret
 exact⟨rfl,(zA.refl _ _).alloc _,⟨zE,HH.out.m1,HH.out.m4,HH.out.p5⟩⟩
theorem mcopy_ok (m:Nat) (L:MkL) (M:Mk) (w:World) (h:MkIn w m L M):
 Calls Tryz.prog 26 #[.pointer (some ⟨m,0,none⟩)] w fun e w'=>∃ m' L',e = .returned (.pointer (some ⟨m',0,none⟩))∧Kz w w'∧MkIn w' m' L' M∧L'.Btw m' M.K.many w.heap.size w'.heap.size:=by
 obtain⟨ii,hi1,hi2,hi3,hi4⟩:=pbuf_info
 have HV:=zC (mvalid m L M w h)
 have hm4:=h.clk.m4
 have HM1:=zC h.clk.m1
 have HF:=zC (fun (W:World) (hk:zA (fun y=>w.heap.size≤y) w W)=>zY (zB h.own hk (by have:=zF h.own;omega)))
 have HPH:=zC (fun (W:World) (hk:zA (fun y=>w.heap.size≤y) w W)=>phcopy_ok L.c M.K W (h.clk.keeps hk (by have:=h.clk.lt;omega)))
 have HCC:=zC (fun (W:World) (hk:zA (fun y=>w.heap.size≤y) w W)=>ccopy_ok L.p M.P W (h.pt.keeps hk (by have:=h.pt.lt;omega)))
 have HQC:=zC (fun (W:World) (hk:zA (fun y=>w.heap.size≤y) w W)=>qcopy_ok L.s M.S W (h.st.keeps hk (by have:=h.st.lt;omega)))
 have HBC:=zC (fun (W:World) (hk:zA (fun y=>w.heap.size≤y) w W) (j:Nat) (hj:j<M.K.many)=>bcopy_ok (L.bb j) (M.B j) W ((h.bf j hj).keeps hk (by have:=(h.bf j hj).lt;omega)))
 have HRW:=zC (fun (W:World) (hk:zA (fun y=>w.heap.size≤y) w W) (j:Nat) (hj:j<M.K.many)=>(show W.cell? ⟨L.rb,j,none⟩=some (.pointer (some ⟨L.bb j,0,none⟩)) from by
  obtain⟨cur,hr,hc⟩:=h.row
  exact zD (zB hr hk (by have:=zF hr;omega)) (hc j hj)))
 clear h
 have HSK:=zC (fun (W:World) (hk:zA (fun y=>w.heap.size≤y) w W)=>let hq:=HF.out W hk;And.intro hq.1 (And.intro hq.2.1 (And.intro hq.2.2.1 (And.intro hq.2.2.2.1 hq.2.2.2.2.1))))
 go_in
 go_wp2_with fail
 refine zP HV.out ?_
 go_wp2_with fail
 go_cut [3] (fun s3 wx=>∃ B c' p' s',s3 = .pointer (some ⟨B,0,none⟩)∧zA (fun y=>w.heap.size≤y) w wx∧wx.heap[B]?=some (.cells #[.int .i64 M.P.n,.int .i64 M.K.many,.pointer (some ⟨c',0,none⟩),.pointer (some ⟨p',0,none⟩),.pointer (some ⟨s',0,none⟩),.slice none 0 0] 136)∧CkAt wx c' M.K∧PtAt wx p' M.P∧SqAt wx s' M.S∧w.heap.size≤B∧w.heap.size≤c'∧w.heap.size≤p'∧w.heap.size≤s'∧c'≠B∧p'≠B∧s'≠B)
 case first=>
  go_region_held3 (fun W=>W.cell? ⟨m,0,none⟩=some (.int .i64 M.P.n)∧W.cell? ⟨m,1,none⟩=some (.int .i64 M.K.many)∧W.cell? ⟨m,2,none⟩=some (.pointer (some ⟨L.c,0,none⟩))∧W.cell? ⟨m,3,none⟩=some (.pointer (some ⟨L.p,0,none⟩))∧W.cell? ⟨m,4,none⟩=some (.pointer (some ⟨L.s,0,none⟩)))
   ((refine HSK.out _ ?_;(with_reducible repeat first | exact zA.refl _ _ | refine zA.alloc ?_ _ | refine zA.drew ?_ | refine zA.trans ?_ (zA.up (by with_reducible assumption))) <;> (dsimp only;omega)))
   (first
    | (go_at_call 80;refine (HPH.out _ (by (with_reducible repeat first | exact zA.refl _ _ | refine zA.alloc ?_ _ | refine zA.drew ?_ | refine zA.setCell ?_ (.inl ?_) _ | refine zA.trans ?_ (zA.up (by with_reducible assumption))) <;> first | rfl | exact Nat.le_refl _)).mono ?_;rintro e w2 ⟨rfl,hk2,hC2⟩)
    | (go_at_call 81;refine (HCC.out _ (by (with_reducible repeat first | exact zA.refl _ _ | refine zA.alloc ?_ _ | refine zA.drew ?_ | refine zA.setCell ?_ (.inl ?_) _ | refine zA.trans ?_ (zA.up (by with_reducible assumption))) <;> first | rfl | exact Nat.le_refl _)).mono ?_;rintro e w3 ⟨rfl,hk3,hP3⟩)
    | (go_at_call 82;refine (HQC.out _ (by (with_reducible repeat first | exact zA.refl _ _ | refine zA.alloc ?_ _ | refine zA.drew ?_ | refine zA.setCell ?_ (.inl ?_) _ | refine zA.trans ?_ (zA.up (by with_reducible assumption))) <;> first | rfl | exact Nat.le_refl _)).mono ?_;rintro e w4 ⟨rfl,hk4,hS4⟩))
  all_goals
   go_wp2_with fail
   go_meet
   have hx2:=hC2.lt;have hx3:=hP3.lt;have hx4:=hS4.lt;have hz2:w.heap.size≤w2.heap.size:=hk2.size;have hz3:w2.heap.size≤w3.heap.size:=hk3.size;have hz4:w3.heap.size≤w4.heap.size:=hk4.size
   exact⟨w4.heap.size,_,_,_,rfl,(by (with_reducible repeat first | exact zA.refl _ _ | refine zA.alloc ?_ _ | refine zA.drew ?_ | refine zA.trans ?_ (zA.up (by with_reducible assumption)))),zE,hC2.keeps (S:=fun _=>False) zA.r (fun h=>h),hP3.keeps (S:=fun _=>False) zA.r (fun h=>h),hS4.keeps (S:=fun _=>False) zA.r (fun h=>h),by omega,by omega,by omega,by omega,by omega,by omega,by omega⟩
 case rest=>
 obtain⟨B,c',p',s',rfl,hkc,hq,hC,hP,hS,lB,lc',lp',ls',hBc,hBp,hBs⟩:=hcut
 have hlt1:=zF hq;have hlt2:=hC.lt;have hlt3:=hP.lt;have hlt4:=hS.lt
 have HKC:=zC hkc;have HQ4:=zC hq;have HCK4:=zC hC;have HP4:=zC hP;have HS4:=zC hS
 obtain⟨_,_,_,_,_,e5,el⟩:=HF.out _ hkc
 clear hkc hq hC hP hS
 go_wp2_with fail
 clear e5
 go_loopw [39] (fun ix wr=>∃ (j:Nat) (bb:Nat→Nat) (v:Value),j≤M.K.many∧ix = .int .i64 j∧wr.heap[B]?=some (.cells #[.int .i64 M.P.n,.int .i64 M.K.many,.pointer (some ⟨c',0,none⟩),.pointer (some ⟨p',0,none⟩),.pointer (some ⟨s',0,none⟩),v] 136)∧
  wr.ownsRow wc.heap.size 140 1 v j (ptrs bb j)∧(∀ x,x<j→BfAt wr (bb x) (M.B x)∧wc.heap.size≤bb x)∧(∀ x y,x<j→y<j→bb x=bb y→x=y)∧zA (fun y=>y=B∨wc.heap.size≤y) wc wr) (fun ix _=>M.K.many - (intOf ix).toNat)
 case atStart=>exact⟨0,fun _=>0,_,Nat.zero_le _,rfl,HQ4.out,World.ownsRow_nil _ _ _ _,fun _ h=>by omega,fun _ _ h=>by omega,zA.refl _ _⟩
 case round=>
  obtain⟨j,bb,v,hj,rfl,hq,hrow,hbf,hinj,hkk⟩:=hrel
  by_cases hlt:j<M.K.many
  ·have hlt':(j:Int)<(M.K.many:Int):=by omega
   have hj0:(0:Int)≤j:=by omega
   have hszr:=hkk.size
   have HK9:=zC (show zA (fun y=>w.heap.size≤y) w wr from HKC.out.trans' hkk (U:=fun y=>w.heap.size≤y) (fun _ _ h=>h) (fun y _ h=>by have h':y=B∨wc.heap.size≤y:=h;have:=HKC.out.size;show w.heap.size≤y;omega))
   have hcell:=HRW.out _ HK9.out j hlt
   have e5:=zD (i:=5) hq rfl
   have f0:=zL hq 5
   have lq:=zF hq
   have HQ:=zC hq;have HROW:=zC hrow;have HBF:=zC hbf;have HINJ:=zC hinj;have HKK:=zC hkk
   clear hq hrow hbf hinj hkk
   go_wp2_with fail
   clear hcell
   have hsep:∀ {W:World} {x:Nat} {c:Array Value},W.heap[x]?=some (.cells c 234)→W.ownsRow wc.heap.size 140 1 v j (ptrs bb j)→¬ v.ownBlock=some x:=by
    intro W x c hx hR h
    obtain⟨_,h2⟩:=hR
    rcases h2 with⟨h2,_⟩ | ⟨g,cap,cur,rfl,hb,hg,r⟩
    ·subst h2;cases h
    ·simp only [Value.ownBlock,Option.some.injEq] at h
     exact zM hx hg (by decide) h.symm
   have HSEP:=zC (fun (W:World) (x:Nat) (c:Array Value) hx hR=>hsep (W:=W) (x:=x) (c:=c) hx hR)
   have HNB:=zC (show ¬ v.ownBlock=some B from fun h=>by have:=(HROW.out.lt _ h).1;omega)
   clear hsep
   go_region_law (first
    | (refine step_append_lies _ (by rfl) _ _ 134 (by rfl) wc.heap.size 140 ii (.pointer none) 1 8 Tryz.underlying134 hi1 hi2 hi3 hi4 rfl (by decide) v j (ptrs bb j) (by rfl) (owns_keeps (S:=fun _=>False) HROW.out zA.r (fun _ _ h=>h)) ⟨_,0,none⟩ 1 1 [.pointer (some ⟨wr.heap.size,0,none⟩)] (by rfl) (by rfl) (World.news_of_block (cs:=#[.pointer (some ⟨wr.heap.size,0,none⟩)]) zE) (fun u hu=>by simp at hu;subst hu;rfl) (by decide) (by unfold maxLen;omega) (by omega) (by simp;omega) _ rfl ?_;intro g cap w6 hown hgr hat hlt6;have q6:=zB (zB (S:=fun _=>False) HQ.out zA.r (fun h=>h)) (qC hgr) HNB.out;have x6:w6.cell? ⟨B,5,none⟩=some v:=zD q6 rfl;have f6:=zL q6 5;have l6:=zF q6)
    | (go_simp;go_at_call 83;refine (HBC.out _ (by (with_reducible repeat first | exact HK9.out | refine zA.alloc ?_ _ | refine zA.drew ?_ | refine zA.setCell ?_ (.inl ?_) _ | refine zA.trans ?_ (zA.up (by with_reducible assumption))) <;> first | rfl | exact Nat.le_refl _) j hlt).mono ?_;rintro e w5 ⟨rfl,hk5,hb5⟩;have hsz5:wr.heap.size≤w5.heap.size:=hk5.size;have x5:w5.cell? ⟨B,5,none⟩=some v:=zD (zB (w:=wr.drew) (S:=fun _=>False) HQ.out hk5 (fun h=>h)) rfl;have l5:B<w5.heap.size:=by omega))
   all_goals
    have hgk:=qC hgr
    have k6:zA (fun y=>v.ownBlock=some y) wr w6:=by
     refine zA.trans ?_ hgk
     (with_reducible repeat first | exact zA.refl _ _ | refine zA.alloc ?_ _ | refine zA.drew ?_ | refine zA.trans ?_ (zA.up (by with_reducible assumption)))
    have HK6:=zC k6;have HOWN:=zC hown;have HL6:=zC hsz5;have HQ6:=zC q6
    have HB5:=zC (show BfAt w6 wr.heap.size (M.B j) by
     obtain⟨c,hx,hc⟩:=hb5
     exact⟨c,zB (zB (S:=fun _=>False) hx zA.r (fun h=>h)) hgk (fun h=>by have:=(HROW.out.lt _ h).2;omega),hc⟩)
    clear k6 hown hgk hgr hat q6 hk5 hb5 hsz5 x6
    go_wp2_with fail
    have kl:zA (fun y=>y=B) w6 (w6.setCell ⟨B,5,none⟩ (.slice (some ⟨g,0,none⟩) (j+1) cap)):=zJ _ _ _ _
    have hz6:=HK6.out.size
    refine⟨⟨j+1,zU bb j wr.heap.size,_,by omega,by go_num,zH HQ6.out 5 _,?_,?_,?_,?_⟩,by simp [intOf];omega⟩
    ·rw [ptrs_succ]
     exact owns_keeps HOWN.out kl (fun y hy h=>by omega)
    ·intro x hx
     by_cases he:x=j
     ·subst he
      simp only [zR]
      exact⟨HB5.out.keeps kl (by omega),by omega⟩
     ·simp only [zS _ _ he]
      obtain⟨⟨c,hx1,hc⟩,hl⟩:=HBF.out x (by omega)
      have:=zF hx1
      exact⟨BfAt.keeps ⟨c,zB hx1 HK6.out (HSEP.out _ _ _ hx1 HROW.out),hc⟩ kl (by omega),hl⟩
    ·intro x y hx hy hxy
     by_cases he:x=j <;> by_cases hf:y=j
     ·omega
     ·subst he
      simp only [zR,zS _ _ hf] at hxy
      have:=(HBF.out y (by omega)).1.lt
      omega
     ·subst hf
      simp only [zR,zS _ _ he] at hxy
      have:=(HBF.out x (by omega)).1.lt
      omega
     ·simp only [zS _ _ he,zS _ _ hf] at hxy
      exact HINJ.out x y (by omega) (by omega) hxy
    ·exact (HKK.out.trans' HK6.out (U:=fun y=>y=B∨wc.heap.size≤y) (fun _ _ h=>h) (fun y _ h=>.inr (HROW.out.lt _ h).1)).trans' kl (fun _ _ h=>h) (fun y _ h=>.inl h)
  ·obtain rfl:j=M.K.many:=by omega
   have hlt':¬ (M.K.many:Int)<(M.K.many:Int):=by omega
   have HQ:=zC hq;have HROW:=zC hrow;have HBF:=zC hbf;have HINJ:=zC hinj;have HKK:=zC hkk
   obtain⟨p'',cap',hv'⟩:=zW HROW.out
   have HV':=zC hv'
   clear hq hrow hbf hinj hkk hv'
   go_wp2_with fail
   obtain rfl:=HV'.out
   have hsz:=HKK.out.size
   have hro:=HROW.out.lt
   have hM1:=HM1.out
   obtain⟨rl,r2⟩:=HROW.out
   rcases r2 with⟨r2,hj0⟩ | ⟨g,cap,cur,r2,hb,hg,hjc,hcm,hcs,htk⟩
   ·omega
   obtain⟨rfl,rfl⟩:p''=some ⟨g,0,none⟩∧cap'=cap:=by cases r2;exact⟨rfl,rfl⟩
   have hgl:=zF hg
   have hny:∀ y,y≠B→y<wc.heap.size→¬ (y=B∨wc.heap.size≤y):=fun y h1 h2 h=>by omega
   go_ret
   refine⟨B,rfl,?_,⟨c',p',s',g,cap',bb⟩,⟨HQ.out,⟨cur,hg,?_⟩,HCK4.out.keeps HKK.out (hny _ hBc hlt2),HP4.out.keeps HKK.out (hny _ hBp hlt3),HS4.out.keeps HKK.out (hny _ hBs hlt4),fun x hx=>(HBF.out x hx).1,HINJ.out⟩,⟨by omega,⟨by show w.heap.size≤c';omega,by show c'<_;omega⟩,⟨by show w.heap.size≤p';omega,by show p'<_;omega⟩,⟨by show w.heap.size≤s';omega,by show s'<_;omega⟩,⟨by show w.heap.size≤g;omega,by show g<_;omega⟩,?_⟩⟩
   ·exact (HKC.out.trans' HKK.out (U:=fun y=>w.heap.size≤y) (fun _ _ h=>h) (fun y _ h=>by have h':y=B∨wc.heap.size≤y:=h;show w.heap.size≤y;omega)).fresh
   ·intro x hx
    have e:cur.toList[x]?=(ptrs bb M.K.many)[x]?:=by
     rw [← htk,List.getElem?_take_of_lt (by simpa using hx)]
    rw [Array.getElem?_toList] at e
    rw [e,ptrs,List.getElem?_map,List.getElem?_range (by simpa using hx)]
    rfl
   ·intro x hx
    have h:=HBF.out x hx
    have:=h.1.lt
    exact⟨by show w.heap.size≤bb x;omega,by show bb x<_;omega⟩
end Go.Proofs.YtjfmagccmjdhoaaGreat
