import Derived.Test.YtkpnmajocgcccaaGreatRcE
set_option maxHeartbeats 4000000
set_option maxRecDepth 100000
namespace Go.Proofs.YtkpnmajocgcccaaGreat
open Go.RowKit
set_option linter.unusedVariables false
set_option linter.unusedSimpArgs false
theorem hobject_any (b t:Nat) (H:Hp) (r:Rf) (w:World) (h:HpAt w b t H):∃ o:Ob,
 Calls Tryz.prog 72 #[.pointer (some ⟨b,0,none⟩),.agg #[.int .i64 r.s,.int .u32 r.g]] w fun e w'=>e = .returned (.tuple #[.agg o.arr,.int .i64 (ckV H.T r.s r.g)])∧Keeps (fun _=>False) w w':=by
 by_cases hc:ckV H.T r.s r.g=0
 ·obtain⟨i,e1,e2,e3,e4⟩:=ckV_ok hc
  refine⟨H.ob i,?_⟩
  rw [hc]
  rw [e1] at hc ⊢
  exact hobject_ok b t H i r.g w h hc
 ·exact⟨_,hobject_bad b t H r.s r.g w h hc⟩
def thrE (H:Hp):List Rf→Int
 | []=>0
 | r :: l=>if r.nz=false then thrE H l else if ckV H.T r.s r.g=0 then thrE H l else ckV H.T r.s r.g
theorem thrE_zero {H:Hp}:∀ {l:List Rf},thrE H l=0→∀ r∈l.filter (·.nz),There H r
 | [],_,r,hr=>by cases hr
 | x :: l,h,r,hr=>by
  unfold thrE at h
  split at h
  ·rename_i hx
   rw [List.filter_cons_of_neg (by rw [hx];decide)] at hr
   exact thrE_zero h r hr
  ·rename_i hx
   split at h
   ·rename_i hc
    rw [List.filter_cons_of_pos (by simpa using hx)] at hr
    rcases List.mem_cons.1 hr with rfl | hr
    ·exact hc
    ·exact thrE_zero h r hr
   ·rename_i hc;exact absurd h hc
theorem there_ok (b t:Nat) (H:Hp) (v:Value) (l:List Rf) (w:World) (h:HpAt w b t H) (hv:Refs w v l) (hn:l.length≤4096):
 Calls Tryz.prog 37 #[.pointer (some ⟨b,0,none⟩),v] w fun e w'=>∃ v',e = .returned (.tuple #[v',.int .i64 (thrE H l)])∧(thrE H l=0→Row w' w.heap.size v' (l.filter (·.nz)))∧(thrE H l≠0→v' = .slice none 0 0)∧Keeps (fun _=>False) w w':=by
 obtain⟨p,c,rfl⟩:=hv.slice
 have HV:=hid (fun W (hk:Keeps (fun _=>False) w W)=>(hv.keeps hk (fun _ _ h=>h)).cell.2)
 have HW:=hid (fun W (hk:Keeps (fun _=>False) w W)=>h.keeps hk (fun h=>h) (fun h=>h))
 have HCP:=hid (hcopy_ok b t H w h)
 clear h hv
 obtain⟨E,hE⟩:∃ E,thrE H l=E:=⟨_,rfl⟩
 have HE:=hid hE
 rw [hE]
 clear hE
 go_enter Tryz.func37,Tryz.ntmps37
 go_wp2_with fail
 refine HCP.out.mono ?_
 rintro e w1 ⟨b',t',rfl,k1,_,_,_⟩
 have K1:=hid k1
 clear k1
 go_wp2_with fail
 go_loopw [6,16] (fun s6 ix wr=>∃ (k:Nat) (p6:Option Addr) (c6:Nat),k≤l.length∧ix = .int .i64 k∧s6 = .slice p6 ((l.take k).filter (·.nz)).length c6∧Hid (Row wr w.heap.size (.slice p6 ((l.take k).filter (·.nz)).length c6) ((l.take k).filter (·.nz)))∧Hid (thrE H (l.drop k)=E)∧Hid (Keeps (fun _=>False) w wr)) (fun _ ix _=>l.length - (intOf ix).toNat)
 case atStart=>exact⟨0,none,0,Nat.zero_le _,rfl,rfl,hid (Row.nil _ _),HE,K1⟩
 case round=>
  obtain⟨k,p6,c6,hk,rfl,rfl,HR,HT,HK⟩:=hrel
  have hk0:(0:Int)≤k:=by omega
  by_cases hlt:k<l.length
  ·obtain⟨x,hx⟩:∃ x,l[k]?=some x:=⟨_,List.getElem?_eq_getElem hlt⟩
   obtain⟨g,rfl,hgl,c0,c1⟩:=HV.out wr HK.out k x hx
   have hlt':(k:Int)<(l.length:Int):=by omega
   have hql:=fun W=>eql_ref W x.s x.g 0 0
   have hqn:(x.s == 0 && x.g == 0) = !x.nz:=by unfold Rf.nz;simp
   rw [hqn] at hql
   have hdr:l.drop k=x :: l.drop (k+1):=by
    obtain⟨_,h⟩:=List.getElem?_eq_some_iff.1 hx
    rw [← h,List.getElem_cons_drop]
   have htk:l.take (k+1)=l.take k ++ [x]:=by rw [List.take_add_one,hx];rfl
   obtain⟨wa,hwa⟩:∃ wa,wr.alloc (.cells #[.int .i64 x.s,.int .u32 x.g] 41)=wa:=⟨_,rfl⟩
   have ka:Keeps (fun _=>False) wr wa:=by rw [← hwa];exact (Keeps.refl _ _).alloc _
   have qy:wa.heap[wr.heap.size]?=some (.cells #[.int .i64 x.s,.int .u32 x.g] 41):=by rw [← hwa];exact alloc_new
   obtain⟨y0,y1,_,yl⟩:=cells2 qy
   have HKa:=hid (HK.out.trans ka)
   have HRa:=hid (HR.out.keeps ka (fun _ _ _ _ h=>h))
   have HWa:=hid hwa;have HQ:=hid qy
   have HT0:=HT.out
   rw [hdr] at HT0
   unfold thrE at HT0
   have HT1:=hid HT0
   have HTK:=hid htk
   clear HV hx hdr htk ka qy hwa HT HT0 hqn
   rcases hz:x.nz with _ | _
   ·have HF:=hid (show (l.take (k+1)).filter (·.nz)=(l.take k).filter (·.nz) by rw [HTK.out,List.filter_append];simp [hz])
    have HT2:=hid (show thrE H (l.drop (k+1))=E by have:=HT1.out;rw [if_pos hz] at this;exact this)
    rw [hz] at hql
    clear hz HT1
    go_wp2_with fail
    rw [HWa.out]
    go_wp2_with fail
    refine⟨⟨k+1,p6,c6,by omega,by go_num,?_,?_,HT2,HKa⟩,by simp [intOf];omega⟩
    ·rw [HF.out]
    ·rw [HF.out];exact HRa
   ·have HF:=hid (show (l.take (k+1)).filter (·.nz)=(l.take k).filter (·.nz) ++ [x] by rw [HTK.out,List.filter_append];simp [hz])
    obtain⟨o,ho⟩:=hobject_any b t H x wa (HW.out _ HKa.out)
    obtain⟨ec,hec⟩:∃ ec,ckV H.T x.s x.g=ec:=⟨_,rfl⟩
    rw [hec] at ho
    have HO:=hid ho
    have HT2:=HT1.out
    rw [if_neg (by rw [hz];decide),hec] at HT2
    rw [hz] at hql
    by_cases he0:ec=0
    ·subst he0
     rw [if_pos rfl] at HT2
     have HT3:=hid HT2
     have hnl:((l.take k).filter (·.nz)).length≤4096:=Nat.le_trans (List.length_filter_le _ _) (by rw [List.length_take];omega)
     clear ho hec HT1 HT2 hz
     go_wp2_with fail
     rw [HWa.out]
     go_wp2_with fail
     refine HO.out.mono ?_
     rintro e w4 ⟨rfl,k4⟩
     dsimp only [Ob.arr]
     obtain⟨wb,hwb⟩:∃ wb,w4.alloc (.cells o.arr 122)=wb:=⟨_,rfl⟩
     have kb:Keeps (fun _=>False) wa wb:=by rw [← hwb];exact k4.alloc _
     have HKb:=hid (HKa.out.trans kb)
     have HRb:=hid (HRa.out.keeps kb (fun _ _ _ _ h=>h))
     have HRO:=hid (refs_one (alloc_new (w:=wb) (o:=.cells #[.int .i64 x.s,.int .u32 x.g] 41)))
     have HVD:=hid (HRb.out.keeps ((Keeps.refl (fun _=>False) _).alloc (.cells #[.int .i64 x.s,.int .u32 x.g] 41)) (fun _ _ _ _ h=>h))
     have hsb:=HKb.out.size
     obtain⟨z0,z1,_,zl⟩:=cells2 (block_keep HQ.out k4 (fun h=>h))
     have zl1:wr.heap.size<w4.heap.size+1:=by omega
     clear kb k4 y0 y1
     subst hwb
     unfold Ob.arr at HVD HRO HKb HRb hsb
     rw [World.size_alloc] at HRO
     go_wp2_with (first
      | (at_builtin;refine wpList_append_refs _ rfl _ _ rfl w.heap.size _ _ ((l.take k).filter (·.nz)) [x] rfl rfl HVD.out HRO.out (by rw [List.length_singleton];omega) (by rw [World.size_alloc];omega) ?_;intro v5 w5 hr5 hk5 ho5;obtain⟨p5,c5,rfl⟩:=hr5.refs.slice)
      | fail)
     have HR5:=hid hr5
     have hlt5:=HVD.out.lt
     refine⟨⟨k+1,p5,c5,by omega,by go_num,?_,?_,HT3,?_⟩,by simp [intOf];omega⟩
     ·rw [HF.out];simp
     ·rw [HF.out];exact HR5
     ·exact hid ((HKb.out.alloc _).trans' hk5 (fun _ _ h=>h) (fun y hy hz=>by have:=(hlt5 y hz).1;omega))
    ·rw [if_neg he0] at HT2
     have hE0:E≠0:=by rw [← HT2];exact he0
     have hne:(ec == 0)=false:=by simpa using he0
     have HT3:=hid HT2
     clear ho hec HT1 HT2 hz HE
     go_wp2_with fail
     rw [HWa.out]
     go_wp2_with fail
     refine HO.out.mono ?_
     rintro e w4 ⟨rfl,k4⟩
     dsimp only [Ob.arr]
     have HK4:=hid (HKa.out.trans k4)
     clear k4
     go_wp2_with fail
     go_ret2
     exact⟨.slice none 0 0,by rw [HT3.out];rfl,fun h=>absurd h hE0,fun _=>rfl,HK4.out.alloc _⟩
  ·have hlt':¬ (k:Int)<(l.length:Int):=by omega
   have ht:l.take k=l:=List.take_of_length_le (by omega)
   have hE0:E=0:=by rw [← HT.out,List.drop_eq_nil_of_le (by omega)];rfl
   rw [ht] at HR ⊢
   have HE0:=hid hE0
   clear hE0 ht HT
   go_wp2_with fail
   go_ret2
   exact⟨_,by rw [HE0.out];rfl,fun _=>HR.out,fun h=>absurd HE0.out h,HK.out⟩
def fromL (H:Hp) (l:List Rf):List Rf:=if thrE H l=0 then srt (explQ H (l.filter (·.nz))).keys else []
theorem from_ok (b t:Nat) (H:Hp) (v:Value) (l:List Rf) (w:World) (h:HpAt w b t H) (hv:Refs w v l) (hw:∀ r∈l,r.Wf) (hn:l.length≤4096):
 Calls Tryz.prog 8 #[.pointer (some ⟨b,0,none⟩),v] w fun e w'=>∃ v',e = .returned (.tuple #[v',.int .i64 (thrE H l)])∧Row w' w.heap.size v' (fromL H l)∧Keeps (fun _=>False) w w':=by
 have HT:=hid (there_ok b t H v l w h hv hn)
 have HW:=hid (fun W (hk:Keeps (fun _=>False) w W)=>h.keeps hk (fun h=>h) (fun h=>h))
 have hn12:=h.tab.n12
 have HNW:=hid (fun r (hr:r∈l.filter (·.nz))=>hw r (List.mem_filter.1 hr).1)
 have hfl:(l.filter (·.nz)).length≤4096:=Nat.le_trans (List.length_filter_le _ _) hn
 obtain⟨ec,hec⟩:∃ ec,thrE H l=ec:=⟨_,rfl⟩
 have HTH:=hid (fun (h:ec=0)=>thrE_zero (H:=H) (l:=l) (hec.trans h))
 have HFL:=hid (show fromL H l=if ec=0 then srt (explQ H (l.filter (·.nz))).keys else [] by unfold fromL;rw [hec])
 rw [hec] at HT
 rw [hec]
 clear h hv hw hn hec
 go_enter Tryz.func8,Tryz.ntmps8
 go_wp2_with fail
 refine HT.out.mono ?_
 rintro e w1 ⟨v1,rfl,hr1,hr2,k1⟩
 by_cases he:ec=0
 ·subst he
  have HR1:=hid (hr1 rfl);have K1:=hid k1
  have HEX:=hid (explore_ok b t H v1 _ w.heap.size w1 (HW.out _ k1) (HTH.out rfl) HNW.out (hr1 rfl) hfl)
  have HL:=hid (HTH.out rfl)
  have HNDL:=hid (show ∀ r∈(explQ H (l.filter (·.nz))).keys,There H r from fun r hr=>((explQ_mem (HTH.out rfl)).1 hr).there (HTH.out rfl))
  have HLEN:=hid (show (explQ H (l.filter (·.nz))).keys.length≤256 by rw [qe_len];have:=expl_len (HTH.out rfl) H.T.n;unfold explQ;omega)
  clear hr1 hr2 k1 HT HTH
  go_wp2_with fail
  refine HEX.out.mono ?_
  rintro e w2 ⟨v2,bm,rfl,hr,_,_,k2⟩
  have HR2:=hid hr
  have K2:=hid ((K1.out.trans' k2 (U:=fun y=>w.heap.size≤y) (fun _ _ h=>h.elim) (fun y _ h=>(HR1.out.lt y h).1)).fresh)
  have HS:=hid (rsort_ok v2 _ w1.heap.size w2 hr (fun r hr=>⟨(HNDL.out r hr).lt.1,by have:=(HNDL.out r hr).lt.2.1;omega⟩) (oneSlot_there HNDL.out) (by have:=HLEN.out;omega))
  clear hr k2
  go_wp2_with fail
  refine HS.out.mono ?_
  rintro e w3 ⟨rfl,hr3,k3⟩
  have HR3:=hid hr3
  have K3:=hid ((K2.out.trans' k3 (U:=fun y=>w.heap.size≤y) (fun _ _ h=>h.elim) (fun y _ h=>by have:=(HR2.out.lt y h).1;have:=K1.out.size;omega)).fresh)
  clear hr3 k3
  go_wp2_with fail
  go_ret2
  have e1:fromL H l=srt (explQ H (l.filter (·.nz))).keys:=by rw [HFL.out];simp
  rw [e1]
  exact⟨_,rfl,Row.mono HR3.out K1.out.size,K3.out⟩
 ·have hne:(ec == 0)=false:=by simpa using he
  have K1:=hid k1
  have HV:=hid (hr2 he)
  have HE:=hid he
  clear hr1 hr2 k1 HT HTH he
  go_wp2_with fail
  go_ret2
  have e1:fromL H l=[]:=by rw [HFL.out,if_neg HE.out]
  rw [e1]
  exact⟨_,rfl,Row.nil _ _,K1.out⟩
end Go.Proofs.YtkpnmajocgcccaaGreat
namespace Go.Proofs.YtkpnmajocgcccaaGreat
open Go.RowKit
set_option linter.unusedVariables false
set_option linter.unusedSimpArgs false
theorem rdelete_row (f:Nat) (caps:Array Value) (p:Rf→Bool) (v:Value) (l:List Rf) (base:Nat) (w:World) (hv:Row w base v l) (hl:l.length≤256) (eg:∀ args w,(callFunc f args).run Tryz.prog w = .ok (.enter f args) w)
 (hf:∀ x∈l,∀ W,Keeps (fun y=>v.ownBlock=some y) w W→Calls Tryz.prog f (#[.agg #[.int .i64 x.s,.int .u32 x.g]] ++ caps) W fun e W'=>e = .returned (.bool (p x))∧Keeps (fun _=>False) W W'):
 Calls Tryz.prog 67 #[v,.func (.func f) #[] caps] w fun e w'=>∃ v',e = .returned v'∧Row w' base v' (l.filter (fun x=>!p x))∧v'.ownBlock=v.ownBlock∧Keeps (fun y=>v.ownBlock=some y) w w':=by
 rcases hv.cells with⟨rfl,rfl⟩ | ⟨g,cap,cur,rfl,hb,hg,hc⟩
 ·have HIX:=hid (rindex f caps p (.slice none 0 0) [] w (.inl ⟨rfl,rfl⟩) hl eg (fun x hx=>by cases hx))
  clear hv hf
  go_enter Tryz.func67,Tryz.ntmps67
  go_wp2_with fail
  refine HIX.out.mono ?_
  rintro e w1 ⟨hix,k1⟩
  obtain rfl:e = .returned (.int .i64 (-1)):=by
   rcases hix with⟨k,r,h,_⟩ | ⟨_,h⟩
   ·cases h
   ·exact h
  clear hix
  go_wp2_with fail
  go_ret
  exact⟨_,rfl,Row.nil _ _,rfl,k1.up⟩
 ·obtain⟨h1,h2⟩:=hv
  rcases h2 with⟨e,_⟩ | ⟨g',cap',cur',e,_,hg',r1,r2,r3,r4⟩
  ·cases e
  ·injection e with e1 e2 e3
   injection e1 with e1
   injection e1 with e1
   subst e1;subst e3
   rw [hg] at hg'
   injection hg' with hg'
   injection hg' with hg'
   subst hg'
   refine (rdelete2 f caps p g cap cur l w hg (fun j r hj=>hc j r hj) hl r1 (by rw [r3];exact Nat.mul_le_mul_right 2 r1) eg (fun x hx W hk=>hf x hx W (hk.mono (fun y _ h=>by rw [h];rfl)))).mono ?_
   rintro e w' ⟨v',rfl,c',h1',rfl,h2',h3',h4'⟩
   exact⟨_,rfl,row_of hb h1' (Nat.le_trans (List.length_filter_le _ _) r1) r2 (h2'.trans r3) h3',rfl,h4'.mono (fun y _ h=>by rw [h];rfl)⟩
def Ar.stks (A:Ar) (k:Nat):List Rf:=(List.range k).flatMap (fun m=>(A.rt m).l)
def Ar.orig (A:Ar):List Rf:=hres A.H (A.glL ++ A.stks A.many)
def Ar.rq (A:Ar):Qe:=explQ A.H A.orig
theorem stks_succ (A:Ar) (k:Nat):A.stks (k+1)=A.stks k ++ (A.rt k).l:=by
 unfold Ar.stks;rw [List.range_succ,List.flatMap_append];simp
theorem orig_there {A:Ar}:∀ r∈A.orig,There A.H r:=fun r hr=>(mem_hres.1 hr).2
theorem rt_len (A:Ar) (m:Nat):(A.rt m).l.length=(A.rt m).n:=by simp [Sk.l]
theorem stks_mem {A:Ar} {k:Nat} {r:Rf} (h:r∈A.stks k):∃ m i,m<k∧i<(A.rt m).n∧r=(A.rt m).f i:=by
 obtain⟨m,hm,hr⟩:=List.mem_flatMap.1 h
 obtain⟨i,hi,rfl⟩:=List.mem_map.1 hr
 exact⟨m,i,List.mem_range.1 hm,List.mem_range.1 hi,rfl⟩
theorem glL_mem {A:Ar} {r:Rf} (h:r∈A.glL):∃ i,i<8∧r=A.gl i∧r.nz=true:=by
 obtain⟨h1,h2⟩:=List.mem_filter.1 h
 obtain⟨i,hi,rfl⟩:=List.mem_map.1 h1
 exact⟨i,List.mem_range.1 hi,rfl,h2⟩
theorem orig_ok {A:Ar} (hok:A.Ok) {r:Rf} (h:r∈A.glL ++ A.stks A.many):r.Ok:=by
 rcases List.mem_append.1 h with h | h
 ·obtain⟨i,hi,rfl,hz⟩:=glL_mem h
  exact (hok.gl i hi).ok hz
 ·obtain⟨m,i,hm,hi,rfl⟩:=stks_mem h
  exact (hok.rt m hm).2 i hi
theorem rq_there {A:Ar} {r:Rf} (h:r∈A.rq.keys):There A.H r:=((explQ_mem orig_there).1 h).there orig_there
theorem rq_len (A:Ar):A.rq.keys.length≤A.H.T.n:=by rw [qe_len];exact expl_len orig_there _
theorem rq_nd (A:Ar):A.rq.keys.Nodup:=(exp_all A.H A.orig A.H.T.n).nd
theorem there_wf {A:Ar} (hok:A.Ok) {r:Rf} (h:There A.H r):r.Wf:=by
 obtain⟨_,_,h3,_,h5⟩:=h.lt
 have:=hok.tb _ h3
 rw [h5] at this
 exact⟨by omega,by omega⟩
theorem look1 (b t B:Nat) (H:Hp) (r:Rf) (w:World) (hq:w.heap[B]?=some (.cells #[.pointer (some ⟨b,0,none⟩)] 33)) (h:HpAt w b t H):
 Calls Tryz.prog 121 #[.agg #[.int .i64 r.s,.int .u32 r.g],.pointer (some ⟨B,0,none⟩)] w fun e w'=>e = .returned (.bool (!(ckV H.T r.s r.g == 0)))∧Keeps (fun _=>False) w w':=by
 have HH:=hid (fun W (hk:Keeps (fun _=>False) w W)=>hhas_any b t H r.s r.g W (h.keeps hk (fun h=>h) (fun h=>h)))
 obtain⟨c0,_,_⟩:=cells1 hq
 have hl:=lt_block hq
 clear h hq
 go_enter Tryz.func121,Tryz.ntmps121
 go_wp2_with fail
 refine (HH.out _ ((Keeps.refl _ _).alloc _)).mono ?_
 rintro e w1 ⟨rfl,k1⟩
 go_wp2_with fail
 go_ret
 exact⟨rfl,((Keeps.refl _ _).alloc _).trans k1⟩
theorem look_ok (a:Nat) (LA:ArL) (A:Ar) (w:World) (h:ArIn w a LA A) (hok:A.Ok):
 Calls Tryz.prog 64 #[.pointer (some ⟨a,0,none⟩)] w fun e w'=>∃ b t v bm,e = .returned (.tuple #[.agg #[.pointer (some ⟨b,0,none⟩),v,.map (some bm)],.int .i64 0])∧
  HpAt w' b t A.H∧Row w' w.heap.size v A.rq.keys∧VMap w' bm (QV A.rq)∧Keeps (fun _=>False) w w':=by
 have HA:=hid (fun W (hk:Keeps (fun _=>False) w W)=>h.keeps0 hk)
 have HOK:=hid hok
 have hm1:=h.m1;have hm4:=h.m4
 have hmx:¬ (4:Int)<(A.many:Int):=by omega
 have hn256:=hok.n2
 clear h hok
 obtain⟨wz,hwz⟩:∃ wz,w.alloc (.cells #[.pointer none,.slice none 0 0,.map none] 105)=wz:=⟨_,rfl⟩
 have kz:Keeps (fun _=>False) w wz:=by rw [← hwz];exact (Keeps.refl _ _).alloc _
 have qz:wz.heap[w.heap.size]?=some (.cells #[.pointer none,.slice none 0 0,.map none] 105):=by rw [← hwz];exact alloc_new
 have KZ:=hid kz;have QZ:=hid qz;have HWZ:=hid hwz
 clear kz qz hwz
 go_enter Tryz.func64,Tryz.ntmps64
 go_wp2_with fail
 rw [HWZ.out]
 refine (aheap_ok a LA A wz (HA.out _ KZ.out)).mono ?_
 rintro e w1 ⟨b,t,rfl,k1,hb1,ht1,hh1⟩
 obtain⟨w2,hw2⟩:∃ w2,w1.alloc (.cells #[.pointer (some ⟨b,0,none⟩)] 33)=w2:=⟨_,rfl⟩
 have k2:Keeps (fun _=>False) w1 w2:=by rw [← hw2];exact (Keeps.refl _ _).alloc _
 have q2:w2.heap[w1.heap.size]?=some (.cells #[.pointer (some ⟨b,0,none⟩)] 33):=by rw [← hw2];exact alloc_new
 obtain⟨B,hB⟩:∃ B,w1.heap.size=B:=⟨_,rfl⟩
 have hsz:w.heap.size≤B:=by have:=KZ.out.size;have:=k1.size;omega
 rw [hB] at q2
 obtain⟨b0,_,bl⟩:=cells1 q2
 have K2:=hid ((KZ.out.trans k1).trans k2)
 have KZ2:=hid (show Keeps (fun _=>False) wz w2 from k1.trans k2)
 have HH:=hid (hh1.keeps k2 (fun h=>h) (fun h=>h));have Q2:=hid q2;have HW2:=hid hw2
 have hwb:w.heap.size<b:=by have:=lt_block QZ.out;omega
 have hwt:w.heap.size<t:=by have:=lt_block QZ.out;omega
 clear k1 k2 q2 hh1 hw2
 go_wp2_with fail
 rw [HW2.out]
 refine (aglobals_row a LA A w2 (HA.out _ K2.out)).mono ?_
 rintro e w3 ⟨v0,rfl,hr3,k3⟩
 have K3:=hid (K2.out.trans k3);have K23:=hid k3;have HR3:=hid (hr3.mono (Nat.le_refl _))
 clear hr3 k3
 go_wp2_with fail
 refine (asizes_ok a LA A w3 (HA.out _ K3.out)).mono ?_
 rintro e w4 ⟨rfl,k4⟩
 have K4:=hid (K3.out.trans k4);have K24:=hid (K23.out.trans k4);have HR4:=hid (HR3.out.keeps k4 (fun _ _ _ _ h=>h))
 clear k4 b0
 go_wp2_with fail
 go_loopw [5,26] (fun s5 ix wr=>∃ (k:Nat) (l:List Rf) (c:Nat) (p:Option Addr),k≤A.many∧ix = .int .i64 k∧s5 = .slice p l.length c∧Hid (Row wr w2.heap.size (.slice p l.length c) l)∧Hid (l=A.glL ++ A.stks k)∧l.length≤8+32 * k∧Hid (Keeps (fun _=>False) w2 wr)) (fun _ ix _=>A.many - (intOf ix).toNat)
 case atStart=>
  obtain⟨p,c,rfl⟩:=HR4.out.refs.slice
  exact⟨0,A.glL,c,p,Nat.zero_le _,rfl,rfl,HR4,hid (by simp [Ar.stks]),by have:=glL_len A;omega,K24⟩
 case round=>
  obtain⟨k,l,c,p,hk,rfl,rfl,HRl,HGl,hll,HKr⟩:=hrel
  have hk0:(0:Int)≤k:=by omega
  by_cases hlt:k<A.many
  ·have hlt':(k:Int)<(A.many:Int):=by omega
   have hrn:=(HOK.out.rt k hlt).1
   go_wp2_with fail
   refine (astackall_ok a LA A k wr (HA.out _ (K2.out.trans HKr.out)) hlt).mono ?_
   rintro e w5 ⟨v7,rfl,hr7,k5⟩
   have HR5:=hid (HRl.out.keeps k5 (fun _ _ _ _ h=>h));have HR7:=hid hr7.refs;have HK5:=hid (HKr.out.trans k5)
   have hlr:(A.rt k).l.length=(A.rt k).n:=rt_len A k
   clear hr7 k5
   go_wp2_with (first
    | (at_builtin;refine wpList_append_refs _ rfl _ _ rfl w2.heap.size _ _ l (A.rt k).l rfl rfl HR5.out HR7.out (by omega) HK5.out.size ?_;intro v9 w9 hr9 hk9 ho9)
    | fail)
   obtain⟨p9,c9,rfl⟩:=hr9.refs.slice
   refine⟨⟨k+1,l ++ (A.rt k).l,c9,p9,by omega,by go_num,rfl,hr9,hid (by rw [stks_succ,HGl.out,List.append_assoc]),by rw [List.length_append];omega,?_⟩,by simp [intOf];omega⟩
   exact hid (HK5.out.trans' hk9 (fun _ _ h=>h) (fun y hy hz=>by have:=(HR5.out.lt y hz).1;omega))
  ·have hlt':¬ (k:Int)<(A.many:Int):=by omega
   obtain rfl:k=A.many:=by omega
   have hl256:l.length≤256:=by omega
   have elook:∀ args w,(callFunc 121 args).run Tryz.prog w = .ok (.enter 121 args) w:=enters_of Tryz.func121 (by kernel_rfl) rfl
   have hbs:b<w2.heap.size:=HH.out.lt
   have hts:t<w2.heap.size:=HH.out.tab.lt
   have hown:∀ y,(Value.slice p l.length c).ownBlock=some y→w2.heap.size≤y:=fun y hy=>(HRl.out.lt y hy).1
   have HD:=hid (rdelete_row 121 #[.pointer (some ⟨B,0,none⟩)] (fun r=>!(ckV A.H.T r.s r.g == 0)) _ l w2.heap.size wr HRl.out hl256 elook
    (fun x hx W hk=>look1 b t B A.H x W (block_keep (block_keep Q2.out HKr.out (fun h=>h)) hk (fun h=>by have:=hown _ h;omega)) ((HH.out.keeps HKr.out (fun h=>h) (fun h=>h)).keeps hk (fun h=>by have:=hown _ h;omega) (fun h=>by have:=hown _ h;omega))))
   have HFO:=hid (show l.filter (fun x=>!(!(ckV A.H.T x.s x.g == 0)))=A.orig from by
    unfold Ar.orig hres
    rw [HGl.out]
    congr 1
    funext x
    simp)
   have HWF:=hid (show ∀ r∈A.orig,r.Wf from fun r hr=>(orig_ok HOK.out (mem_hres.1 hr).1).wf)
   have hol:A.orig.length≤4096:=by rw [← HFO.out];exact Nat.le_trans (List.length_filter_le _ _) (by omega)
   clear hlt HGl hll
   go_wp2_with fail
   refine HD.out.mono ?_
   rintro e w6 ⟨v6,rfl,hr6,ho6,k6⟩
   rw [HFO.out] at hr6
   have HR6:=hid hr6
   have K6:=hid (show Keeps (fun y=>w2.heap.size≤y) w2 w6 from HKr.out.trans' k6 (fun _ _ h=>h.elim) (fun y _ h=>hown y h))
   have HH6:=hid (HH.out.keeps K6.out (by omega) (by omega))
   obtain⟨x0,_,xl⟩:=cells1 (block_keep Q2.out K6.out (by omega))
   have HEX:=hid (explore_ok b t A.H v6 A.orig w2.heap.size w6 HH6.out orig_there HWF.out hr6 hol)
   clear hr6 ho6 k6 HD
   go_wp2_with fail
   refine HEX.out.mono ?_
   rintro e w7 ⟨v7,bm,rfl,hr7,hbm,hm7,k7⟩
   have hown6:∀ y,v6.ownBlock=some y→w2.heap.size≤y:=fun y hy=>(HR6.out.lt y hy).1
   have K7:=hid (K6.out.trans' k7 (fun _ _ h=>h) (fun y _ h=>hown6 y h))
   have HH7:=hid (HH.out.keeps K7.out (by omega) (by omega))
   obtain⟨y0,_,yl⟩:=cells1 (block_keep Q2.out K7.out (by omega))
   have HR7:=hid hr7;have HM7:=hid hm7
   have hzl:=lt_block QZ.out
   have hz2:=KZ2.out.size
   have q7:=block_keep (block_keep QZ.out KZ2.out (fun h=>h)) K7.out (by omega)
   have Q7:=hid q7
   have hl7:=lt_block q7
   obtain⟨p7,c7,rfl⟩:=hr7.refs.slice
   have hs67:=k7.size
   obtain⟨g0,g1,g2,gl⟩:=cells3 q7
   have gf:=frozen_block q7
   have hNw:w.heap.size<wz.heap.size:=hzl
   clear hr7 hm7 k7 x0 hown6 q7
   go_wp2_with fail
   have e3:=set_block (set_block (set_block Q7.out 0 (.pointer (some ⟨b,0,none⟩))) 1 (.slice p7 (explQ A.H A.orig).keys.length c7)) 2 (.map (some bm))
   have k8:Keeps (fun y=>y=w.heap.size) w7 (((w7.setCell ⟨w.heap.size,0,none⟩ (.pointer (some ⟨b,0,none⟩))).setCell ⟨w.heap.size,1,none⟩ (.slice p7 (explQ A.H A.orig).keys.length c7)).setCell ⟨w.heap.size,2,none⟩ (.map (some bm))):=
    Keeps.setCell (p:=⟨w.heap.size,2,none⟩) (Keeps.setCell (p:=⟨w.heap.size,1,none⟩) (Keeps.setCell (p:=⟨w.heap.size,0,none⟩) (Keeps.refl (fun y=>y=w.heap.size) w7) (.inl rfl) _) (.inl rfl) _) (.inl rfl) _
   obtain⟨w8,hw8⟩:∃ w8,(((w7.setCell ⟨w.heap.size,0,none⟩ (.pointer (some ⟨b,0,none⟩))).setCell ⟨w.heap.size,1,none⟩ (.slice p7 (explQ A.H A.orig).keys.length c7)).setCell ⟨w.heap.size,2,none⟩ (.map (some bm)))=w8:=⟨_,rfl⟩
   rw [hw8] at k8 e3 ⊢
   obtain⟨g0',g1',g2',gl'⟩:=cells3 e3
   have hres1:HpAt w8 b t A.H:=HH7.out.keeps k8 (by omega) (by omega)
   have hres2:=(HR7.out.keeps k8 (fun y h1 _ _ h=>by have:=K6.out.size;omega)).mono (b':=w.heap.size) (by have:=K6.out.size;omega)
   have hres3:=HM7.out.keeps k8 (by have:=K6.out.size;omega)
   have hres4:Keeps (fun _=>False) w w8:=((K2.out.trans' K7.out (U:=fun y=>w.heap.size≤y) (fun _ _ h=>h.elim) (fun y _ h=>by omega)).trans' k8 (fun _ _ h=>h) (fun y _ h=>by omega)).fresh
   have HRES:=hid (And.intro hres1 (And.intro hres2 (And.intro hres3 hres4)))
   clear hres1 hres2 hres3 hres4 k8 e3 hw8 HH7 HR7 HM7 K7 K6 HEX
   have z0:=Tryz.isAgg105 w8
   have z1:=Tryz.sizeOf105 w8
   refine bodyPost_ret_by (v:=.tuple #[.agg #[.pointer (some ⟨b,0,none⟩),.slice p7 (explQ A.H A.orig).keys.length c7,.map (some bm)],.int .i64 0]) (by simp [results,Tryz.results64,go_sem,z0,z1,g0',g1',g2']) rfl ⟨b,t,_,bm,rfl,HRES.out⟩
end Go.Proofs.YtkpnmajocgcccaaGreat
