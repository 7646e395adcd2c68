import Derived.Test.YtnlkfbndlngjaaaGreatMgB
import Derived.Laws.AppendOwn
set_option maxHeartbeats 8000000
set_option maxRecDepth 100000
namespace Go.Proofs.YtnlkfbndlngjaaaGreat
open Go.RowKit
attribute [local go_sem] Oper.semAt_some
structure Rf where
 s:Int
 g:Int
 deriving DecidableEq
def Rf.no:Rf:=⟨0,0⟩
def Rf.nz (r:Rf):Bool:=!(r.s == 0 && r.g == 0)
def Rf.bad (r:Rf):Bool:=r.nz && (decide (r.s<0) || decide (256≤r.s) || decide (r.g<1))
def Rf.Wf (r:Rf):Prop:=0≤r.g∧r.g≤4294967295
theorem Rf.nz_false {r:Rf} (h:r.nz=false):r = .no:=by
 obtain⟨s,g⟩:=r
 simp [Rf.nz] at h
 simp [Rf.no,h.1,h.2]
theorem neq_ref (w:World) (s g s' g':Int):
 Sem.run Tryz.prog (binOp .neq 34 (.agg #[.int .i64 s,.int .u32 g]) (.agg #[.int .i64 s',.int .u32 g'])) w = .ok (.bool (!(s == s' && g == g'))) w:=by
 have hS:Tryz.prog.underlying 34=some (.struct (Tryz.prog.fieldsOf 34)):=by kernel_rfl
 have hp:Tryz.prog.stoodInHeld 34=false:=by kernel_rfl
 rw [run_neq_struct,show (10000:Nat)=9999+1 from rfl,run_equalIn_agg w 9999 _ _ _ hS hp]
 simp only [Program.fieldsOf,Tryz.underlying34]
 go_simp
 by_cases h1:s=s' <;> by_cases h2:g=g' <;> simp [h1,h2]
theorem fwrong_any (r:Rf) (w:World) (hr:r.Wf):
 Calls Tryz.prog 244 #[.agg #[.int .i64 r.s,.int .u32 r.g]] w fun e w'=>e = .returned (.bool r.bad)∧Keeps (fun _=>False) w w':=by
 obtain⟨s,g⟩:=r
 obtain⟨g0,g1⟩:=hr
 dsimp only at g0 g1 ⊢
 have hn:=fun w=>neq_ref w s g 0 0
 rcases hz:Rf.nz ⟨s,g⟩ with _ | _
 ·have hz':(!(s == 0 && g == 0))=false:=hz
  have HB:=hid (show Rf.bad ⟨s,g⟩=false by simp [Rf.bad,hz])
  clear hz
  go_enter Tryz.func244,Tryz.ntmps244
  go_wp2_with fail
  go_ret
  exact⟨ret_bool HB.out.symm,by repeat (first | exact Keeps.refl _ _ | apply Keeps.alloc)⟩
 ·have hz':(!(s == 0 && g == 0))=true:=hz
  have HB:=hid (show Rf.bad ⟨s,g⟩=(decide (s<0) || decide (256≤s) || decide (g<1)) by simp [Rf.bad,hz])
  clear hz
  by_cases h1:s<0
  ·go_enter Tryz.func244,Tryz.ntmps244
   go_wp2_with fail
   go_ret
   exact⟨ret_bool (by rw [HB.out];simp [h1]),by repeat (first | exact Keeps.refl _ _ | apply Keeps.alloc)⟩
  ·by_cases h2:256≤s
   ·go_enter Tryz.func244,Tryz.ntmps244
    go_wp2_with fail
    go_ret
    exact⟨ret_bool (by rw [HB.out];simp [h2]),by repeat (first | exact Keeps.refl _ _ | apply Keeps.alloc)⟩
   ·by_cases h3:g<1
    ·obtain rfl:g=0:=by omega
     have hs0:(s == 0)=false:=by simpa using hz'
     clear hz'
     go_enter Tryz.func244,Tryz.ntmps244
     go_wp2_with fail
     refine (gcheck_bad _).mono ?_
     rintro e w' ⟨rfl,rfl⟩
     go_wp2_with fail
     go_ret
     exact⟨ret_bool (by rw [HB.out];simp),by repeat (first | exact Keeps.refl _ _ | apply Keeps.alloc)⟩
    ·go_enter Tryz.func244,Tryz.ntmps244
     go_wp2_with fail
     refine (gcheck_ok g _ (by omega) g1).mono ?_
     rintro e w' ⟨rfl,rfl⟩
     go_wp2_with fail
     go_ret
     exact⟨ret_bool (by rw [HB.out];simp;omega),by repeat (first | exact Keeps.refl _ _ | apply Keeps.alloc)⟩
structure Ob where
 n:Int
 f0:Rf
 f1:Rf
 f2:Rf
 f3:Rf
 h:Bool
def Ob.fs (o:Ob):Nat→Rf
 | 0=>o.f0
 | 1=>o.f1
 | 2=>o.f2
 | _=>o.f3
def Ob.arr (o:Ob):Array Value:=#[.int .i64 o.n,.int .i64 o.f0.s,.int .u32 o.f0.g,.int .i64 o.f1.s,.int .u32 o.f1.g,.int .i64 o.f2.s,.int .u32 o.f2.g,.int .i64 o.f3.s,.int .u32 o.f3.g,.bool o.h]
def Ob.upto (o:Ob):Nat→List (Nat × Rf)
 | 0=>[]
 | k+1=>o.upto k ++ (if (o.fs k).nz then [(k,o.fs k)] else [])
structure Ob.Good (o:Ob):Prop where
 n0:0≤o.n
 n4:o.n≤4
 hn:o.h=true→o.n=0
 wf:∀ i,(o.fs i).Wf
 ok:∀ i,i<4→(o.fs i).nz=true→(i:Int)<o.n∧(o.fs i).bad=false
def encF (x:Nat × Rf):Array Value:=#[.int .i64 x.1,.agg #[.int .i64 x.2.s,.int .u32 x.2.g]]
theorem Ob.upto_pre {o:Ob} (k n:Nat) (h:k≤n):∃ suf,o.upto n=o.upto k ++ suf:=by
 induction n with
 | zero=>obtain rfl:k=0:=by omega
         exact⟨[],by simp⟩
 | succ n ih=>
  by_cases e:k=n+1
  ·subst e;exact⟨[],by simp⟩
  ·obtain⟨suf,hs⟩:=ih (by omega)
   exact⟨suf ++ (if (o.fs n).nz then [(n,o.fs n)] else []),by simp [Ob.upto,hs]⟩
theorem Ob.upto_split {o:Ob} {k n:Nat} (h:k<n) (hs:(o.fs k).nz=true):∃ suf,o.upto n=o.upto k ++ (k,o.fs k) :: suf:=by
 obtain⟨suf,h'⟩:=Ob.upto_pre (o:=o) (k+1) n h
 exact⟨suf,by rw [h'];simp [Ob.upto,hs]⟩
theorem Ob.upto_mem {o:Ob} {k i:Nat} {r:Rf} (h:(i,r)∈o.upto k):o.fs i=r∧r.nz=true∧i<k:=by
 induction k with
 | zero=>simp [Ob.upto] at h
 | succ k ih=>
  simp only [Ob.upto,List.mem_append] at h
  rcases h with h | h
  ·obtain⟨a,b,c⟩:=ih h;exact⟨a,b,by omega⟩
  ·split at h
   ·rename_i hs;simp at h;obtain⟨rfl,rfl⟩:=h;exact⟨rfl,hs,by omega⟩
   ·simp at h
theorem ffull_call (o:Ob) (w:World):
 Calls Tryz.prog 243 #[.agg o.arr] w fun e w'=>∃ B,e = .returned (.func (.func 267) #[] #[.pointer (some ⟨B,0,none⟩)])∧w.heap.size≤B∧
  Keeps (fun _=>False) w w'∧w'.heap[B]?=some (.cells o.arr 111):=by
 unfold Ob.arr
 go_enter Tryz.func243,Tryz.ntmps243
 go_wp2
 go_ret
 exact⟨_,rfl,Nat.le_refl _,(Keeps.refl _ _).alloc _,alloc_new⟩
theorem full_gives (B:Nat) (o:Ob):
 Gives Tryz.prog 267 #[.pointer (some ⟨B,0,none⟩)] encF (o.upto 4) (fun W=>W.heap[B]?=some (.cells o.arr 111)) (fun _=>False):=by
 intro l J Jx W hJ hJx hRd hY h0
 have hb:=hRd _ _ h0
 unfold Ob.arr at hb
 have c1:=cell_at (i:=1) hb rfl
 have c2:=cell_at (i:=2) hb rfl
 have c3:=cell_at (i:=3) hb rfl
 have c4:=cell_at (i:=4) hb rfl
 have c5:=cell_at (i:=5) hb rfl
 have c6:=cell_at (i:=6) hb rfl
 have c7:=cell_at (i:=7) hb rfl
 have c8:=cell_at (i:=8) hb rfl
 clear hb
 have HJ:=hid hJ;have HR:=hid hRd;have HY:=hid hY;have H0:=hid h0
 clear hJ hRd hY h0
 refine (callsIn_wide (n:=0)).1 ?_
 refine callsIn_of_wp Tryz.func267 rfl trivial ?_ rfl
 simp only [Tryz.ntmps267,List.size_toArray,List.length_cons,List.length_nil,Nat.reduceAdd,Nat.reduceSub,Array.replicate_succ,Array.replicate_zero,List.push_toArray,List.append_toArray,List.nil_append,List.cons_append]
 gi_wp2_with fail
 clear c1 c2 c3 c4 c5 c6 c7 c8
 gi_loopw [7] (fun i wr=>∃ k:Nat,k≤4∧i = .int .i64 k∧J (o.upto k) wr) (fun i _=>4 - (intOf i).toNat)
 case atStart=>exact⟨0,Nat.zero_le _,rfl,H0.out⟩
 case round=>
  obtain⟨k,hk,rfl,hj⟩:=hrel
  clear H0
  by_cases hlt:k<4
  ·have hidx:∀ w,Sem.run Tryz.prog (Instr.index 109 (.agg #[.int .i64 o.f0.s,.int .u32 o.f0.g,.int .i64 o.f1.s,.int .u32 o.f1.g,.int .i64 o.f2.s,.int .u32 o.f2.g,.int .i64 o.f3.s,.int .u32 o.f3.g]) (.int .i64 (k:Int))) w = .ok (.agg #[.int .i64 (o.fs k).s,.int .u32 (o.fs k).g]) w:=by
    intro w
    match k,hlt with
    | 0,_=>exact rfl
    | 1,_=>exact rfl
    | 2,_=>exact rfl
    | 3,_=>exact rfl
   obtain⟨r,hr⟩:∃ r,o.fs k=r:=⟨_,rfl⟩
   have HRR:=hid hr
   rw [hr] at hidx
   clear hr
   have hn:=fun w=>neq_ref w r.s r.g 0 0
   have hJ1:=HJ.out _ _ (wr.alloc (.cells #[.int .i64 r.s,.int .u32 r.g] 34)) hj ((Keeps.refl _ _).alloc _)
   have HJ1:=hid hJ1;clear hJ1
   have hk4:(k:Int)<4:=by omega
   rcases he:r.nz with _ | _
   ·have he':(!(r.s == 0 && r.g == 0))=false:=he
    have HE:=hid (show o.upto (k+1)=o.upto k by simp [Ob.upto,HRR.out,he])
    clear he
    gi_wp2_with fail
    refine⟨fun _ h=>(by cases h),?_⟩
    gi_wp2_with fail
    exact⟨⟨k+1,by omega,by go_num,by rw [HE.out];exact HJ1.out⟩,by simp [intOf];omega⟩
   ·have he':(!(r.s == 0 && r.g == 0))=true:=he
    have HE:=hid (show o.upto (k+1)=o.upto k ++ [(k,r)] by simp [Ob.upto,HRR.out,he])
    obtain⟨suf,hsuf⟩:=Ob.upto_split hlt (by rw [HRR.out];exact he)
    rw [HRR.out] at hsuf
    obtain⟨fn,tmps,assign,body,hy,hR⟩:=HY.out _ _ suf _ hsuf HJ1.out
    clear hsuf suf he
    dsimp only [encF] at hy
    gi_wp2_with fail
    refine⟨rfl,hR.mono ?_⟩
    rintro e W' (⟨rfl,hJ'⟩ | ⟨rfl,hJx'⟩)
    ·gi_wp2_with fail
     exact⟨⟨k+1,by omega,by go_num,by rw [HE.out];exact hJ'⟩,by simp [intOf];omega⟩
    ·gi_wp2_with fail
     refine bodyPost_ret (results_none rfl _ _ _) rfl ?_
     exact⟨⟨_,rfl⟩,.inr hJx'⟩
  ·have HK:=hid (show k=4 by omega)
   gi_wp2_with fail
   go_end0
   exact⟨⟨_,rfl⟩,.inl (by rw [← HK.out];exact hj)⟩
end Go.Proofs.YtnlkfbndlngjaaaGreat
namespace Go.Proofs.YtnlkfbndlngjaaaGreat
open Go.RowKit
attribute [local go_sem] Oper.semAt_some
theorem not_two {w:World} {y:Nat} (h:y<w.heap.size):¬ Two w y:=fun h'=>by rcases h' with h' | h' <;> omega
theorem fcheck_good (o:Ob) (w:World) (hg:o.Good):
 Calls Tryz.prog 179 #[.agg o.arr] w fun e w'=>e = .returned (.int .i64 0)∧Keeps (fun _=>False) w w':=by
 have n0:=hg.n0
 have n4:=hg.n4
 have hH:o.h=false∨(o.h=true∧o.n=0):=by
  rcases hh:o.h with _ | _
  ·exact .inl rfl
  ·exact .inr ⟨rfl,hg.hn hh⟩
 have HG:=hid hg;clear hg
 have HA:=hid (show o.arr=#[.int .i64 o.n,.int .i64 o.f0.s,.int .u32 o.f0.g,.int .i64 o.f1.s,.int .u32 o.f1.g,.int .i64 o.f2.s,.int .u32 o.f2.g,.int .i64 o.f3.s,.int .u32 o.f3.g,.bool o.h] from rfl)
 have HF:=hid (fun w'=>ffull_call o w')
 rw [HA.out] at HF ⊢
 obtain⟨n,hn⟩:∃ n,o.n=n:=⟨_,rfl⟩
 obtain⟨b,hb⟩:∃ b,o.h=b:=⟨_,rfl⟩
 have HN:=hid hn;have HBB:=hid hb
 rw [hn] at n0 n4 hH HF ⊢
 rw [hb] at hH HF ⊢
 clear hn hb
 rcases hH with rfl | ⟨rfl,rfl⟩
 ·refine (callsIn_wide (n:=0)).1 ?_
  refine callsIn_of_wp_marks Tryz.func179 rfl trivial ?_ rfl
  simp only [Tryz.ntmps179,List.size_toArray,List.length_cons,List.length_nil,Nat.reduceAdd,Nat.reduceSub,Array.replicate_succ,Array.replicate_zero,List.push_toArray,List.append_toArray,List.nil_append,List.cons_append]
  gi_wp2_with fail
  refine⟨trivial,rfl,callsIn_wide.2 ((HF.out _).mono ?_)⟩
  rintro e w1 ⟨B,rfl,hB,hk1,hb1⟩
  simp only [World.size_alloc] at hB
  have HB:=hid hb1
  have HK1:=hid (show Keeps (fun _=>False) w w1 from Keeps.trans (by repeat (first | exact Keeps.refl _ _ | apply Keeps.alloc)) hk1)
  have HQ1:=hid (block_keep (alloc_old (alloc_new (w:=w))) hk1 (fun h=>h))
  have HQ2:=hid (block_keep (alloc_new' (w:=w.alloc _) (o:=.cells #[.int .i64 0] 35) (n:=w.heap.size+1) (by simp)) hk1 (fun h=>h))
  clear hk1 hb1
  gi_wp2_with fail
  refine wp_over (gf:=267) (lb:=#[.pointer (some ⟨B,0,none⟩)]) rfl (enters_of Tryz.func267 (by kernel_rfl) rfl) (full_gives B o) (fun _=>rfl)
   (fun _ W=>Keeps (Two w1) w1 W) (fun _ _=>False)
   (fun pre W W' h hk=>h.trans (hk.mono (fun _ _ h=>h.elim (fun h=>h.elim) (fun h=>h)))) (fun _ _ _ h _=>h)
   (fun pre W hk=>(block_keep (by rw [HA.out,HN.out,HBB.out];exact HB.out) hk (not_two (lt_block HB.out)))) (fun _ _ h=>h) (Keeps.refl _ _) ?body ?done ?stop
  case body=>
   rintro l pre ⟨i,r⟩ suf W hx hk hsW
   obtain⟨m1,m2,m3⟩:=Ob.upto_mem (o:=o) (k:=4) (i:=i) (r:=r) (by rw [hx];simp)
   have hok:=HG.out.ok i m3 (by rw [m1];exact m2)
   have hwf:=hid (by have:=HG.out.wf i;rw [m1] at this;exact this)
   rw [m1,HN.out] at hok
   have HBD:=hid hok.2
   have hin:=hok.1
   clear hx hok m1
   simp only [encF,List.zip_toArray,List.zip_cons_cons,List.zip_nil_left]
   gi_wp2_with fail
   refine⟨(Keeps.refl _ _).alloc _,fun W2 hk2=>?_⟩
   have hk3:=hk.trans (((Keeps.refl (Two w1) W).alloc _).trans hk2)
   have q1':=cell_at (i:=0) (block_keep HQ1.out hk3 (not_two (lt_block HQ1.out))) rfl
   have qb:=block_keep (alloc_new (w:=W)) hk2 (by intro h;rcases h with h | h <;> omega)
   have r0:=cell_at (i:=0) qb rfl
   have r1:=cell_at (i:=1) qb rfl
   have HK3:=hid hk3
   have hsz2:=hk2.size
   simp only [World.size_alloc] at hsz2
   have HKa:=hid hk2
   clear qb hk2 hk3 hk
   gi_wp2_with fail
   refine⟨trivial,rfl,CallsIn.inRound l (callsIn_wide.2 ((fwrong_any r W2 hwf.out).mono ?_))⟩
   rintro e W3 ⟨rfl,hk4⟩
   rw [HBD.out]
   have HK4:=hid hk4;clear hk4
   gi_wp2_with fail
   exact⟨HK4.out.mono (fun _ _ h=>h.elim),HK3.out.trans (HK4.out.mono (fun _ _ h=>h.elim))⟩
  case done=>
   rintro W hk hD
   have q2:=block_keep HQ2.out hk (not_two (lt_block HQ2.out))
   have c2:=cell_at (i:=0) q2 rfl
   have f2:=frozen_block q2 0
   have HQ:=hid q2;have HD:=hid hD;have HKK:=hid hk
   clear q2 hD hk
   have hlz:=lt_block HQ2.out
   gi_wp2_with fail
   refine leave_mark (set_oth HD.out (by simp;omega)) fun W' hk'=>?_
   have d2:=cell_at (i:=0) (block_keep (set_block HQ.out 0 (.int .i64 0)) hk' (by omega)) rfl
   refine⟨.int .i64 0,by simp [results,Tryz.results179,go_sem,d2],rfl,?_⟩
   exact (HK1.out.trans' HKK.out (U:=fun y=>w.heap.size≤y) (fun _ _ h=>h.elim) (fun y hy h=>absurd h (not_two (by have:=HK1.out.size;omega)))).trans'
    ((Keeps.refl (fun y=>w.heap.size≤y) W).setCell (p:=⟨w.heap.size+1,0,none⟩) (.inl (by simp)) (.int .i64 0)) (U:=fun _=>False) (fun y hy h=>by omega) (fun y hy h=>by omega) |>.trans' hk' (fun _ _ h=>h) (fun y hy h=>by have:=HK1.out.size;omega)
  case stop=>exact fun _ _ h=>h.elim
 ·refine (callsIn_wide (n:=0)).1 ?_
  refine callsIn_of_wp_marks Tryz.func179 rfl trivial ?_ rfl
  simp only [Tryz.ntmps179,List.size_toArray,List.length_cons,List.length_nil,Nat.reduceAdd,Nat.reduceSub,Array.replicate_succ,Array.replicate_zero,List.push_toArray,List.append_toArray,List.nil_append,List.cons_append]
  gi_wp2_with fail
  refine⟨trivial,rfl,callsIn_wide.2 ((HF.out _).mono ?_)⟩
  rintro e w1 ⟨B,rfl,hB,hk1,hb1⟩
  simp only [World.size_alloc] at hB
  have HB:=hid hb1
  have HK1:=hid (show Keeps (fun _=>False) w w1 from Keeps.trans (by repeat (first | exact Keeps.refl _ _ | apply Keeps.alloc)) hk1)
  have HQ1:=hid (block_keep (alloc_old (alloc_new (w:=w))) hk1 (fun h=>h))
  have HQ2:=hid (block_keep (alloc_new' (w:=w.alloc _) (o:=.cells #[.int .i64 0] 35) (n:=w.heap.size+1) (by simp)) hk1 (fun h=>h))
  clear hk1 hb1
  gi_wp2_with fail
  refine wp_over (gf:=267) (lb:=#[.pointer (some ⟨B,0,none⟩)]) rfl (enters_of Tryz.func267 (by kernel_rfl) rfl) (full_gives B o) (fun _=>rfl)
   (fun _ W=>Keeps (Two w1) w1 W) (fun _ _=>False)
   (fun pre W W' h hk=>h.trans (hk.mono (fun _ _ h=>h.elim (fun h=>h.elim) (fun h=>h)))) (fun _ _ _ h _=>h)
   (fun pre W hk=>(block_keep (by rw [HA.out,HN.out,HBB.out];exact HB.out) hk (not_two (lt_block HB.out)))) (fun _ _ h=>h) (Keeps.refl _ _) ?body ?done ?stop
  case body=>
   rintro l pre ⟨i,r⟩ suf W hx hk hsW
   exfalso
   obtain⟨m1,m2,m3⟩:=Ob.upto_mem (o:=o) (k:=4) (i:=i) (r:=r) (by rw [hx];simp)
   have hok:=(HG.out.ok i m3 (by rw [m1];exact m2)).1
   rw [HN.out] at hok
   omega
  case done=>
   rintro W hk hD
   have q2:=block_keep HQ2.out hk (not_two (lt_block HQ2.out))
   have c2:=cell_at (i:=0) q2 rfl
   have f2:=frozen_block q2 0
   have HQ:=hid q2;have HD:=hid hD;have HKK:=hid hk
   clear q2 hD hk
   have hlz:=lt_block HQ2.out
   gi_wp2_with fail
   refine leave_mark (set_oth HD.out (by simp;omega)) fun W' hk'=>?_
   have d2:=cell_at (i:=0) (block_keep (set_block HQ.out 0 (.int .i64 0)) hk' (by omega)) rfl
   refine⟨.int .i64 0,by simp [results,Tryz.results179,go_sem,d2],rfl,?_⟩
   exact (HK1.out.trans' HKK.out (U:=fun y=>w.heap.size≤y) (fun _ _ h=>h.elim) (fun y hy h=>absurd h (not_two (by have:=HK1.out.size;omega)))).trans'
    ((Keeps.refl (fun y=>w.heap.size≤y) W).setCell (p:=⟨w.heap.size+1,0,none⟩) (.inl (by simp)) (.int .i64 0)) (U:=fun _=>False) (fun y hy h=>by omega) (fun y hy h=>by omega) |>.trans' hk' (fun _ _ h=>h) (fun y hy h=>by have:=HK1.out.size;omega)
  case stop=>exact fun _ _ h=>h.elim
end Go.Proofs.YtnlkfbndlngjaaaGreat
namespace Go.Proofs.YtnlkfbndlngjaaaGreat
open Go.RowKit
def Ob.new (n:Int) (h:Bool):Ob:=⟨n,.no,.no,.no,.no,h⟩
def okNew (n:Int) (h:Bool):Prop:=0≤n∧n≤4∧(h=true→n=0)
theorem Ob.new_good {n:Int} {h:Bool} (hk:okNew n h):(Ob.new n h).Good:=by
 have hfs:∀ i,(Ob.new n h).fs i = .no:=by
  intro i;match i with
  | 0=>rfl
  | 1=>rfl
  | 2=>rfl
  | _+3=>rfl
 refine⟨hk.1,hk.2.1,hk.2.2,fun i=>?_,fun i _ hz=>?_⟩
 ·rw [hfs];exact⟨by decide,by decide⟩
 ·rw [hfs] at hz;simp [Rf.nz,Rf.no] at hz
theorem fcheck_bad (n:Int) (h:Bool) (w:World) (hk:¬ okNew n h):
 Calls Tryz.prog 179 #[.agg (Ob.new n h).arr] w fun e w'=>e = .returned (.int .i64 2)∧Keeps (fun _=>False) w w':=by
 have hc:n<0∨(0≤n∧4<n)∨(0≤n∧n≤4∧h=true∧0<n):=by
  by_cases h1:n<0
  ·exact .inl h1
  by_cases h2:4<n
  ·exact .inr (.inl ⟨by omega,h2⟩)
  rcases h with _ | _
  ·exact absurd ⟨by omega,by omega,by simp⟩ hk
  ·refine .inr (.inr ⟨by omega,by omega,rfl,?_⟩)
   by_cases h3:n=0
   ·exact absurd ⟨by omega,by omega,fun _=>h3⟩ hk
   ·omega
 clear hk
 simp only [Ob.arr,Ob.new,Rf.no]
 rcases hc with h1 | ⟨h1,h2⟩ | ⟨h1,h2,rfl,h3⟩
 all_goals
  go_enter Tryz.func179,Tryz.ntmps179
  go_wp2_with fail
  refine bodyPost_ret_by (v:=.int .i64 2) (by simp [results,Tryz.results179,go_sem]) rfl ⟨rfl,?_⟩
  repeat (first | exact Keeps.refl _ _ | apply Keeps.alloc)
theorem fnew_bad (n:Int) (h:Bool) (w:World) (hk:¬ okNew n h):
 Calls Tryz.prog 105 #[.int .i64 n,.bool h] w fun e w'=>e = .returned (.tuple #[.agg (Ob.new 0 false).arr,.int .i64 2])∧Keeps (fun _=>False) w w':=by
 have HC:=hid (fun w'=>fcheck_bad n h w' hk)
 clear hk
 simp only [Ob.arr,Ob.new,Rf.no] at HC ⊢
 go_enter Tryz.func105,Tryz.ntmps105
 go_wp2_with fail
 refine (HC.out _).mono ?_
 rintro e w1 ⟨rfl,hk1⟩
 have HK1:=hid ((((Keeps.refl (fun y=>w.heap.size≤y) w).alloc _).alloc _).trans hk1.up)
 have q1:=block_keep (alloc_old (alloc_new (w:=w))) hk1 (fun h=>h)
 have HQ1:=hid q1
 obtain⟨a0,a1,a2,a3,a4,a5,a6,a7,a8,a9,af,al⟩:=cells10 q1
 clear hk1 q1
 go_wp2_with fail
 refine bodyPost_ret_by (v:=.tuple #[.agg #[.int .i64 0,.int .i64 0,.int .u32 0,.int .i64 0,.int .u32 0,.int .i64 0,.int .u32 0,.int .i64 0,.int .u32 0,.bool false],.int .i64 2]) (by simp [results,Tryz.results105,go_sem, *]) rfl ⟨rfl,?_⟩
 refine Keeps.fresh ?_
 repeat (first | (with_reducible exact HK1.out) | with_reducible refine Keeps.setCell ?_ ?_ _ | with_reducible refine Keeps.alloc ?_ _ | with_reducible refine Keeps.drewN ?_ _ | with_reducible refine Keeps.drew ?_)
 all_goals first | (left;simp;done) | (left;simp;omega) | (right;simp;done) | (right;simp;omega)
theorem fnew_ok (n:Int) (h:Bool) (w:World) (hk:okNew n h):
 Calls Tryz.prog 105 #[.int .i64 n,.bool h] w fun e w'=>e = .returned (.tuple #[.agg (Ob.new n h).arr,.int .i64 0])∧Keeps (fun _=>False) w w':=by
 have HC:=hid (fun w'=>fcheck_good (Ob.new n h) w' (Ob.new_good hk))
 clear hk
 simp only [Ob.arr,Ob.new,Rf.no] at HC ⊢
 go_enter Tryz.func105,Tryz.ntmps105
 go_wp2_with fail
 refine (HC.out _).mono ?_
 rintro e w1 ⟨rfl,hk1⟩
 have HK1:=hid ((((Keeps.refl (fun y=>w.heap.size≤y) w).alloc _).alloc _).trans hk1.up)
 have q1:=block_keep (alloc_old (alloc_new (w:=w))) hk1 (fun h=>h)
 have q2:=block_keep (alloc_new' (n:=w.heap.size+1) (by simp)) hk1 (fun h=>h)
 obtain⟨a0,a1,a2,a3,a4,a5,a6,a7,a8,a9,af,al⟩:=cells10 q1
 obtain⟨b0,b1,b2,b3,b4,b5,b6,b7,b8,b9,bf,bl⟩:=cells10 q2
 clear hk1 q1 q2
 go_wp2_with fail
 refine bodyPost_ret_by (v:=.tuple #[.agg #[.int .i64 n,.int .i64 0,.int .u32 0,.int .i64 0,.int .u32 0,.int .i64 0,.int .u32 0,.int .i64 0,.int .u32 0,.bool h],.int .i64 0]) (by simp [results,Tryz.results105,go_sem, *]) rfl ⟨rfl,?_⟩
 refine Keeps.fresh ?_
 repeat (first | (with_reducible exact HK1.out) | with_reducible refine Keeps.setCell ?_ ?_ _ | with_reducible refine Keeps.alloc ?_ _ | with_reducible refine Keeps.drewN ?_ _ | with_reducible refine Keeps.drew ?_)
 all_goals first | (left;simp;done) | (left;simp;omega) | (right;simp;done) | (right;simp;omega)
def Ob.set (o:Ob) (k:Nat) (r:Rf):Ob:=match k with
 | 0=>{ o with f0:=r }
 | 1=>{ o with f1:=r }
 | 2=>{ o with f2:=r }
 | _=>{ o with f3:=r }
def Rf.val (r:Rf):Value:=.agg #[.int .i64 r.s,.int .u32 r.g]
def Ob.setR (o:Ob) (i:Int) (r:Rf):Value:=
 if r.bad then .tuple #[.agg (Ob.new 0 false).arr,Rf.no.val,.int .i64 2]
 else if i<0∨o.n≤i then .tuple #[.agg (Ob.new 0 false).arr,Rf.no.val,.int .i64 3]
 else .tuple #[.agg (o.set i.toNat r).arr,(o.fs i.toNat).val,.int .i64 0]
theorem fset_any (o:Ob) (i:Int) (r:Rf) (w:World) (hg:o.Good) (hr:r.Wf):
 Calls Tryz.prog 185 #[.agg o.arr,.int .i64 i,.agg #[.int .i64 r.s,.int .u32 r.g]] w fun e w'=>e = .returned (o.setR i r)∧Keeps (fun _=>False) w w':=by
 have HC:=hid (fun w'=>fcheck_good o w' hg)
 have HW:=hid (fun w'=>fwrong_any r w' hr)
 have n0:=hg.n0
 have n4:=hg.n4
 clear hg hr
 have hcase:r.bad=true∨(r.bad=false∧(i<0∨(0≤i∧o.n≤i)∨(0≤i∧i<o.n))):=by
  rcases r.bad with _ | _
  ·exact .inr ⟨rfl,by omega⟩
  ·exact .inl rfl
 simp only [Ob.arr] at HC ⊢
 go_enter Tryz.func185,Tryz.ntmps185
 go_wp2_with fail
 refine (HC.out _).mono ?_
 rintro e w1 ⟨rfl,hk1⟩
 have HK1:=hid ((((((Keeps.refl (fun y=>w.heap.size≤y) w).alloc _).alloc _).alloc _).alloc _).trans hk1.up)
 have q1:=block_keep (alloc_old (alloc_old (alloc_old (alloc_new (w:=w))))) hk1 (fun h=>h)
 have q2:=block_keep (alloc_old (alloc_old (alloc_new' (n:=w.heap.size+1) (by simp)))) hk1 (fun h=>h)
 have q3:=block_keep (alloc_old (alloc_new' (n:=w.heap.size+1+1) (by simp))) hk1 (fun h=>h)
 have q4:=block_keep (alloc_new' (n:=w.heap.size+1+1+1) (by simp)) hk1 (fun h=>h)
 have HQ1:=hid q1;have HQ2:=hid q2;have HQ3:=hid q3;have HQ4:=hid q4
 clear q1 q2 q3 q4 hk1
 obtain⟨a0,a1,a2,a3,a4,a5,a6,a7,a8,a9,af,al⟩:=cells10 HQ1.out
 obtain⟨b0,b1,bf,bl⟩:=cells2 HQ2.out
 obtain⟨c0,c1,c2,c3,c4,c5,c6,c7,c8,c9,cf,cl⟩:=cells10 HQ3.out
 obtain⟨d0,d1,df,dl⟩:=cells2 HQ4.out
 go_wp2_with fail
 refine (HW.out _).mono ?_
 rintro e w2 ⟨rfl,hk2⟩
 have HK2:=hid (HK1.out.trans hk2.up)
 have p1:=hid (block_keep HQ1.out hk2 (fun h=>h))
 have p2:=hid (block_keep HQ2.out hk2 (fun h=>h))
 have p3:=hid (block_keep HQ3.out hk2 (fun h=>h))
 have p4:=hid (block_keep HQ4.out hk2 (fun h=>h))
 clear hk2 a0 a1 a2 a3 a4 a5 a6 a7 a8 a9 af al b0 b1 bf bl c0 c1 c2 c3 c4 c5 c6 c7 c8 c9 cf cl d0 d1 df dl HQ1 HQ2 HQ3 HQ4 HK1
 obtain⟨a0,a1,a2,a3,a4,a5,a6,a7,a8,a9,af,al⟩:=cells10 p1.out
 obtain⟨b0,b1,bf,bl⟩:=cells2 p2.out
 obtain⟨c0,c1,c2,c3,c4,c5,c6,c7,c8,c9,cf,cl⟩:=cells10 p3.out
 obtain⟨d0,d1,df,dl⟩:=cells2 p4.out
 rcases hcase with hb | ⟨hb,h1 | ⟨h1,h2⟩ | ⟨h1,h2⟩⟩
 ·have HS:=hid (show o.setR i r = .tuple #[.agg (Ob.new 0 false).arr,Rf.no.val,.int .i64 2] by simp [Ob.setR,hb])
  rw [hb]
  clear hb
  go_wp2_with fail
  refine bodyPost_ret_by (v:=.tuple #[.agg #[.int .i64 0,.int .i64 0,.int .u32 0,.int .i64 0,.int .u32 0,.int .i64 0,.int .u32 0,.int .i64 0,.int .u32 0,.bool false],.agg #[.int .i64 0,.int .u32 0],.int .i64 2]) (by simp [results,Tryz.results185,go_sem, *]) rfl ⟨by rw [HS.out];rfl,?_⟩
  refine Keeps.fresh ?_
  repeat (first | (with_reducible exact HK2.out) | with_reducible refine Keeps.setCell ?_ ?_ _ | with_reducible refine Keeps.alloc ?_ _ | with_reducible refine Keeps.drewN ?_ _ | with_reducible refine Keeps.drew ?_)
  all_goals first | (left;simp;done) | (left;simp;omega) | (right;simp;done) | (right;simp;omega)
 ·have HS:=hid (show o.setR i r = .tuple #[.agg (Ob.new 0 false).arr,Rf.no.val,.int .i64 3] by simp [Ob.setR,hb,h1])
  rw [hb]
  clear hb
  go_wp2_with fail
  refine bodyPost_ret_by (v:=.tuple #[.agg #[.int .i64 0,.int .i64 0,.int .u32 0,.int .i64 0,.int .u32 0,.int .i64 0,.int .u32 0,.int .i64 0,.int .u32 0,.bool false],.agg #[.int .i64 0,.int .u32 0],.int .i64 3]) (by simp [results,Tryz.results185,go_sem, *]) rfl ⟨by rw [HS.out];rfl,?_⟩
  refine Keeps.fresh ?_
  repeat (first | (with_reducible exact HK2.out) | with_reducible refine Keeps.setCell ?_ ?_ _ | with_reducible refine Keeps.alloc ?_ _ | with_reducible refine Keeps.drewN ?_ _ | with_reducible refine Keeps.drew ?_)
  all_goals first | (left;simp;done) | (left;simp;omega) | (right;simp;done) | (right;simp;omega)
 ·have HS:=hid (show o.setR i r = .tuple #[.agg (Ob.new 0 false).arr,Rf.no.val,.int .i64 3] by simp [Ob.setR,hb,h2])
  rw [hb]
  clear hb
  go_wp2_with fail
  refine bodyPost_ret_by (v:=.tuple #[.agg #[.int .i64 0,.int .i64 0,.int .u32 0,.int .i64 0,.int .u32 0,.int .i64 0,.int .u32 0,.int .i64 0,.int .u32 0,.bool false],.agg #[.int .i64 0,.int .u32 0],.int .i64 3]) (by simp [results,Tryz.results185,go_sem, *]) rfl ⟨by rw [HS.out];rfl,?_⟩
  refine Keeps.fresh ?_
  repeat (first | (with_reducible exact HK2.out) | with_reducible refine Keeps.setCell ?_ ?_ _ | with_reducible refine Keeps.alloc ?_ _ | with_reducible refine Keeps.drewN ?_ _ | with_reducible refine Keeps.drew ?_)
  all_goals first | (left;simp;done) | (left;simp;omega) | (right;simp;done) | (right;simp;omega)
 ·have HS:=hid (show o.setR i r = .tuple #[.agg (o.set i.toNat r).arr,(o.fs i.toNat).val,.int .i64 0] by rw [Ob.setR,if_neg (by simp [hb]),if_neg (by omega)])
  rw [hb]
  clear hb
  obtain⟨k,hk,rfl⟩:∃ k:Nat,k<4∧i=k:=⟨i.toNat,by omega,by omega⟩
  have HT:=hid (show ((k:Int)).toNat=k by simp)
  obtain rfl | rfl | rfl | rfl:k=0∨k=1∨k=2∨k=3:=by omega
  ·go_wp2_with fail
   go_region
   go_wp2_with fail
   refine bodyPost_ret_by (v:=.tuple #[.agg #[.int .i64 o.n,.int .i64 r.s,.int .u32 r.g,.int .i64 o.f1.s,.int .u32 o.f1.g,.int .i64 o.f2.s,.int .u32 o.f2.g,.int .i64 o.f3.s,.int .u32 o.f3.g,.bool o.h],.agg #[.int .i64 o.f0.s,.int .u32 o.f0.g],.int .i64 0]) (by simp [results,Tryz.results185,go_sem, *]) rfl ⟨by rw [HS.out];rfl,?_⟩
   refine Keeps.fresh ?_
   repeat (first | (with_reducible exact HK2.out) | with_reducible refine Keeps.setCell ?_ ?_ _ | with_reducible refine Keeps.alloc ?_ _ | with_reducible refine Keeps.drewN ?_ _ | with_reducible refine Keeps.drew ?_)
   all_goals first | (left;simp;done) | (left;simp;omega) | (right;simp;done) | (right;simp;omega)
  ·go_wp2_with fail
   go_region
   go_wp2_with fail
   refine bodyPost_ret_by (v:=.tuple #[.agg #[.int .i64 o.n,.int .i64 o.f0.s,.int .u32 o.f0.g,.int .i64 r.s,.int .u32 r.g,.int .i64 o.f2.s,.int .u32 o.f2.g,.int .i64 o.f3.s,.int .u32 o.f3.g,.bool o.h],.agg #[.int .i64 o.f1.s,.int .u32 o.f1.g],.int .i64 0]) (by simp [results,Tryz.results185,go_sem, *]) rfl ⟨by rw [HS.out];rfl,?_⟩
   refine Keeps.fresh ?_
   repeat (first | (with_reducible exact HK2.out) | with_reducible refine Keeps.setCell ?_ ?_ _ | with_reducible refine Keeps.alloc ?_ _ | with_reducible refine Keeps.drewN ?_ _ | with_reducible refine Keeps.drew ?_)
   all_goals first | (left;simp;done) | (left;simp;omega) | (right;simp;done) | (right;simp;omega)
  ·go_wp2_with fail
   go_region
   go_wp2_with fail
   refine bodyPost_ret_by (v:=.tuple #[.agg #[.int .i64 o.n,.int .i64 o.f0.s,.int .u32 o.f0.g,.int .i64 o.f1.s,.int .u32 o.f1.g,.int .i64 r.s,.int .u32 r.g,.int .i64 o.f3.s,.int .u32 o.f3.g,.bool o.h],.agg #[.int .i64 o.f2.s,.int .u32 o.f2.g],.int .i64 0]) (by simp [results,Tryz.results185,go_sem, *]) rfl ⟨by rw [HS.out];rfl,?_⟩
   refine Keeps.fresh ?_
   repeat (first | (with_reducible exact HK2.out) | with_reducible refine Keeps.setCell ?_ ?_ _ | with_reducible refine Keeps.alloc ?_ _ | with_reducible refine Keeps.drewN ?_ _ | with_reducible refine Keeps.drew ?_)
   all_goals first | (left;simp;done) | (left;simp;omega) | (right;simp;done) | (right;simp;omega)
  ·go_wp2_with fail
   go_region
   go_wp2_with fail
   refine bodyPost_ret_by (v:=.tuple #[.agg #[.int .i64 o.n,.int .i64 o.f0.s,.int .u32 o.f0.g,.int .i64 o.f1.s,.int .u32 o.f1.g,.int .i64 o.f2.s,.int .u32 o.f2.g,.int .i64 r.s,.int .u32 r.g,.bool o.h],.agg #[.int .i64 o.f3.s,.int .u32 o.f3.g],.int .i64 0]) (by simp [results,Tryz.results185,go_sem, *]) rfl ⟨by rw [HS.out];rfl,?_⟩
   refine Keeps.fresh ?_
   repeat (first | (with_reducible exact HK2.out) | with_reducible refine Keeps.setCell ?_ ?_ _ | with_reducible refine Keeps.alloc ?_ _ | with_reducible refine Keeps.drewN ?_ _ | with_reducible refine Keeps.drew ?_)
   all_goals first | (left;simp;done) | (left;simp;omega) | (right;simp;done) | (right;simp;omega)
end Go.Proofs.YtnlkfbndlngjaaaGreat
namespace Go.Proofs.YtnlkfbndlngjaaaGreat
open Go.RowKit
attribute [local go_sem] Oper.semAt_some
def Ob.getR (o:Ob) (i:Int):Value:=if i<0∨o.n≤i then .tuple #[Rf.no.val,.int .i64 3] else .tuple #[(o.fs i.toNat).val,.int .i64 0]
theorem fget_any (o:Ob) (i:Int) (w:World) (hg:o.Good):
 Calls Tryz.prog 183 #[.agg o.arr,.int .i64 i] w fun e w'=>e = .returned (o.getR i)∧Keeps (fun _=>False) w w':=by
 obtain⟨o',s,g,e',h1,h2⟩:∃ (o':Ob) (s g e':Int),o.setR i Rf.no = .tuple #[.agg o'.arr,.agg #[.int .i64 s,.int .u32 g],.int .i64 e']∧o.getR i = .tuple #[.agg #[.int .i64 s,.int .u32 g],.int .i64 e']:=by
  unfold Ob.setR Ob.getR
  rw [if_neg (by simp [Rf.bad,Rf.nz,Rf.no])]
  split
  ·exact⟨Ob.new 0 false,0,0,3,rfl,rfl⟩
  ·exact⟨o.set i.toNat Rf.no,(o.fs i.toNat).s,(o.fs i.toNat).g,0,rfl,rfl⟩
 have HC:=hid (fun w'=>fset_any o i Rf.no w' hg (by exact⟨by decide,by decide⟩))
 rw [h1] at HC
 rw [h2]
 clear h1 h2 hg
 simp only [Ob.arr,Rf.no] at HC ⊢
 go_enter Tryz.func183,Tryz.ntmps183
 go_wp2_with fail
 refine (HC.out _).mono ?_
 rintro e w1 ⟨rfl,hk1⟩
 have HK1:=hid (((((Keeps.refl (fun y=>w.heap.size≤y) w).alloc _).alloc _)).trans hk1.up)
 obtain⟨d0,d1,df,dl⟩:=cells2 (block_keep (alloc_new' (n:=w.heap.size+1) (by simp)) hk1 (fun h=>h))
 clear hk1
 have df0:=df 0;have df1:=df 1
 clear df
 have hl0:w.heap.size<w1.heap.size:=by omega
 go_wp2_with fail
 refine bodyPost_ret_by (v:=.tuple #[.agg #[.int .i64 s,.int .u32 g],.int .i64 e']) (by simp [results,Tryz.results183,go_sem, *]) rfl ⟨rfl,?_⟩
 refine Keeps.fresh ?_
 repeat (first | (with_reducible exact HK1.out) | with_reducible refine Keeps.setCell ?_ ?_ _ | with_reducible refine Keeps.alloc ?_ _ | with_reducible refine Keeps.drewN ?_ _ | with_reducible refine Keeps.drew ?_)
 all_goals first | (left;simp;done) | (left;simp;omega) | (right;simp;done) | (right;simp;omega)
end Go.Proofs.YtnlkfbndlngjaaaGreat
namespace Go.Proofs.YtnlkfbndlngjaaaGreat
open Go.RowKit
def encR (r:Rf):List Value:=[.int .i64 r.s,.int .u32 r.g]
def Row (w:World) (base:Nat) (v:Value) (l:List Rf):Prop:=w.ownsRow base 34 2 v l.length (l.flatMap encR)
theorem Row.nil (w:World) (base:Nat):Row w base (.slice none 0 0) []:=World.ownsRow_nil _ _ _ _
theorem Row.lt {w:World} {base:Nat} {v:Value} {l:List Rf} (h:Row w base v l):∀ k,v.ownBlock=some k→base≤k∧k<w.heap.size:=World.ownsRow.lt h
theorem Row.keeps {w w':World} {base:Nat} {v:Value} {l:List Rf} {S:Nat→Prop} (h:Row w base v l) (hk:Keeps S w w') (hS:∀ k,base≤k→k<w.heap.size→v.ownBlock=some k→¬ S k):Row w' base v l:=by
 obtain⟨h1,h2⟩:=h
 refine⟨h1,?_⟩
 rcases h2 with h2 | ⟨g,cap,cur,rfl,hb,hg,r1,r2,r3,r4⟩
 ·exact .inl h2
 ·exact .inr ⟨g,cap,cur,rfl,hb,block_keep hg hk (hS g hb (lt_block hg) rfl),r1,r2,r3,r4⟩
theorem own_shape {w:World} {base e size n:Nat} {v:Value} {xs:List Value} (h:w.ownsRow base e size v n xs):∃ p cap,v = .slice p n cap:=by
 rcases h.2 with⟨rfl,rfl⟩ | ⟨g,cap,cur,rfl,_⟩
 ·exact⟨none,0,rfl⟩
 ·exact⟨_,_,rfl⟩
theorem Row.mono {w:World} {base b':Nat} {v:Value} {l:List Rf} (h:Row w base v l) (hb:b'≤base):Row w b' v l:=by
 obtain⟨h1,h2⟩:=h
 refine⟨h1,?_⟩
 rcases h2 with h2 | ⟨g,cap,cur,rfl,hb',r⟩
 ·exact .inl h2
 ·exact .inr ⟨g,cap,cur,rfl,by omega,r⟩
theorem grown_keeps {w w':World} {r:Option Nat} (h:w.grownBy w' r):Keeps (fun k=>r=some k) w w':=
 ⟨h.os,h.tape,h.output,h.size,fun k hk hs=>h.block k hk (fun e=>hs e.symm)⟩
theorem ref_info:∃ i,Tryz.prog.info? 34=some i∧i.zero=some (.agg #[.int .i64 0,.int .u32 0])∧i.size=2∧i.bytes=16:=by
 have h:(Tryz.prog.info? 34).map (fun i=>(i.zero,i.size,i.bytes))=some (some (.agg #[.int .i64 0,.int .u32 0]),2,16):=by kernel_rfl
 rcases hi:Tryz.prog.info? 34 with _ | i
 ·rw [hi] at h;cases h
 ·rw [hi] at h
  simp only [Option.map_some,Option.some.injEq,Prod.mk.injEq] at h
  exact⟨i,rfl,h.1,h.2.1,h.2.2⟩
theorem Row.snoc {w:World} {base:Nat} {v:Value} {l:List Rf} {r:Rf} (h:w.ownsRow base 34 2 v (l.length+1) (l.flatMap encR ++ encR r)):Row w base v (l ++ [r]):=by
 unfold Row
 simpa [List.flatMap_append] using h
end Go.Proofs.YtnlkfbndlngjaaaGreat
namespace Go.Proofs.YtnlkfbndlngjaaaGreat
open Go.RowKit
attribute [local go_sem] Oper.semAt_some
theorem Ob.upto_len (o:Ob) (k:Nat):(o.upto k).length≤k:=by
 induction k with
 | zero=>simp [Ob.upto]
 | succ k ih=>simp only [Ob.upto,List.length_append];split <;> simp <;> omega
theorem frefs_any (o:Ob) (w:World):
 Calls Tryz.prog 286 #[.agg o.arr] w fun e w'=>∃ v,e = .returned v∧Row w' w.heap.size v ((o.upto 4).map (·.2))∧Keeps (fun _=>False) w w':=by
 have HF:=hid (fun w'=>ffull_call o w')
 have HA:=hid (show o.arr=#[.int .i64 o.n,.int .i64 o.f0.s,.int .u32 o.f0.g,.int .i64 o.f1.s,.int .u32 o.f1.g,.int .i64 o.f2.s,.int .u32 o.f2.g,.int .i64 o.f3.s,.int .u32 o.f3.g,.bool o.h] from rfl)
 rw [HA.out] at HF ⊢
 obtain⟨ri,hi1,hi2,hi3,hi4⟩:=ref_info
 refine (callsIn_wide (n:=0)).1 ?_
 refine callsIn_of_wp_marks Tryz.func286 rfl trivial ?_ rfl
 simp only [Tryz.ntmps286,List.size_toArray,List.length_cons,List.length_nil,Nat.reduceAdd,Nat.reduceSub,Array.replicate_succ,Array.replicate_zero,List.push_toArray,List.append_toArray,List.nil_append,List.cons_append]
 gi_wp2_with fail
 refine⟨trivial,rfl,callsIn_wide.2 ((HF.out _).mono ?_)⟩
 rintro e w1 ⟨B,rfl,hB,hk1,hb1⟩
 simp only [World.size_alloc] at hB
 have HB:=hid hb1
 have HK1:=hid (show Keeps (fun _=>False) w w1 from Keeps.trans (by repeat (first | exact Keeps.refl _ _ | apply Keeps.alloc)) hk1)
 have HQ:=hid (block_keep (alloc_new' (w:=w.alloc _) (o:=.cells #[.slice none 0 0] 46) (n:=w.heap.size+1) (by simp)) hk1 (fun h=>h))
 clear hk1 hb1
 gi_wp2_with fail
 refine wp_over (gf:=267) (lb:=#[.pointer (some ⟨B,0,none⟩)]) rfl (enters_of Tryz.func267 (by kernel_rfl) rfl) (full_gives B o) (fun _=>rfl)
  (fun pre W=>∃ v,W.heap[w.heap.size+1]?=some (.cells #[v] 46)∧Row W (w1.heap.size+2) v (pre.map (·.2))∧pre.length≤4∧Keeps (fun y=>y=w.heap.size+1∨Two w1 y) w1 W) (fun _ _=>False)
  ?hI (fun _ _ _ h _=>h) ?hRd (fun _ _ h=>h) ⟨_,HQ.out,Row.nil _ _,by simp,Keeps.refl _ _⟩ ?body ?done ?stop
 case stop=>exact fun _ _ h=>h.elim
 case hI=>
  rintro pre W W' ⟨v,h1,h2,h3,h4⟩ hk
  have hl:=lt_block HQ.out
  have hk':Keeps (Two w1) W W':=hk.mono (fun _ _ h=>h.elim (fun h=>h.elim) (fun h=>h))
  exact⟨v,block_keep h1 hk' (not_two hl),h2.keeps hk' (fun k h1 _ _ h=>by rcases h with h | h <;> omega),h3,h4.trans (hk'.mono (fun _ _ h=>.inr h))⟩
 case hRd=>
  rintro pre W ⟨v,h1,h2,h3,h4⟩
  have hl:=lt_block HB.out
  refine block_keep (by rw [HA.out];exact HB.out) h4 (fun h=>?_)
  rcases h with h | h
  ·omega
  ·exact not_two hl h
 case body=>
  rintro l pre ⟨i,r⟩ suf W hx ⟨v,h1,h2,h3,h4⟩ hsW
  simp only [encF,List.zip_toArray,List.zip_cons_cons,List.zip_nil_left]
  gi_wp2_with fail
  refine⟨(Keeps.refl _ _).alloc _,fun W2 hk2=>?_⟩
  have hl:=lt_block HQ.out
  have hbk:Keeps (Two w1) W W2:=((Keeps.refl (Two w1) W).alloc _).trans hk2
  have hlen:pre.length+1≤4:=by
   have:=congrArg List.length hx
   have h5:=Ob.upto_len o 4
   simp at this
   omega
  have q1:=block_keep h1 hbk (not_two hl)
  have q2:=block_keep (alloc_new (w:=W)) hk2 (by intro h;rcases h with h | h <;> omega)
  have hr:=h2.keeps hbk (fun k h1 _ _ h=>by rcases h with h | h <;> omega)
  have hsz2:=hk2.size
  simp only [World.size_alloc] at hsz2
  have c1:=cell_at (i:=0) q1 rfl
  have f1:=frozen_block q1 0
  have d0:=cell_at (i:=0) q2 rfl
  have d1:=cell_at (i:=1) q2 rfl
  have hb1:w.heap.size+1<W2.heap.size:=by omega
  have hb0:w.heap.size<W2.heap.size:=by omega
  have HR:=hid hr;have HX:=hid hx;have HK:=hid hbk;have H4:=hid h4;have Q1:=hid q1
  have HLen:=hid hlen
  clear hr hx hbk h4 h1 h2 h3 q1 q2 hk2 hlen
  gi_wp2_with (first
   | (gi_at_builtin;refine wpListIn_append_own _ rfl _ _ 46 rfl (w1.heap.size+2) 34 ri (.agg #[.int .i64 0,.int .u32 0]) 2 16 Tryz.underlying46 hi1 hi2 hi3 hi4 rfl (by decide) _ _ _ rfl (World.ownsRow.alloc HR.out _) ⟨W2.heap.size,0,none⟩ 1 1 [.int .i64 r.s,.int .u32 r.g] rfl rfl ?c1 ?c2 ?c3 ?c4 ?c5 ?_)
   | fail)
  case c1=>
   intro j u hj
   match j,hj with
   | 0,hj=>simp at hj;subst hj;simp [Addr.add]
   | 1,hj=>simp at hj;subst hj;simp [Addr.add]
  case c2=>intro u hu;simp at hu;rcases hu with rfl | rfl <;> rfl
  case c3=>have:=HLen.out;simp [maxLen];omega
  case c4=>have:=HLen.out;simp;omega
  case c5=>simp;omega
  intro v' w3 hown hgr _
  obtain⟨p',cap',hv'⟩:=own_shape hown
  have hro:=HR.out.lt
  have hgk:=grown_keeps hgr
  have HR3:=hid (show Row w3 (w1.heap.size+2) v' ((pre ++ [(i,r)]).map (·.2)) by have h:=Row.snoc (l:=pre.map (·.2)) (r:=r) (by rw [List.length_map];exact hown);simpa using h)
  have q3:=block_keep (alloc_old (o:=.cells #[.int .i64 r.s,.int .u32 r.g] 34) Q1.out) hgk (fun h=>by have:=hro _ h;omega)
  have HV:=hid hv'
  have HG:=hid hgk;have HO:=hid hro
  have c3:=cell_at (i:=0) q3 rfl
  have f3:=frozen_block q3 0
  have Q3:=hid q3
  clear hown hgr hgk q3 hro hv'
  obtain rfl:=HV.out
  gi_wp2_with fail
  have hsz3:=HG.out.size
  simp only [World.size_alloc] at hsz3
  have kk:Keeps (fun k=>¬ Two w1 k) W2 (w3.setCell ⟨w.heap.size+1,0,none⟩ (.slice p' (pre.length+1) cap')):=
   (((Keeps.refl (fun k=>¬ Two w1 k) W2).alloc _).trans' HG.out (U:=fun k=>¬ Two w1 k) (fun _ _ h=>h) (fun k hk h=>by
     have:=HO.out k h
     intro h';rcases h' with h' | h' <;> omega)).setCell (.inl (not_two hl)) _
  refine⟨kk,_,set_block Q3.out 0 _,HR3.out.keeps ((Keeps.refl (fun k=>k=w.heap.size+1) _).setCell (.inl rfl) (.slice p' (pre.length+1) cap')) (fun k h1 _ _ h=>by omega),by simpa using HLen.out,?_⟩
  have k1:Keeps (fun y=>w1.heap.size≤y) W2 w3:=((Keeps.refl (fun y=>w1.heap.size≤y) W2).alloc _).trans (HG.out.mono (fun k hk h=>by have:=HO.out k h;simp;omega))
  have k2:Keeps (fun y=>y=w.heap.size+1∨w1.heap.size≤y) w1 (w3.setCell ⟨w.heap.size+1,0,none⟩ (.slice p' (pre.length+1) cap')):=
   ((H4.out.trans' HK.out (U:=fun y=>y=w.heap.size+1∨Two w1 y) (fun _ _ h=>h) (fun _ _ h=>.inr h)).trans' k1 (U:=fun y=>y=w.heap.size+1∨w1.heap.size≤y) (fun y _ h=>by rcases h with h | h | h <;> omega) (fun _ _ h=>.inr h)).setCell (.inl (.inl rfl)) _
  exact k2.mono (fun y hy h=>by rcases h with h | h;exact .inl h;omega)
 case done=>
  rintro W ⟨v,h1,h2,h3,h4⟩ hD
  have c1:=cell_at (i:=0) h1 rfl
  have H1:=hid h1;have H2:=hid h2;have H4:=hid h4;have HD:=hid hD
  clear h1 h2 h3 h4 hD
  gi_wp2_with fail
  refine leave_mark HD.out fun W' hk'=>⟨v,by simp [results,Tryz.results286,go_sem],v,rfl,?_,?_⟩
  ·exact (H2.out.keeps hk' (fun k h1 _ _ h=>by omega)).mono (by have:=HK1.out.size;omega)
  ·have hsz:=HK1.out.size
   exact (HK1.out.trans' H4.out (U:=fun y=>w.heap.size≤y) (fun _ _ h=>h.elim) (fun y _ h=>by rcases h with h | h | h <;> omega)).trans' hk' (U:=fun _=>False) (fun y hy h=>by omega) (fun y hy h=>by omega)
end Go.Proofs.YtnlkfbndlngjaaaGreat
namespace Go.Proofs.YtnlkfbndlngjaaaGreat
open Go.RowKit
attribute [local go_sem] Oper.semAt_some
theorem keeps_set1 (w:World) (b i:Nat) (v:Value):Keeps (fun k=>k=b) w (w.setCell ⟨b,i,none⟩ v):=(Keeps.refl (fun k=>k=b) w).setCell (p:=⟨b,i,none⟩) (.inl rfl) v
theorem Tb.inn_len (T:Tb) (s:Int) (k:Nat):(T.inn s k).length≤k:=by
 induction k with
 | zero=>simp [Tb.inn]
 | succ k ih=>simp only [Tb.inn,List.length_append];split <;> simp <;> omega
def rfOf (x:Nat × Int):Rf:=⟨x.1,x.2⟩
def Tb.tk (T:Tb):List Rf:=(T.inn 1 T.n).map rfOf
theorem staken_ok (b:Nat) (T:Tb) (w:World) (h:TbAt w b T):
 Calls Tryz.prog 49 #[.pointer (some ⟨b,0,none⟩)] w fun e w'=>∃ v,e = .returned v∧Row w' w.heap.size v T.tk∧Keeps (fun _=>False) w w':=by
 have hn:=h.n12
 have HT:=hid (fun (w':World) (hk:Keeps (fun _=>False) w w')=>h.keeps hk (fun h=>h))
 have hbl:=h.lt
 clear h
 obtain⟨ri,hi1,hi2,hi3,hi4⟩:=ref_info
 refine (callsIn_wide (n:=0)).1 ?_
 refine callsIn_of_wp_marks Tryz.func49 rfl trivial ?_ rfl
 simp only [Tryz.ntmps49,List.size_toArray,List.length_cons,List.length_nil,Nat.reduceAdd,Nat.reduceSub,Array.replicate_succ,Array.replicate_zero,List.push_toArray,List.append_toArray,List.nil_append,List.cons_append]
 gi_wp2_with fail
 refine⟨trivial,rfl,callsIn_wide.2 ((sin_call b 1 _).mono ?_)⟩
 rintro e w1 ⟨B1,B2,rfl,hB1,hB2,hk1,hb1,hb2⟩
 simp only [World.size_alloc] at hB1 hB2
 have HB1:=hid hb1;have HB2:=hid hb2
 have HK1:=hid (show Keeps (fun _=>False) w w1 from Keeps.trans (by repeat (first | exact Keeps.refl _ _ | apply Keeps.alloc)) hk1)
 have HQ:=hid (block_keep (alloc_new (w:=w) (o:=.cells #[.slice none 0 0] 46)) hk1 (fun h=>h))
 clear hk1 hb1 hb2
 gi_wp2_with fail
 refine wp_over (gf:=176) (lb:=#[.pointer (some ⟨B1,0,none⟩),.pointer (some ⟨B2,0,none⟩)]) rfl (enters_of Tryz.func176 (by kernel_rfl) rfl) (sin_gives b B1 B2 T 1) (fun _=>rfl)
  (fun pre W=>∃ v,W.heap[w.heap.size]?=some (.cells #[v] 46)∧Row W (w1.heap.size+2) v (pre.map rfOf)∧pre.length≤256∧Keeps (fun y=>y=w.heap.size∨Two w1 y) w1 W) (fun _ _=>False)
  ?hI (fun _ _ _ h _=>h) ?hRd (fun _ _ h=>h) ⟨_,HQ.out,Row.nil _ _,by simp,Keeps.refl _ _⟩ ?body ?done ?stop
 case stop=>exact fun _ _ h=>h.elim
 case hI=>
  rintro pre W W' ⟨v,h1,h2,h3,h4⟩ hk
  have hl:=lt_block HQ.out
  have hk':Keeps (Two w1) W W':=hk.mono (fun _ _ h=>h.elim (fun h=>h.elim) (fun h=>h))
  exact⟨v,block_keep h1 hk' (not_two hl),h2.keeps hk' (fun k h1 _ _ h=>by rcases h with h | h <;> omega),h3,h4.trans (hk'.mono (fun _ _ h=>.inr h))⟩
 case hRd=>
  rintro pre W ⟨v,h1,h2,h3,h4⟩
  have hl1:=lt_block HB1.out
  have hl2:=lt_block HB2.out
  have hsz:=HK1.out.size
  have no:∀ y,y≠w.heap.size→y<w1.heap.size→¬ (y=w.heap.size∨Two w1 y):=fun y h1 h2 h=>by rcases h with h | h;exact h1 h;exact not_two h2 h
  exact⟨cell_at (block_keep HB1.out h4 (no _ (by omega) hl1)) rfl,cell_at (block_keep HB2.out h4 (no _ (by omega) hl2)) rfl,(HT.out _ HK1.out).keeps h4 (no _ (by omega) (by omega))⟩
 case body=>
  rintro l pre ⟨i,g⟩ suf W hx ⟨v,h1,h2,h3,h4⟩ hsW
  simp only [encSl,List.zip_toArray,List.zip_cons_cons,List.zip_nil_left]
  gi_wp2_with fail
  refine⟨Keeps.refl _ _,fun W2 hk2=>?_⟩
  have hl:=lt_block HQ.out
  have hbk:Keeps (Two w1) W W2:=hk2
  have hlen:pre.length+1≤256:=by
   have:=congrArg List.length hx
   have h5:=Tb.inn_len T 1 T.n
   simp at this
   omega
  have q1:=block_keep h1 hbk (not_two hl)
  have hr:=h2.keeps hbk (fun k h1 _ _ h=>by rcases h with h | h <;> omega)
  have hsz2:=hk2.size
  have c1:=cell_at (i:=0) q1 rfl
  have f1:=frozen_block q1 0
  have hb0:w.heap.size<W2.heap.size:=by omega
  have HR:=hid hr;have HX:=hid hx;have HK:=hid hbk;have H4:=hid h4;have Q1:=hid q1
  have HLen:=hid hlen
  clear hr hx hbk h4 h1 h2 h3 q1 hk2 hlen
  gi_wp2_with (first
   | (gi_at_builtin;refine wpListIn_append_own _ rfl _ _ 46 rfl (w1.heap.size+2) 34 ri (.agg #[.int .i64 0,.int .u32 0]) 2 16 Tryz.underlying46 hi1 hi2 hi3 hi4 rfl (by decide) _ _ _ rfl (World.ownsRow.alloc HR.out _) ⟨W2.heap.size,0,none⟩ 1 1 [.int .i64 i,.int .u32 g] rfl rfl ?c1 ?c2 ?c3 ?c4 ?c5 ?_)
   | fail)
  case c1=>
   intro j u hj
   match j,hj with
   | 0,hj=>simp at hj;subst hj;simp [Addr.add]
   | 1,hj=>simp at hj;subst hj;simp [Addr.add]
  case c2=>intro u hu;simp at hu;rcases hu with rfl | rfl <;> rfl
  case c3=>have:=HLen.out;simp [maxLen];omega
  case c4=>have:=HLen.out;simp;omega
  case c5=>simp;omega
  intro v' w3 hown hgr _
  obtain⟨p',cap',hv'⟩:=own_shape hown
  have hro:=HR.out.lt
  have hgk:=grown_keeps hgr
  have HR3:=hid (show Row w3 (w1.heap.size+2) v' ((pre ++ [(i,g)]).map rfOf) by have h:=Row.snoc (l:=pre.map rfOf) (r:=⟨i,g⟩) (by rw [List.length_map];exact hown);simpa [rfOf] using h)
  have q3:=block_keep (alloc_old (o:=.cells #[.int .i64 i,.int .u32 g] 34) Q1.out) hgk (fun h=>by have:=hro _ h;omega)
  have HV:=hid hv'
  have HG:=hid hgk;have HO:=hid hro
  have c3:=cell_at (i:=0) q3 rfl
  have f3:=frozen_block q3 0
  have Q3:=hid q3
  clear hown hgr hgk q3 hro hv'
  obtain rfl:=HV.out
  gi_wp2_with fail
  have hsz3:=HG.out.size
  simp only [World.size_alloc] at hsz3
  have kk:Keeps (fun k=>¬ Two w1 k) W2 (w3.setCell ⟨w.heap.size,0,none⟩ (.slice p' (pre.length+1) cap')):=
   (((Keeps.refl (fun k=>¬ Two w1 k) W2).alloc _).trans' HG.out (U:=fun k=>¬ Two w1 k) (fun _ _ h=>h) (fun k hk h=>by
     have:=HO.out k h
     intro h';rcases h' with h' | h' <;> omega)).setCell (.inl (not_two hl)) _
  refine⟨kk,_,set_block Q3.out 0 _,HR3.out.keeps (keeps_set1 _ _ _ _) (fun k h1 _ _ h=>by omega),by simpa using HLen.out,?_⟩
  have k1:Keeps (fun y=>w1.heap.size≤y) W2 w3:=((Keeps.refl (fun y=>w1.heap.size≤y) W2).alloc _).trans (HG.out.mono (fun k hk h=>by have:=HO.out k h;simp;omega))
  have k2:Keeps (fun y=>y=w.heap.size∨w1.heap.size≤y) w1 (w3.setCell ⟨w.heap.size,0,none⟩ (.slice p' (pre.length+1) cap')):=
   ((H4.out.trans' HK.out (U:=fun y=>y=w.heap.size∨Two w1 y) (fun _ _ h=>h) (fun _ _ h=>.inr h)).trans' k1 (U:=fun y=>y=w.heap.size∨w1.heap.size≤y) (fun y _ h=>by rcases h with h | h | h <;> omega) (fun _ _ h=>.inr h)).setCell (.inl (.inl rfl)) _
  exact k2.mono (fun y hy h=>by rcases h with h | h;exact .inl h;omega)
 case done=>
  rintro W ⟨v,h1,h2,h3,h4⟩ hD
  have c1:=cell_at (i:=0) h1 rfl
  have H1:=hid h1;have H2:=hid h2;have H4:=hid h4;have HD:=hid hD
  clear h1 h2 h3 h4 hD
  gi_wp2_with fail
  refine leave_mark HD.out fun W' hk'=>⟨v,by simp [results,Tryz.results49,go_sem],v,rfl,?_,?_⟩
  ·exact (H2.out.keeps hk' (fun k h1 _ _ h=>by omega)).mono (by have:=HK1.out.size;omega)
  ·have hsz:=HK1.out.size
   exact (HK1.out.trans' H4.out (U:=fun y=>w.heap.size≤y) (fun _ _ h=>h.elim) (fun y _ h=>by rcases h with h | h | h <;> omega)).trans' hk' (U:=fun _=>False) (fun y hy h=>by omega) (fun y hy h=>by omega)
end Go.Proofs.YtnlkfbndlngjaaaGreat
