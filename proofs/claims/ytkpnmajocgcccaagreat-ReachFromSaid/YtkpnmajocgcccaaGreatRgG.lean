import Derived.Test.YtkpnmajocgcccaaGreatRcK
import Derived.Test.YtkpnmajocgcccaaGreatRgE
set_option maxHeartbeats 4000000
set_option maxRecDepth 100000
namespace Go.Proofs.YtkpnmajocgcccaaGreat
open Go.RowKit Go.ChangeShapes Go.WideShapes Go.ChangeAt Go.Deep
set_option linter.unusedVariables false
set_option linter.unusedSimpArgs false
def NoH (w:World) (v:Value):Prop:=v = .pointer none∨∃ b,v = .pointer (some ⟨b,0,none⟩)∧w.heap[b]?=some (.cells Tryz.zeroCells132 132)
theorem NoH.keeps0 {w w':World} {v:Value} (h:NoH w v) (hk:Keeps (fun _=>False) w w'):NoH w' v:=by
 rcases h with h | ⟨b,h,hb⟩
 ·exact .inl h
 ·exact .inr ⟨b,h,block_keep hb hk (fun h=>h)⟩
theorem NoH.cell {w:World} {b:Nat} (hb:w.heap[b]?=some (.cells Tryz.zeroCells132 132)):w.cell? ⟨b,0,none⟩=some (.pointer none):=
 cell_at hb (by rw [← Array.getElem?_toList,hz_list];rfl)
theorem hvalid_no (v:Value) (w:World) (h:NoH w v):Calls Tryz.prog 76 #[v] w fun e w'=>e = .returned (.bool false)∧w'=w:=by
 rcases h with rfl | ⟨b,rfl,hb⟩
 ·go_enter Tryz.func76,Tryz.ntmps76
  go_wp2
  go_ret
  exact⟨rfl,rfl⟩
 ·have c0:=NoH.cell hb
  clear hb
  go_enter Tryz.func76,Tryz.ntmps76
  go_wp2
  go_ret
  exact⟨rfl,rfl⟩
theorem hcopy_no (v:Value) (w:World) (h:NoH w v):Calls Tryz.prog 57 #[v] w fun e w'=>e = .returned (.pointer none)∧w'=w:=by
 have HV:=hid (hvalid_no v w h)
 clear h
 go_enter Tryz.func57,Tryz.ntmps57
 go_wp2_with fail
 refine (HV.out).mono ?_
 rintro e w' ⟨rfl,h'⟩
 obtain rfl:=h'.symm
 go_wp2_with fail
 go_ret
 exact⟨rfl,rfl⟩
theorem there_no (v l:Value) (w:World) (h:NoH w v):Calls Tryz.prog 37 #[v,l] w fun e w'=>e = .returned (.tuple #[.slice none 0 0,.int .i64 1])∧w'=w:=by
 have HV:=hid (hcopy_no v w h)
 clear h
 go_enter Tryz.func37,Tryz.ntmps37
 go_wp2_with fail
 refine (HV.out).mono ?_
 rintro e w' ⟨rfl,h'⟩
 obtain rfl:=h'.symm
 go_wp2_with fail
 go_ret2
 exact⟨rfl,rfl⟩
theorem from_no (v l:Value) (w:World) (h:NoH w v):Calls Tryz.prog 8 #[v,l] w fun e w'=>e = .returned (.tuple #[.slice none 0 0,.int .i64 1])∧w'=w:=by
 have HV:=hid (there_no v l w h)
 clear h
 go_enter Tryz.func8,Tryz.ntmps8
 go_wp2_with fail
 refine (HV.out).mono ?_
 rintro e w' ⟨rfl,h'⟩
 obtain rfl:=h'.symm
 go_wp2_with fail
 go_ret2
 exact⟨rfl,rfl⟩
theorem closed_no (v:Value) (p:Option Addr) (n c:Nat) (w:World) (h:NoH w v):Calls Tryz.prog 9 #[v,.slice p n c] w fun e w'=>e = .returned (.tuple #[.bool false,.int .i64 1])∧Keeps (fun _=>False) w w':=by
 have HT:=hid (fun W (hk:Keeps (fun _=>False) w W)=>there_no v (.slice p n c) W (h.keeps0 hk))
 clear h
 refine (callsIn_wide (n:=0)).1 ?_
 refine callsIn_of_wp_marks Tryz.func9 rfl trivial ?_ rfl
 simp only [Tryz.ntmps9,List.size_toArray,List.length_cons,List.length_nil,Nat.reduceAdd,Nat.reduceSub,Array.replicate_succ,Array.replicate_zero,List.push_toArray,List.append_toArray,List.nil_append,List.cons_append]
 obtain⟨wa,hwa⟩:∃ wa,((w.alloc (.cells #[.slice p n c] 23)).alloc (.cells #[.bool false] 4)).alloc (.cells #[.int .i64 0] 26)=wa:=⟨_,rfl⟩
 have ka:Keeps (fun _=>False) w wa:=by rw [← hwa];exact (((Keeps.refl _ _).alloc _).alloc _).alloc _
 have qa3:wa.heap[w.heap.size]?=some (.cells #[.slice p n c] 23):=by rw [← hwa];exact alloc_old (alloc_old alloc_new)
 have qa4:wa.heap[w.heap.size+1]?=some (.cells #[.bool false] 4):=by rw [← hwa];exact alloc_old (alloc_new' (by simp))
 have qa5:wa.heap[w.heap.size+1+1]?=some (.cells #[.int .i64 0] 26):=by rw [← hwa];exact alloc_new' (by simp)
 have HWA:=hid hwa;have KA:=hid ka;have Q3:=hid qa3;have Q4:=hid qa4;have Q5:=hid qa5
 have hl5:=lt_block qa5
 obtain⟨d0,df,dl⟩:=cells1 qa3
 clear hwa ka qa3 qa4 qa5
 gi_wp2_with fail
 rw [HWA.out]
 refine⟨trivial,rfl,callsIn_wide.2 ((HT.out _ KA.out).mono ?_)⟩
 rintro e w1 ⟨rfl,hw1⟩
 subst hw1
 clear d0 df dl
 obtain⟨d0,df,dl⟩:=cells1 Q3.out
 obtain⟨f0,ff,fl4⟩:=cells1 Q4.out
 obtain⟨g0,gf,gl5⟩:=cells1 Q5.out
 gi_wp2_with fail
 obtain⟨W5,hW5⟩:∃ W5,((w1.setCell ⟨w.heap.size,0,none⟩ (.slice none 0 0)).setCell ⟨w.heap.size+1,0,none⟩ (.bool false)).setCell ⟨w.heap.size+1+1,0,none⟩ (.int .i64 1)=W5:=⟨_,rfl⟩
 have k5:Keeps (fun y=>y=w.heap.size∨y=w.heap.size+1∨y=w.heap.size+2) w1 W5:=by
  rw [← hW5]
  exact Keeps.setCell (p:=⟨w.heap.size+1+1,0,none⟩) (Keeps.setCell (p:=⟨w.heap.size+1,0,none⟩) (Keeps.setCell (p:=⟨w.heap.size,0,none⟩) (Keeps.refl _ w1) (.inl (.inl rfl)) _) (.inl (.inr (.inl rfl))) _) (.inl (.inr (.inr rfl))) _
 have q45:W5.heap[w.heap.size+1]?=some (.cells #[.bool false] 4):=by
  rw [← hW5];exact set_oth (set_block (set_oth Q4.out (by simp)) 0 _) (by simp)
 have q55:W5.heap[w.heap.size+1+1]?=some (.cells #[.int .i64 1] 26):=by
  rw [← hW5];exact set_block (set_oth (set_oth Q5.out (by simp <;> omega)) (by simp <;> omega)) 0 _
 rw [hW5]
 refine leave_marks [] W5 List.nodup_nil (fun D hd=>nomatch hd) (fun W' hk'=>?_)
 obtain⟨f0,_,_⟩:=cells1 (block_keep q45 hk' (fun h=>nomatch h))
 obtain⟨g0,_,_⟩:=cells1 (block_keep q55 hk' (fun h=>nomatch h))
 refine⟨.tuple #[.bool false,.int .i64 1],by simp [results,Tryz.results9,go_sem,f0,g0],rfl,?_⟩
 have q2:Keeps (fun y=>w.heap.size≤y) w W5:=KA.out.up.trans' k5 (fun _ _ h=>h) (fun y _ h=>by omega)
 exact (q2.trans' hk' (fun _ _ h=>h) (fun y _ h=>nomatch h)).fresh
def ksRef:List Flat:=[.int .i64,.int .u32]
end Go.Proofs.YtkpnmajocgcccaaGreat
namespace Go.Proofs.YtkpnmajocgcccaaGreat
open Go.RowKit
set_option linter.unusedVariables false
set_option linter.unusedSimpArgs false
structure Pr (N:Nat) (w0 w:World) (a:Nat) (LA:ArL) (x:Nat) (A B:Ar):Prop where
 ay:Ay N w0 w a LA A
 lx:N≤x
 doc:∃ LR:L18,N≤LR.hb∧R18 w x LR B
def Stay (w w':World):Prop:=∀ (y:Nat) (c:Array Value),w.heap[y]?=some (Obj.cells c 95)→w'.heap[y]?=some (Obj.cells c 95)
theorem Stay.of {w w':World} {S:Nat→Prop} (hk:Keeps S w w') (h:∀ (y:Nat) (c:Array Value),w.heap[y]?=some (Obj.cells c 95)→¬ S y):Stay w w':=fun y c hy=>block_keep hy hk (h y c hy)
section
variable {N:Nat} {w0 w w':World} {a x:Nat} {LA:ArL} {A A' B B':Ar}
theorem Ay.ty (h:Ay N w0 w a LA A):∀ y c t,w.heap[y]?=some (.cells c t)→LA.foot A.many y→t=132∨t=184∨t=142∨t=145:=by
 intro y c t hy hf
 rcases hf with rfl | rfl | rfl | ⟨k,hk,rfl⟩
 ·obtain⟨c',hc,_⟩:=h.ar.heap.own;rw [hc] at hy;simp at hy;exact .inl hy.2.symm
 ·obtain⟨c',hc,_⟩:=h.ar.heap.tab;rw [hc] at hy;simp at hy;exact .inr (.inl hy.2.symm)
 ·obtain⟨c',hc,_⟩:=h.ar.gl;rw [hc] at hy;simp at hy;exact .inr (.inr (.inl hy.2.symm))
 ·obtain⟨c',hc,_⟩:=h.ar.st k hk;rw [hc] at hy;simp at hy;exact .inr (.inr (.inr hy.2.symm))
theorem Ay.alien (h:Ay N w0 w a LA A):Alien (fun y=>LA.foot A.many y) w:=by
 intro y c t hy ht hf
 rcases h.ty y c t hy hf with h | h | h | h <;> rw [h] at ht <;> revert ht <;> decide
theorem Ay.stay (h:Ay N w0 w a LA A) (hk:Keeps (fun y=>LA.foot A.many y) w w'):Stay w w':=
 Stay.of hk fun y c hy hf=>by rcases h.ty y c _ hy hf with h | h | h | h <;> revert h <;> decide
theorem Pr.quiet (h:Pr N w0 w a LA x A B) (hk:Keeps (fun _=>False) w w'):Pr N w0 w' a LA x A B:=by
 obtain⟨LR,h1,h2⟩:=h.doc
 exact⟨h.ay.quiet hk,h.lx,LR,h1,h2.k0 hk⟩
theorem Pr.prog (h:Pr N w0 w a LA x A B) (hk:Keeps (fun y=>LA.foot A.many y) w w') (h':Ay N w0 w' a LA A'):Pr N w0 w' a LA x A' B:=by
 obtain⟨LR,h1,h2⟩:=h.doc
 exact⟨h',h.lx,LR,h1,h2.keeps hk h.ay.alien⟩
theorem Pr.docs (h:Pr N w0 w a LA x A B) (hu:∃ LR n,N≤LR.hb∧R18 w x LR B∧Up18 x n LR B' w w'):Pr N w0 w' a LA x A B'∧Stay w w':=by
 obtain⟨LR,n,h1,h2,hk,L',e,h3,_⟩:=hu
 obtain⟨cx,_,x1,_⟩:=h2.own
 obtain⟨_,_,_,b1⟩:=h2.heap.own
 have hs:∀ y c t,w.heap[y]?=some (.cells c t)→t≠83→t≠115→¬ (y=x∨y=LR.hb):=fun y c t hy n1 n2 e=>e.elim (type_ne hy x1 n1) (type_ne hy b1 n2)
 obtain⟨ca,a1,_⟩:=h.ay.ar.own
 obtain⟨ch,c1,_⟩:=h.ay.ar.heap.own
 obtain⟨ct,t1,_⟩:=h.ay.ar.heap.tab
 obtain⟨cg,g1,_⟩:=h.ay.ar.gl
 refine⟨⟨⟨h.ay.ar.keeps hk (hs _ _ _ a1 (by decide) (by decide)) (hs _ _ _ h.ay.ar.obj (by decide) (by decide)) (hs _ _ _ c1 (by decide) (by decide)) (hs _ _ _ t1 (by decide) (by decide)) (hs _ _ _ g1 (by decide) (by decide)) (fun m hm=>?_),h.ay.ok,h.ay.lo,h.ay.k.trans' hk (fun _ _ h=>h) (fun y _ hy=>?_)⟩,h.lx,L',by rw [e];exact h1,h3⟩,Stay.of hk fun y c hy=>hs y c _ hy (by decide) (by decide)⟩
 ·obtain⟨cs,s1,_⟩:=h.ay.ar.st m hm
  exact hs _ _ _ s1 (by decide) (by decide)
 ·rcases hy with rfl | rfl
  ·exact h.lx
  ·exact h1
theorem Pr.pmake (h:Pr N w0 w a LA x A B) (m n:Int) (hd:Bool):Calls Tryz.prog 43 #[.pointer (some ⟨a,0,none⟩),.int .i64 m,.int .i64 n,.bool hd] w
 fun e w'=>(∃ u v,e = .returned (.tuple #[u,v]))∧Pr N w0 w' a LA x (A.makeR m n hd).A B∧Stay w w':=
 (h.ay.make m n hd).mono fun _ _ ⟨h1,h2,h3⟩=>⟨⟨_,_,h1⟩,h.prog h3 h2,h.ay.stay h3⟩
theorem Pr.pload (h:Pr N w0 w a LA x A B) (m i f:Int):Calls Tryz.prog 45 #[.pointer (some ⟨a,0,none⟩),.int .i64 m,.int .i64 i,.int .i64 f] w
 fun e w'=>(∃ u v,e = .returned (.tuple #[u,v]))∧Pr N w0 w' a LA x (A.loadR m i f).A B∧Stay w w':=
 (h.ay.load m i f).mono fun _ _ ⟨h1,h2,h3⟩=>⟨⟨_,_,h1⟩,h.prog h3 h2,h.ay.stay h3⟩
theorem Pr.pstore (h:Pr N w0 w a LA x A B) (m i f j:Int):Calls Tryz.prog 47 #[.pointer (some ⟨a,0,none⟩),.int .i64 m,.int .i64 i,.int .i64 f,.int .i64 j] w
 fun e w'=>(∃ u v z,e = .returned (.tuple #[u,v,z]))∧Pr N w0 w' a LA x (A.storeR m i f j).A B∧Stay w w':=
 (h.ay.store m i f j).mono fun _ _ ⟨h1,h2,h3⟩=>⟨⟨_,_,_,h1⟩,h.prog h3 h2,h.ay.stay h3⟩
theorem Pr.pdrop (h:Pr N w0 w a LA x A B) (m i:Int):Calls Tryz.prog 32 #[.pointer (some ⟨a,0,none⟩),.int .i64 m,.int .i64 i] w
 fun e w'=>(∃ u v,e = .returned (.tuple #[u,v]))∧Pr N w0 w' a LA x (A.dropR m i).A B∧Stay w w':=
 (h.ay.drop m i).mono fun _ _ ⟨h1,h2,h3⟩=>⟨⟨_,_,h1⟩,h.prog h3 h2,h.ay.stay h3⟩
theorem Pr.pput (h:Pr N w0 w a LA x A B) (m i k:Int):Calls Tryz.prog 50 #[.pointer (some ⟨a,0,none⟩),.int .i64 m,.int .i64 i,.int .i64 k] w
 fun e w'=>(∃ u v z,e = .returned (.tuple #[u,v,z]))∧Pr N w0 w' a LA x (A.putR m i k).A B∧Stay w w':=
 (h.ay.put m i k).mono fun _ _ ⟨h1,h2,h3⟩=>⟨⟨_,_,_,h1⟩,h.prog h3 h2,h.ay.stay h3⟩
theorem Pr.pget (h:Pr N w0 w a LA x A B) (m k:Int):Calls Tryz.prog 52 #[.pointer (some ⟨a,0,none⟩),.int .i64 m,.int .i64 k] w
 fun e w'=>(∃ u v,e = .returned (.tuple #[u,v]))∧Pr N w0 w' a LA x (A.getR m k).A B∧Stay w w':=
 (h.ay.get m k).mono fun _ _ ⟨h1,h2,h3⟩=>⟨⟨_,_,h1⟩,h.prog h3 h2,h.ay.stay h3⟩
theorem Pr.pfree (h:Pr N w0 w a LA x A B) (r:Rf):Calls Tryz.prog 54 #[.pointer (some ⟨a,0,none⟩),.agg #[.int .i64 r.s,.int .u32 r.g]] w
 fun e w'=>(∃ u,e = .returned u)∧Pr N w0 w' a LA x (A.freeR r).1 B∧Keeps (fun y=>LA.foot A.many y) w w'∧Stay w w':=
 (h.ay.free r).mono fun _ _ ⟨h1,h2,h3⟩=>⟨⟨_,h1⟩,h.prog h3 h2,h3,h.ay.stay h3⟩
theorem Pr.dmake (h:Pr N w0 w a LA x A B) (m n:Int) (hd:Bool):Calls Tryz.prog 44 #[.pointer (some ⟨x,0,none⟩),.int .i64 m,.int .i64 n,.bool hd] w
 fun e w'=>(∃ u v,e = .returned (.tuple #[u,v]))∧Pr N w0 w' a LA x A (B.makeR m n hd).A∧Stay w w':=by
 obtain⟨LR,h1,h2⟩:=h.doc
 exact (make18 m n hd h2).mono fun _ _ ⟨e1,e2⟩=>⟨⟨_,_,e1⟩,h.docs ⟨LR,_,h1,h2,e2⟩⟩
theorem Pr.dload (h:Pr N w0 w a LA x A B) (m i f:Int):Calls Tryz.prog 46 #[.pointer (some ⟨x,0,none⟩),.int .i64 m,.int .i64 i,.int .i64 f] w
 fun e w'=>(∃ u v,e = .returned (.tuple #[u,v]))∧Pr N w0 w' a LA x A (B.loadR m i f).A∧Stay w w':=by
 obtain⟨LR,h1,h2⟩:=h.doc
 exact (load18 m i f h2).mono fun _ _ ⟨e1,e2⟩=>⟨⟨_,_,e1⟩,h.docs ⟨LR,_,h1,h2,e2⟩⟩
theorem Pr.dstore (h:Pr N w0 w a LA x A B) (m i f j:Int):Calls Tryz.prog 48 #[.pointer (some ⟨x,0,none⟩),.int .i64 m,.int .i64 i,.int .i64 f,.int .i64 j] w
 fun e w'=>(∃ u v z,e = .returned (.tuple #[u,v,z]))∧Pr N w0 w' a LA x A (B.storeR m i f j).A∧Stay w w':=by
 obtain⟨LR,h1,h2⟩:=h.doc
 exact (store18 m i f j h2).mono fun _ _ ⟨e1,e2⟩=>⟨⟨_,_,_,e1⟩,h.docs ⟨LR,_,h1,h2,e2⟩⟩
theorem Pr.ddrop (h:Pr N w0 w a LA x A B) (m i:Int):Calls Tryz.prog 49 #[.pointer (some ⟨x,0,none⟩),.int .i64 m,.int .i64 i] w
 fun e w'=>(∃ u v,e = .returned (.tuple #[u,v]))∧Pr N w0 w' a LA x A (B.dropR m i).A∧Stay w w':=by
 obtain⟨LR,h1,h2⟩:=h.doc
 exact (drop18 m i h2).mono fun _ _ ⟨e1,e2⟩=>⟨⟨_,_,e1⟩,h.docs ⟨LR,_,h1,h2,e2⟩⟩
theorem Pr.dput (h:Pr N w0 w a LA x A B) (m i k:Int):Calls Tryz.prog 51 #[.pointer (some ⟨x,0,none⟩),.int .i64 m,.int .i64 i,.int .i64 k] w
 fun e w'=>(∃ u v z,e = .returned (.tuple #[u,v,z]))∧Pr N w0 w' a LA x A (B.putR m i k).A∧Stay w w':=by
 obtain⟨LR,h1,h2⟩:=h.doc
 exact (put18 m i k h2).mono fun _ _ ⟨e1,e2⟩=>⟨⟨_,_,_,e1⟩,h.docs ⟨LR,_,h1,h2,e2⟩⟩
theorem Pr.dget (h:Pr N w0 w a LA x A B) (m k:Int):Calls Tryz.prog 53 #[.pointer (some ⟨x,0,none⟩),.int .i64 m,.int .i64 k] w
 fun e w'=>(∃ u v,e = .returned (.tuple #[u,v]))∧Pr N w0 w' a LA x A (B.getR m k).A∧Stay w w':=by
 obtain⟨LR,h1,h2⟩:=h.doc
 exact (get18 m k h2).mono fun _ _ ⟨e1,e2⟩=>⟨⟨_,_,e1⟩,h.docs ⟨LR,_,h1,h2,e2⟩⟩
theorem Pr.dfree (h:Pr N w0 w a LA x A B) (r:Rf):Calls Tryz.prog 55 #[.pointer (some ⟨x,0,none⟩),.agg #[.int .i64 r.s,.int .u32 r.g]] w
 fun e w'=>(∃ u,e = .returned u)∧Pr N w0 w' a LA x A (B.freeR r).1∧Stay w w':=by
 obtain⟨LR,h1,h2⟩:=h.doc
 exact (free18 r h2).mono fun _ _ ⟨e1,e2⟩=>⟨⟨_,e1⟩,h.docs ⟨LR,_,h1,h2,e2⟩⟩
end
theorem cells5s {w:World} {b:Nat} {v0 v1 v2 v3 v4:Value} {t:TypeId} (h:w.heap[b]?=some (.cells #[v0,v1,v2,v3,v4] t)):
 w.cell? ⟨b,0,none⟩=some v0∧w.cell? ⟨b,1,none⟩=some v1∧w.cell? ⟨b,2,none⟩=some v2∧w.cell? ⟨b,3,none⟩=some v3∧w.cell? ⟨b,4,none⟩=some v4∧b<w.heap.size:=
 ⟨cell_at h rfl,cell_at h rfl,cell_at h rfl,cell_at h rfl,cell_at h rfl,lt_block h⟩
structure Sp where
 k:Nat
 m:Int
 a:Int
 b:Int
 c:Int
structure SpCell (w:World) (b o:Nat) (x:Sp):Prop where
 lt:x.k<256
 c0:w.cell? ⟨b,o,none⟩=some (.int .u8 x.k)
 c1:w.cell? ⟨b,o+1,none⟩=some (.int .i64 x.m)
 c2:w.cell? ⟨b,o+2,none⟩=some (.int .i64 x.a)
 c3:w.cell? ⟨b,o+3,none⟩=some (.int .i64 x.b)
 c4:w.cell? ⟨b,o+4,none⟩=some (.int .i64 x.c)
def SpRow (w:World) (v:Value) (l:List Sp):Prop:=∃ a cap,v = .slice a l.length cap∧l.length≤cap∧cap≤maxLen∧(l=[]∨∃ b off,a=some ⟨b,off,none⟩∧b<w.heap.size∧∀ (i:Nat) (x:Sp),l[i]?=some x→SpCell w b (off+i * 5) x)
theorem SpCell.same {w w':World} {b o:Nat} {x:Sp} (h:SpCell w b o x) (hb:w'.heap[b]?=w.heap[b]?):SpCell w' b o x:=by
 have e:=fun k=>World.cell?_of_block (w:=w) (w':=w') (a:=⟨b,k,none⟩) hb
 exact⟨h.lt,(e _).trans h.c0,(e _).trans h.c1,(e _).trans h.c2,(e _).trans h.c3,(e _).trans h.c4⟩
section
variable {w0 w w':World} {a x:Nat} {LA:ArL} {A:Ar}
theorem build19 (v:Value) (l:List Sp) (h:Pr w0.heap.size w0 w a LA x A A) (hl:SpRow w0 v l) (h60:l.length≤60):
 Calls Tryz.prog 10 #[.pointer (some ⟨a,0,none⟩),.pointer (some ⟨x,0,none⟩),v] w fun e w'=>e = .returned (.tuple #[])∧∃ A',Pr w0.heap.size w0 w' a LA x A' A':=by
 obtain⟨pa,cap,rfl,hcap,hmax,hx⟩:=hl
 have HX:=hid hx;have H0:=hid h
 clear hx h
 go_enter Tryz.func10,Tryz.ntmps10
 go_wp2_with fail
 go_loopw [12] (fun ix wr=>∃ (k:Nat) (A:Ar),k≤l.length∧ix = .int .i64 k∧Hid (Pr w0.heap.size w0 wr a LA x A A)) (fun ix _=>l.length - (intOf ix).toNat)
 case atStart=>exact⟨0,A,Nat.zero_le _,rfl,H0⟩
 case round=>
  clear H0
  obtain⟨k,A,hk,rfl,HA⟩:=hrel
  have hk0:(0:Int)≤k:=by omega
  by_cases hlt:k<l.length
  ·obtain⟨y,hy⟩:∃ y,l[k]?=some y:=⟨_,List.getElem?_eq_getElem hlt⟩
   have hlt':(k:Int)<(l.length:Int):=by omega
   obtain⟨b,off,rfl,hb,hcl⟩:=HX.out.resolve_left (by intro h;rw [h] at hlt;simp at hlt)
   have hce:=(hcl k y hy).same (HA.out.ay.k.block b hb (by omega))
   obtain⟨hby,c0,c1,c2,c3,c4⟩:=hce
   have hbw:b<wr.heap.size:=Nat.lt_of_lt_of_le hb HA.out.ay.k.size
   obtain⟨wz,hwz⟩:∃ wz,wr.alloc (.cells #[.int .u8 y.k,.int .i64 y.m,.int .i64 y.a,.int .i64 y.b,.int .i64 y.c] 95)=wz:=⟨_,rfl⟩
   have HZ:=hid (show Pr w0.heap.size w0 wz a LA x A A from by rw [← hwz];exact HA.out.quiet ((Keeps.refl _ _).alloc _))
   have HQ:=hid (show wz.heap[wr.heap.size]?=some (.cells #[.int .u8 y.k,.int .i64 y.m,.int .i64 y.a,.int .i64 y.b,.int .i64 y.c] 95) from by rw [← hwz];exact alloc_new)
   have HWZ:=hid hwz
   obtain⟨q,hq⟩:∃ q,y.k % 8=q:=⟨_,rfl⟩
   have hq8:q<8:=by omega
   have hq1:(y.k:Int) % 8=(q:Int):=by omega
   have hq2:(y.k:Int).tmod 8=(q:Int):=by rw [Int.tmod_eq_emod_of_nonneg (by omega)];exact hq1
   have hqw:IntKind.u8.wrap (q:Int)=(q:Int):=IntWalk.u8_in _ (by omega)
   obtain⟨z0,z1,z2,z3,z4,hzl⟩:=cells5s HQ.out
   clear hcl hy hwz hq
   go_upto_region 3 with (fail)
   rw [HWZ.out]
   have hqc:q=0∨q=1∨q=2∨q=3∨q=4∨q=5∨q=6∨q=7:=by omega
   rcases hqc with rfl | rfl | rfl | rfl | rfl | rfl | rfl | rfl
   ·go_wp2_with fail
    refine (HZ.out.pmake _ _ _ ).mono ?_
    rintro e w2 ⟨⟨u,v,rfl⟩,h2,hs2⟩
    have H2:=hid h2
    clear z0 z1 z2 z3 z4 hzl c0 c1 c2 c3 c4
    obtain⟨z0,z1,z2,z3,z4,hzl⟩:=cells5s (hs2 _ _ HQ.out)
    clear hs2 h2
    go_wp2_with fail
    refine (H2.out.dmake _ _ _ ).mono ?_
    rintro e w3 ⟨⟨u,v,rfl⟩,h3,hs3⟩
    have H3:=hid h3
    clear z0 z1 z2 z3 z4 hzl hs3 h3
    go_wp2_with fail
    exact⟨⟨k+1,_,by omega,by go_num,H3⟩,by simp [intOf];omega⟩
   ·go_wp2_with fail
    refine (HZ.out.pload _ _ _ ).mono ?_
    rintro e w2 ⟨⟨u,v,rfl⟩,h2,hs2⟩
    have H2:=hid h2
    clear z0 z1 z2 z3 z4 hzl c0 c1 c2 c3 c4
    obtain⟨z0,z1,z2,z3,z4,hzl⟩:=cells5s (hs2 _ _ HQ.out)
    clear hs2 h2
    go_wp2_with fail
    refine (H2.out.dload _ _ _ ).mono ?_
    rintro e w3 ⟨⟨u,v,rfl⟩,h3,hs3⟩
    have H3:=hid h3
    clear z0 z1 z2 z3 z4 hzl hs3 h3
    go_wp2_with fail
    exact⟨⟨k+1,_,by omega,by go_num,H3⟩,by simp [intOf];omega⟩
   ·go_wp2_with fail
    refine (HZ.out.pstore _ _ _ _ ).mono ?_
    rintro e w2 ⟨⟨u,v,z,rfl⟩,h2,hs2⟩
    have H2:=hid h2
    clear z0 z1 z2 z3 z4 hzl c0 c1 c2 c3 c4
    obtain⟨z0,z1,z2,z3,z4,hzl⟩:=cells5s (hs2 _ _ HQ.out)
    clear hs2 h2
    go_wp2_with fail
    refine (H2.out.dstore _ _ _ _ ).mono ?_
    rintro e w3 ⟨⟨u,v,z,rfl⟩,h3,hs3⟩
    have H3:=hid h3
    clear z0 z1 z2 z3 z4 hzl hs3 h3
    go_wp2_with fail
    exact⟨⟨k+1,_,by omega,by go_num,H3⟩,by simp [intOf];omega⟩
   ·go_wp2_with fail
    refine (HZ.out.pstore _ _ _ _ ).mono ?_
    rintro e w2 ⟨⟨u,v,z,rfl⟩,h2,hs2⟩
    have H2:=hid h2
    clear z0 z1 z2 z3 z4 hzl c0 c1 c2 c3 c4
    obtain⟨z0,z1,z2,z3,z4,hzl⟩:=cells5s (hs2 _ _ HQ.out)
    clear hs2 h2
    go_wp2_with fail
    refine (H2.out.dstore _ _ _ _ ).mono ?_
    rintro e w3 ⟨⟨u,v,z,rfl⟩,h3,hs3⟩
    have H3:=hid h3
    clear z0 z1 z2 z3 z4 hzl hs3 h3
    go_wp2_with fail
    exact⟨⟨k+1,_,by omega,by go_num,H3⟩,by simp [intOf];omega⟩
   ·go_wp2_with fail
    refine (HZ.out.pdrop _ _ ).mono ?_
    rintro e w2 ⟨⟨u,v,rfl⟩,h2,hs2⟩
    have H2:=hid h2
    clear z0 z1 z2 z3 z4 hzl c0 c1 c2 c3 c4
    obtain⟨z0,z1,z2,z3,z4,hzl⟩:=cells5s (hs2 _ _ HQ.out)
    clear hs2 h2
    go_wp2_with fail
    refine (H2.out.ddrop _ _ ).mono ?_
    rintro e w3 ⟨⟨u,v,rfl⟩,h3,hs3⟩
    have H3:=hid h3
    clear z0 z1 z2 z3 z4 hzl hs3 h3
    go_wp2_with fail
    exact⟨⟨k+1,_,by omega,by go_num,H3⟩,by simp [intOf];omega⟩
   ·go_wp2_with fail
    refine (HZ.out.pput _ _ _ ).mono ?_
    rintro e w2 ⟨⟨u,v,z,rfl⟩,h2,hs2⟩
    have H2:=hid h2
    clear z0 z1 z2 z3 z4 hzl c0 c1 c2 c3 c4
    obtain⟨z0,z1,z2,z3,z4,hzl⟩:=cells5s (hs2 _ _ HQ.out)
    clear hs2 h2
    go_wp2_with fail
    refine (H2.out.dput _ _ _ ).mono ?_
    rintro e w3 ⟨⟨u,v,z,rfl⟩,h3,hs3⟩
    have H3:=hid h3
    clear z0 z1 z2 z3 z4 hzl hs3 h3
    go_wp2_with fail
    exact⟨⟨k+1,_,by omega,by go_num,H3⟩,by simp [intOf];omega⟩
   ·go_wp2_with fail
    refine (HZ.out.pget _ _ ).mono ?_
    rintro e w2 ⟨⟨u,v,rfl⟩,h2,hs2⟩
    have H2:=hid h2
    clear z0 z1 z2 z3 z4 hzl c0 c1 c2 c3 c4
    obtain⟨z0,z1,z2,z3,z4,hzl⟩:=cells5s (hs2 _ _ HQ.out)
    clear hs2 h2
    go_wp2_with fail
    refine (H2.out.dget _ _ ).mono ?_
    rintro e w3 ⟨⟨u,v,rfl⟩,h3,hs3⟩
    have H3:=hid h3
    clear z0 z1 z2 z3 z4 hzl hs3 h3
    go_wp2_with fail
    exact⟨⟨k+1,_,by omega,by go_num,H3⟩,by simp [intOf];omega⟩
   ·go_wp2_with fail
    obtain⟨LR,lb,hR⟩:=HZ.out.doc
    refine (heap18 hR).mono ?_
    rintro e w2 ⟨b',r',rfl,k2,_,_,h14⟩
    have K2:=hid k2
    have HAL:=hid (all14 h14)
    have htk:=tk_len14 h14
    clear h14 k2 z0 z1 z2 z3 z4 hzl c0 c1 c2 c3 c4 hR
    obtain⟨tk,htke⟩:∃ tk,A.H.T.tk=tk:=⟨_,rfl⟩
    rw [htke] at HAL htk
    clear htke
    go_wp2_with fail
    refine HAL.out.mono ?_
    rintro e w3 ⟨v8,rfl,hr8,k3⟩
    have K3:=hid (K2.out.trans k3)
    obtain⟨p8,c8,rfl⟩:=hr8.refs.slice
    have HC8:=hid hr8.refs.cell.2
    obtain⟨z0,z1,z2,z3,z4,hzl⟩:=cells5s (block_keep HQ.out K3.out (fun h=>h))
    have H3:=hid (HZ.out.quiet K3.out)
    clear k3 hr8 HAL
    obtain⟨n,hn⟩:∃ n,tk.length=n:=⟨_,rfl⟩
    have HN:=hid hn
    rw [hn] at htk ⊢
    by_cases hn0:0<n
    ·have hn0':(0:Int)<(n:Int):=by omega
     obtain⟨u,hu⟩:∃ u:Nat,IntKind.u64.wrap y.a=(u:Int):=⟨(y.a % 18446744073709551616).toNat,by rw [IntKind.wrap_u64];omega⟩
     have hul:u<18446744073709551616:=by rw [IntKind.wrap_u64] at hu;omega
     have hnw:IntKind.u64.wrap (n:Int)=(n:Int):=IntWalk.u64_in _ (by omega)
     have hnz:¬ (n:Int)=0:=by omega
     obtain⟨j,hj⟩:∃ j,u % n=j:=⟨_,rfl⟩
     have hjn:j<n:=by rw [← hj];exact Nat.mod_lt _ hn0
     have hj1:(u:Int) % (n:Int)=(j:Int):=by rw [← hj];simp
     have hj2:(u:Int).tmod (n:Int)=(j:Int):=by rw [Int.tmod_eq_emod_of_nonneg (by omega)];exact hj1
     have hjw:IntKind.u64.wrap (j:Int)=(j:Int):=IntWalk.u64_in _ (by omega)
     have hjw2:IntKind.i64.wrap (j:Int)=(j:Int):=IntWalk.i64_in _ (by omega)
     have hj0:(0:Int)≤(j:Int):=by omega
     have hjn':(j:Int)<(n:Int):=by omega
     obtain⟨r,hr⟩:∃ r,tk[j]?=some r:=⟨_,List.getElem?_eq_getElem (by rw [HN.out];exact hjn)⟩
     obtain⟨g,rfl,hgl,d0,d1⟩:=HC8.out j r hr
     clear hj hr
     have H4:=hid (H3.out.quiet ((Keeps.refl (fun _=>False) w3).alloc (.cells #[.int .i64 r.s,.int .u32 r.g] 41)))
     go_wp2_with fail
     refine (H4.out.pfree r).mono ?_
     rintro e w5 ⟨⟨u5,rfl⟩,h5,k5,_⟩
     have H5:=hid h5
     obtain⟨e0,e1,_,el⟩:=cells2 (block_keep (alloc_new (w:=w3) (o:=.cells #[.int .i64 r.s,.int .u32 r.g] 41)) k5 (H4.out.ay.alien _ _ _ alloc_new (by simp)))
     clear h5 k5 z0 z1 z2 z3 z4 hzl d0 d1 hgl
     go_wp2_with fail
     refine (H5.out.dfree r).mono ?_
     rintro e w6 ⟨⟨u6,rfl⟩,h6,_⟩
     have H6:=hid h6
     clear h6 e0 e1 el
     go_wp2_with fail
     exact⟨⟨k+1,_,by omega,by go_num,H6⟩,by simp [intOf];omega⟩
    ·obtain rfl:n=0:=by omega
     go_wp2_with fail
     exact⟨⟨k+1,_,by omega,by go_num,H3⟩,by simp [intOf];omega⟩
  ·obtain rfl:k=l.length:=by omega
   have hlt':¬ (l.length:Int)<(l.length:Int):=by omega
   go_wp2_with fail
   go_end0
   exact⟨rfl,A,HA.out⟩
end
end Go.Proofs.YtkpnmajocgcccaaGreat
namespace Go.Proofs.YtkpnmajocgcccaaGreat
open Go.RowKit Go.ChangeShapes Go.WideShapes Go.ChangeAt Go.Deep
set_option linter.unusedVariables false
set_option linter.unusedSimpArgs false
theorem hnew_bad (n g:Int) (w:World) (hb:n<1∨256<n∨g<1):
 Calls Tryz.prog 33 #[.int .i64 n,.int .u32 g] w fun e w'=>e = .returned (.tuple #[.pointer none,.int .i64 2])∧w'=w:=by
 have hc:n<1∨(1≤n∧256<n)∨(1≤n∧n≤256∧g<1):=by omega
 clear hb
 rcases hc with h1 | ⟨h1,h2⟩ | ⟨h1,h2,h3⟩
 all_goals
  go_enter Tryz.func33,Tryz.ntmps33
  go_wp2_with fail
  go_ret2
  exact⟨rfl,rfl⟩
theorem anew_bad (n m g:Int) (w:World) (hb:(n<1∨256<n∨g<1)∨m<1∨4<m) (hg:g≤4294967295):
 Calls Tryz.prog 6 #[.int .i64 n,.int .i64 m,.int .u32 g] w fun e w'=>e = .returned (.tuple #[.pointer none,.int .i64 2])∧Keeps (fun _=>False) w w':=by
 by_cases h1:n<1∨256<n∨g<1
 ·have H:=hid (hnew_bad n g w h1)
  clear hb h1
  go_enter Tryz.func6,Tryz.ntmps6
  go_wp2_with fail
  refine H.out.mono ?_
  rintro e w1 ⟨rfl,hw⟩
  obtain rfl:=hw.symm
  go_wp2_with fail
  go_ret2
  exact⟨rfl,Keeps.refl _ _⟩
 ·have H:=hid (hnew_ok n g w (by omega) (by omega) (by omega) hg)
  have hc:m<1∨(¬ m<1∧4<m):=by omega
  clear hb h1
  rcases hc with h1 | ⟨h1,h2⟩
  all_goals
   go_enter Tryz.func6,Tryz.ntmps6
   go_wp2_with fail
   refine H.out.mono ?_
   rintro e w1 ⟨b',r',rfl,k1,_,_,_⟩
   go_wp2_with fail
   go_ret2
   exact⟨rfl,k1⟩
theorem rclone_any (b off n c:Nat) (l:List Rf) (w:World) (hl:l.length=n) (hn:n≤4096) (hc:∀ j u,(l.flatMap encR)[j]?=some u→w.cell? ⟨b,off+j,none⟩=some u) (hb:l≠[]→b<w.heap.size):
 Calls Tryz.prog 11 #[.slice (some ⟨b,off,none⟩) n c] w fun e w'=>∃ v,e = .returned v∧Row w' w.heap.size v l∧Keeps (fun _=>False) w w':=by
 obtain⟨ri,hi1,hi2,hi3,hi4⟩:=ref_info
 have A:=hid hc;clear hc
 have HL:=hid hl;clear hl
 have hq:=eq_nil_refs
 go_enter Tryz.func11,Tryz.ntmps11
 go_wp2_with (at_builtin;refine wpList_append_own _ rfl _ _ 23 rfl w.heap.size 41 ri (.agg #[.int .i64 0,.int .u32 0]) 2 16 Tryz.underlying23 hi1 hi2 hi3 hi4 rfl (by decide) _ _ _ rfl (World.ownsRow_made w #[] 0 (Nat.le_refl _) (Nat.zero_le _) (by simp)) ⟨b,off,none⟩ n c (l.flatMap encR) rfl ?qc1 ?qc2 ?qc3 ?qc4 ?qc5 ?qc6 ?_)
 case qc1=>rw [encR_len,HL.out]
 case qc2=>
  intro j u hj
  have:=A.out j u hj
  rw [show (⟨b,off,none⟩:Addr).add j=⟨b,off+j,none⟩ by simp [Addr.add]]
  rw [Below.cell ((Below.refl w.heap.size w).alloc (Nat.le_refl _) _) (hb (by rintro rfl;cases hj))]
  exact this
 case qc3=>exact fun u hu=>encR_one hu
 case qc4=>rw [Nat.zero_add];unfold maxLen;omega
 case qc5=>rw [Nat.zero_add];omega
 case qc6=>simp
 intro v' w1 hown hgrow _
 go_wp2
 go_ret
 refine⟨v',rfl,?_,?_⟩
 ·unfold Row;rw [HL.out];simpa using hown
 ·exact (((Keeps.refl (fun y=>w.heap.size≤y) w).alloc _).trans' (grown_keeps hgrow) (U:=fun y=>w.heap.size≤y) (fun _ _ h=>h) (fun k hk h=>by simp [Value.ownBlock] at h;omega)).fresh
theorem rclone_zero (ad:Addr) (c:Nat) (w:World):
 Calls Tryz.prog 11 #[.slice (some ad) 0 c] w fun e w'=>∃ v,e = .returned v∧Row w' w.heap.size v []∧Keeps (fun _=>False) w w':=by
 obtain⟨ri,hi1,hi2,hi3,hi4⟩:=ref_info
 have hq:=eq_nil_refs
 go_enter Tryz.func11,Tryz.ntmps11
 go_wp2_with (at_builtin;refine wpList_append_own _ rfl _ _ 23 rfl w.heap.size 41 ri (.agg #[.int .i64 0,.int .u32 0]) 2 16 Tryz.underlying23 hi1 hi2 hi3 hi4 rfl (by decide) _ _ _ rfl (World.ownsRow_made w #[] 0 (Nat.le_refl _) (Nat.zero_le _) (by simp)) ad 0 c [] rfl ?qc1 ?qc2 ?qc3 ?qc4 ?qc5 ?qc6 ?_)
 case qc1=>rfl
 case qc2=>intro j u hj;simp at hj
 case qc3=>intro u hu;cases hu
 case qc4=>simp
 case qc5=>simp
 case qc6=>simp
 intro v' w1 hown hgrow _
 go_wp2
 go_ret
 refine⟨v',rfl,?_,?_⟩
 ·unfold Row;simpa using hown
 ·exact (((Keeps.refl (fun y=>w.heap.size≤y) w).alloc _).trans' (grown_keeps hgrow) (U:=fun y=>w.heap.size≤y) (fun _ _ h=>h) (fun k hk h=>by simp [Value.ownBlock] at h;omega)).fresh
theorem rcloneI (v:Value) (l:List Rf) (w:World) (hv:RefsI w v l) (hn:l.length≤4096):
 Calls Tryz.prog 11 #[v] w fun e w'=>∃ v,e = .returned v∧Row w' w.heap.size v l∧Keeps (fun _=>False) w w':=by
 obtain⟨p,c,rfl,hc⟩:=hv
 rcases p with _ | ⟨b,off,pr⟩
 ·have hl:l=[]:=by
   rcases l with _ | ⟨x,l⟩
   ·rfl
   ·obtain⟨g,o,e,_⟩:=hc 0 x rfl;cases e
  subst hl
  refine (rclone_nil _ _ w).mono ?_
  rintro e w' ⟨rfl,rfl⟩
  exact⟨_,rfl,Row.nil _ _,Keeps.refl _ _⟩
 ·have key:∀ (j:Nat) (r:Rf),l[j]?=some r→pr=none∧b<w.heap.size∧w.cell? ⟨b,off+j * 2,none⟩=some (.int .i64 r.s)∧w.cell? ⟨b,off+j * 2+1,none⟩=some (.int .u32 r.g):=fun j r hj=>by
   obtain⟨g,o,e,h0,h1,h2⟩:=hc j r hj
   cases e
   exact⟨rfl,h0,h1,h2⟩
  by_cases hl:l=[]
  ·subst hl
   exact rclone_zero _ _ w
  ·obtain⟨x,hx⟩:∃ x,l[0]?=some x:=by
    rcases l with _ | ⟨x,l⟩
    ·exact absurd rfl hl
    ·exact⟨x,rfl⟩
   obtain⟨rfl,hb,_⟩:=key 0 x hx
   refine rclone_any b off l.length c l w rfl hn (fun j u hj=>?_) (fun _=>hb)
   obtain⟨r,hr,h⟩:=encR_get hj
   obtain⟨_,_,h1,h2⟩:=key _ r hr
   by_cases he:j % 2=0
   ·rw [if_pos he] at h
    rw [show off+j=off+j / 2 * 2 by omega,h];exact h1
   ·rw [if_neg he] at h
    rw [show off+j=off+j / 2 * 2+1 by omega,h];exact h2
theorem requalI (v1 v2:Value) (l1 l2:List Rf) (w:World) (h1:RefsI w v1 l1) (h2:RefsI w v2 l2) (hb:l1.length≤65536):
 Calls Tryz.prog 16 #[v1,v2] w fun e w'=>e = .returned (.bool (decide (l1=l2)))∧Keeps (fun _=>False) w w':=by
 obtain⟨a1,c1,rfl⟩:∃ p c,v1 = .slice p l1.length c:=⟨_,_,h1.choose_spec.choose_spec.1⟩
 obtain⟨a2,c2,rfl⟩:∃ p c,v2 = .slice p l2.length c:=⟨_,_,h2.choose_spec.choose_spec.1⟩
 have H1:=hid (fun W (hk:Keeps (fun _=>False) w W)=>(h1.keeps hk).at)
 have H2:=hid (fun W (hk:Keeps (fun _=>False) w W)=>(h2.keeps hk).at)
 clear h1 h2
 by_cases hl:l1.length=l2.length
 ·obtain⟨n,hn⟩:∃ n,l1.length=n:=⟨_,rfl⟩
  have hn2:l2.length=n:=hl.symm.trans hn
  rw [hn,hn2]
  rw [hn] at hb
  clear hl
  go_enter Tryz.func16,Tryz.ntmps16
  go_wp2_with fail
  go_loopw [13] (fun ix wr=>∃ k:Nat,k≤n∧ix = .int .i64 k∧l1.take k=l2.take k∧Keeps (fun _=>False) w wr) (fun ix _=>n - (intOf ix).toNat)
  case atStart=>exact⟨0,Nat.zero_le _,rfl,rfl,Keeps.refl _ _⟩
  case round=>
   obtain⟨k,hk,rfl,he,hkr⟩:=hrel
   have HKR:=hid hkr;have HE:=hid he
   by_cases hlt:k<n
   ·obtain⟨x,hx⟩:∃ x,l1[k]?=some x:=⟨_,List.getElem?_eq_getElem (by omega)⟩
    obtain⟨y,hy⟩:∃ y,l2[k]?=some y:=⟨_,List.getElem?_eq_getElem (by omega)⟩
    obtain⟨g1,o1,rfl,b1,p0,p1⟩:=H1.out wr hkr k x hx
    obtain⟨g2,o2,rfl,b2,q0,q1⟩:=H2.out wr hkr k y hy
    have hlt':(k:Int)<(n:Int):=by omega
    have hk0:(0:Int)≤k:=by omega
    have HX:=hid hx;have HY:=hid hy
    have hneq:=fun w=>neq_ref w x.s x.g y.s y.g
    simp only [Rf.eq_iff] at hneq
    clear hkr he hx hy
    by_cases hxy:x=y
    ·rw [decide_eq_true hxy] at hneq
     have HXY:=hid hxy
     clear hxy
     go_wp2_with fail
     go_quiet (fail)
     go_wp2_with fail
     refine⟨⟨k+1,by omega,by go_num,?_,(HKR.out.drewN _)⟩,by simp [intOf];omega⟩
     rw [List.take_add_one,List.take_add_one,HE.out,HX.out,HY.out,HXY.out]
    ·rw [decide_eq_false hxy] at hneq
     have hd:decide (l1=l2)=false:=decide_eq_false (fun h=>hxy (by have h1:=HX.out;rw [h,HY.out] at h1;exact (Option.some.inj h1).symm))
     have HD:=hid hd
     clear hxy hd
     go_wp2_with fail
     go_quiet (fail)
     go_wp2_with fail
     go_ret
     exact⟨ret_bool HD.out.symm,HKR.out.drewN _⟩
   ·have hlt':¬ (k:Int)<(n:Int):=by omega
    have hall:l1=l2:=by
     rw [← List.take_of_length_le (l:=l1) (i:=k) (by omega),← List.take_of_length_le (l:=l2) (i:=k) (by omega)];exact he
    have HALL:=hid hall
    clear hkr he hall
    go_wp2_with fail
    go_ret
    exact⟨ret_bool (by simp [HALL.out]),HKR.out⟩
 ·have hd:decide (l1=l2)=false:=decide_eq_false (fun h=>hl (by rw [h]))
  have hl':((l1.length:Int) == l2.length)=false:=by simpa using (by omega:¬ (l1.length:Int)=l2.length)
  rw [hd]
  clear hl
  go_enter Tryz.func16,Tryz.ntmps16
  go_wp2_with fail
  go_ret
  exact⟨rfl,Keeps.refl _ _⟩
def ksStep:List Flat:=[.int .u8,.int .i64,.int .i64,.int .i64,.int .i64]
theorem spcell_of {w:World} {b o:Nat} (h:CellsAt w b o ksStep):∃ x,SpCell w b o x:=by
 obtain⟨_,h0,k0⟩:=h 0 _ rfl
 obtain⟨_,h1,x1,rfl,k1⟩:=h 1 _ rfl
 obtain⟨_,h2,x2,rfl,k2⟩:=h 2 _ rfl
 obtain⟨_,h3,x3,rfl,k3⟩:=h 3 _ rfl
 obtain⟨_,h4,x4,rfl,k4⟩:=h 4 _ rfl
 obtain⟨a0,rfl,l0⟩:=byte_of k0
 exact⟨⟨a0,x1,x2,x3,x4⟩,l0,h0,h1,h2,h3,h4⟩
theorem sprow_of {w:World} {a:Option Addr} {len cap:Nat} (h1:len≤cap) (h2:cap≤maxLen) (h:len=0∨∃ b off,a=some ⟨b,off,none⟩∧b<w.heap.size∧∀ i,i<len→CellsAt w b (off+i * ksStep.length) ksStep):
 ∃ l,SpRow w (.slice a len cap) l:=by
 rcases h with rfl | ⟨b,off,rfl,hb,hx⟩
 ·exact⟨[],a,cap,rfl,h1,h2,.inl rfl⟩
 ·have hc:∀ i:Nat,∃ x,i<len→SpCell w b (off+i * 5) x:=fun i=>by
   by_cases hi:i<len
   ·obtain⟨x,hx⟩:=spcell_of (hx i hi);exact⟨x,fun _=>hx⟩
   ·exact⟨⟨0,0,0,0,0⟩,fun h=>absurd h hi⟩
  obtain⟨f,hf⟩:=Classical.axiomOfChoice hc
  refine⟨(List.range len).map f,_,cap,by simp,by simpa using h1,h2,.inr ⟨b,off,rfl,hb,fun i x hi=>?_⟩⟩
  rw [List.getElem?_map] at hi
  by_cases hl:i<len
  ·rw [List.getElem?_range hl] at hi
   simp only [Option.map_some,Option.some.injEq] at hi
   subst hi
   exact hf i hl
  ·rw [List.getElem?_eq_none (by simpa using hl)] at hi
   cases hi
theorem refrow_of {w:World} {a:Option Addr} {len cap:Nat} (h:len=0∨∃ b off,a=some ⟨b,off,none⟩∧b<w.heap.size∧∀ i,i<len→CellsAt w b (off+i * ksRef.length) ksRef):
 ∃ l:List Rf,RefsI w (.slice a len cap) l∧∀ r∈l,r.Wf:=by
 rcases h with rfl | ⟨b,off,rfl,hb,hx⟩
 ·exact⟨[],⟨a,cap,rfl,fun j r hj=>by cases hj⟩,fun r hr=>by cases hr⟩
 ·have hc:∀ i:Nat,∃ x:Rf,(i<len→w.cell? ⟨b,off+i * 2,none⟩=some (.int .i64 x.s)∧w.cell? ⟨b,off+i * 2+1,none⟩=some (.int .u32 x.g))∧x.Wf:=fun i=>by
   by_cases hi:i<len
   ·have h:=hx i hi
    obtain⟨_,h0,x0,rfl,k0⟩:=h 0 _ rfl
    obtain⟨_,h1,x1,rfl,k1⟩:=h 1 _ rfl
    have hr:=bounds_u32 k1
    exact⟨⟨x0,x1⟩,fun _=>⟨h0,h1⟩,hr⟩
   ·exact⟨⟨0,0⟩,fun h=>absurd h hi,by unfold Rf.Wf;simp⟩
  obtain⟨f,hf⟩:=Classical.axiomOfChoice hc
  refine⟨(List.range len).map f,⟨some ⟨b,off,none⟩,cap,by simp,fun j r hj=>?_⟩,fun r hr=>?_⟩
  ·rw [List.getElem?_map] at hj
   by_cases hl:j<len
   ·rw [List.getElem?_range hl] at hj
    simp only [Option.map_some,Option.some.injEq] at hj
    subst hj
    obtain⟨c0,c1⟩:=(hf j).1 hl
    exact⟨b,off,rfl,hb,c0,c1⟩
   ·rw [List.getElem?_eq_none (by simpa using hl)] at hj
    cases hj
  ·obtain⟨i,_,rfl⟩:=List.mem_map.1 hr
   exact (hf i).2
end Go.Proofs.YtkpnmajocgcccaaGreat
