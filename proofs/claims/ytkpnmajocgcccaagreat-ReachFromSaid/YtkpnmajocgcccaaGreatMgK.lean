import Derived.Test.YtkpnmajocgcccaaGreatMgJ
namespace Go.Proofs.YtkpnmajocgcccaaGreat
open Go.RowKit
structure Bf where
 f:Nat→Int
 size:Nat
 from':Nat
 n:Nat
 whole:Bool
structure BfC (c:Array Value) (B:Bf):Prop where
 sz:c.size=68
 row:∀ i,i<64→c[i]?=some (.int .i64 (B.f i))
 size:c[64]?=some (.int .i64 B.size)
 from':c[65]?=some (.int .i64 B.from')
 n:c[66]?=some (.int .i64 B.n)
 whole:c[67]?=some (.bool B.whole)
 s1:1≤B.size
 s2:B.size≤64
 nn:B.n≤B.size
 ff:B.from'<B.size
end Go.Proofs.YtkpnmajocgcccaaGreat
namespace Go.Proofs.YtkpnmajocgcccaaGreat
open Go.RowKit
attribute [local go_sem] Oper.semAt_some
def Bf.note (B:Bf) (x:Int):Bf:={ B with f:=updf B.f ((B.from'+B.n) % B.size) x,n:=B.n+1 }
def Bf.over (B:Bf):Bf:={ B with whole:=false }
def Bf.settle (B:Bf):Bf:={ B with whole:=true }
theorem BfC.note {c:Array Value} {B:Bf} (h:BfC c B) (hn:B.n<B.size) (x:Int):
 BfC ((c.setIfInBounds ((B.from'+B.n) % B.size) (.int .i64 x)).setIfInBounds 66 (.int .i64 ((B.n:Int)+1))) (B.note x):=by
 have hs:=h.sz
 have h2:=h.s2
 have h1:=h.s1
 have hm:(B.from'+B.n) % B.size<B.size:=Nat.mod_lt _ (by omega)
 refine⟨by simp [hs],?_,?_,?_,?_,?_,h.s1,h.s2,by simp only [Bf.note];omega,h.ff⟩
 ·intro i hi
  rw [Array.getElem?_setIfInBounds_ne (by omega)]
  by_cases e:i=(B.from'+B.n) % B.size
  ·rw [e,Array.getElem?_setIfInBounds_self_of_lt (by omega)];simp [Bf.note,updf]
  ·rw [Array.getElem?_setIfInBounds_ne (by omega),h.row i hi];simp [Bf.note,updf,e]
 ·rw [Array.getElem?_setIfInBounds_ne (by omega),Array.getElem?_setIfInBounds_ne (by omega)];exact h.size
 ·rw [Array.getElem?_setIfInBounds_ne (by omega),Array.getElem?_setIfInBounds_ne (by omega)];exact h.from'
 ·rw [Array.getElem?_setIfInBounds_self_of_lt (by simp;omega)];simp [Bf.note]
 ·rw [Array.getElem?_setIfInBounds_ne (by omega),Array.getElem?_setIfInBounds_ne (by omega)];exact h.whole
end Go.Proofs.YtkpnmajocgcccaaGreat
namespace Go.Proofs.YtkpnmajocgcccaaGreat
open Go.RowKit
structure Mk where
 K:Ck
 P:Pt
 S:Sq
 B:Nat→Bf
structure MkL where
 c:Nat
 p:Nat
 s:Nat
 rb:Nat
 cap:Nat
 bb:Nat→Nat
def MkL.arr (L:MkL) (n many:Nat):Array Value:=#[.int .i64 n,.int .i64 many,.pointer (some ⟨L.c,0,none⟩),.pointer (some ⟨L.p,0,none⟩),.pointer (some ⟨L.s,0,none⟩),.slice (some ⟨L.rb,0,none⟩) many L.cap]
structure MkL.Btw (L:MkL) (m many lo hi:Nat):Prop where
 m:lo≤m∧m<hi
 c:lo≤L.c∧L.c<hi
 p:lo≤L.p∧L.p<hi
 s:lo≤L.s∧L.s<hi
 rb:lo≤L.rb∧L.rb<hi
 bb:∀ j,j<many→lo≤L.bb j∧L.bb j<hi
end Go.Proofs.YtkpnmajocgcccaaGreat
namespace Go.Proofs.YtkpnmajocgcccaaGreat
open Go.RowKit
def KS (N M:Nat) (y:Nat):Prop:=y<N∨M≤y
def GivesM {α:Type} (P:Program) (gf:FuncId) (lb:Array Value) (encs:α→Array Value) (xs:List α) (Rd:World→Prop):Prop:=
 ∀ (l:Nat) (J:Nat→List α→World→Prop) (Jx:World→Prop) (W0:World),
  (∀ M pre W W',J M pre W→Keeps (fun _=>False) W W'→J M pre W')→(∀ W W',Jx W→Keeps (fun _=>False) W W'→Jx W')→(∀ M pre W,J M pre W→Rd W)→
  (∀ M pre x suf W,xs=pre ++ x :: suf→J M pre W→YieldAt Wd 0 P l (encs x) W fun e W'=>((e = .returned (.bool true)∧J M (pre ++ [x]) W')∨(e = .returned (.bool false)∧Jx W'))∧Keeps (KS W0.heap.size M) W W')→
  (∀ W,Keeps (fun _=>False) W0 W→J W.heap.size [] W)→Rd W0→Calls P gf (#[.func (.yield l) #[] #[]] ++ lb) W0 fun e W'=>(∃ v,e = .returned v)∧((∃ M,J M xs W')∨Jx W')
def overPostM {α:Type} (w:World) (I:Nat→List α→World→Prop) (Ix:Code→World→Prop) (M:Nat) (pre:List α) (W:World):Exit→Act→World→Prop
 | .normal,_,W'=>(Keeps (fun k=>¬ Two w k) W W'∧Keeps (KS (w.heap.size+2) M) W W')∧I M pre W'
 | .ret,_,W'=>(Keeps (fun k=>¬ Two w k) W W'∧Keeps (KS (w.heap.size+2) M) W W')∧Ix .ret W'
 | .exit id,_,W'=>(Keeps (fun k=>¬ Two w k) W W'∧Keeps (KS (w.heap.size+2) M) W W')∧Ix (.exit id) W'
 | .goto t,_,W'=>(Keeps (fun k=>¬ Two w k) W W'∧Keeps (KS (w.heap.size+2) M) W W')∧Ix (.goto t) W'
 | .panic _,_,_=>False
 | .outgrown,_,_=>False
theorem wp_overM {α:Type} {P:Program} {g:Operand} {ps:Array Tmp} {assign body:Code} {Q:Exit→Act→World→Prop} {a:Act} {w:World} {gf:Nat} {lb:Array Value}
 (hg:a.eval g = .func (.func gf) #[] lb) (eg:∀ args w,(callFunc gf args).run P w = .ok (.enter gf args) w)
 {encs:α→Array Value} {xs:List α} {Rd:World→Prop} (hseq:GivesM P gf lb encs xs Rd) (hps:∀ x,(encs x).size=ps.size)
 (I:Nat→List α→World→Prop) (Ix:Code→World→Prop)
 (hI:∀ M pre W W',I M pre W→Keeps (Two w) W W'→I M pre W') (hIx:∀ c W W',Ix c W→Keeps (Two w) W W'→Ix c W')
 (hRd:∀ M pre W,I M pre W→Rd W) (hRd0:∀ W,Keeps (fun _=>False) w W→Rd W) (h0:∀ W,Keeps (fun _=>False) w W→w.heap.size+2≤W.heap.size→I W.heap.size [] W)
 (hbody:∀ (l:Nat) (M:Nat) (pre:List α) (x:α) (suf:List α) (W:World),xs=pre ++ x :: suf→I M pre W→w.heap.size+1<W.heap.size→
  assign.wpIn (Wd.inRound l) 0 P (Exit.then (fun a₁ W₁=>(Keeps (fun k=>¬ Two w k) W W₁∧Keeps (KS (w.heap.size+2) M) W W₁)∧∀ W₂,Keeps (Two w) W₁ W₂→body.wpIn (Wd.inRound l) 0 P (overPostM w I Ix M (pre ++ [x]) W₂) a₁ W₂) (fun _ _ _=>False))
   { tmps:=(ps.zip (encs x)).foldl (fun t (p,v)=>t.setIfInBounds p v) a.tmps,defers:=[] } W)
 (hdone:∀ M W,I M xs W→W.heap[w.heap.size]?=some (.deferred (some []))→Q .normal { a with defers:={ target:=.collected w.heap.size,args:=#[] } :: a.defers } W)
 (hstop:∀ c W,Ix c W→W.heap[w.heap.size]?=some (.deferred (some []))→c.wpIn Wd 0 P Q { a with defers:={ target:=.collected w.heap.size,args:=#[] } :: a.defers } W):
 (Code.rangeFunc g ps assign body).wpIn Wd 0 P Q a w:=by
 refine wpIn_rangeFunc ?_
 intro fn hfn
 obtain⟨rec,hrec⟩:∃ rec:LoopState→Option Code→Loop,rec=fun st pe=>{ state:=st,pending:=pe,fn,tmps:=a.tmps,params:=ps,assign,body,defers:=w.heap.size }:=⟨_,rfl⟩
 obtain⟨W1,hW1⟩:∃ W1,(w.alloc (.deferred (some []))).alloc (.loop (rec .ready none))=W1:=⟨_,rfl⟩
 have hL1:W1.heap[w.heap.size+1]?=some (.loop (rec .ready none)):=by rw [← hW1];exact alloc_new' (by simp)
 have hK1:W1.heap[w.heap.size]?=some (.deferred (some [])):=by rw [← hW1];exact alloc_old alloc_new
 have hw1:Keeps (fun _=>False) w W1:=by rw [← hW1];exact ((Keeps.refl _ _).alloc _).alloc _
 have hs1:W1.heap.size=w.heap.size+2:=by rw [← hW1];simp
 refine⟨w.heap.size+1,[{ target:=.collected w.heap.size,args:=#[] }],W1,{ target:=.fn (.func gf) lb,args:=#[.func (.yield (w.heap.size+1)) #[] #[]] },W1,gf,
  #[.func (.yield (w.heap.size+1)) #[] #[]] ++ lb,W1,?_,?_,?_,?_,fun h=>by simp [Fence.wide] at h,?_⟩
 ·rw [← hW1,hrec];exact run_enterLoop_outer _ _ _ _ _
 ·simp only [resolve,hg]
  simp [go_sem]
 ·intro f' _;trivial
 ·simp [invoke,go_sem,eg]
 ·refine callsIn_wide.2 ?_
  refine (hseq (w.heap.size+1)
   (fun M pre W=>I M pre W∧W.heap[w.heap.size+1]?=some (.loop (rec .ready none))∧W.heap[w.heap.size]?=some (.deferred (some [])))
   (fun W=>∃ c,Ix c W∧W.heap[w.heap.size+1]?=some (.loop (rec .done (some c)))∧W.heap[w.heap.size]?=some (.deferred (some [])))
   W1
   (fun M pre W W' h hk=>⟨hI _ _ _ _ h.1 hk.up,block_keep h.2.1 hk (fun h=>h),block_keep h.2.2 hk (fun h=>h)⟩)
   (fun W W' ⟨c,h,h1,h2⟩ hk=>⟨c,hIx _ _ _ h hk.up,block_keep h1 hk (fun h=>h),block_keep h2 hk (fun h=>h)⟩)
   (fun M pre W h=>hRd _ _ _ h.1) ?_ (fun W hk=>⟨h0 _ (hw1.trans hk) (by have:=hk.size;omega),block_keep hL1 hk (fun h=>h),block_keep hK1 hk (fun h=>h)⟩) (hRd0 _ hw1)).mono ?_
  ·rintro M pre x suf W hx ⟨hi,hl,hk⟩
   have hlt:w.heap.size+1<W.heap.size:=lt_block hl
   have hy:=run_yield (P:=P) (args:=encs x) hl (by rw [hrec];exact hps x)
   rw [hrec] at hy
   refine⟨fn,_,assign,body,hy,roundIn_of_wpIn trivial (wpIn_mono (hbody _ M pre x suf W hx hi hlt) ?_)⟩
   rintro e a₁ W₁ hp
   cases e with
   | normal=>
    obtain⟨⟨hk1,hk1'⟩,hb1⟩:=hp
    have hl1:W₁.heap[w.heap.size+1]?=some (.loop (rec .ready none)):=block_keep hl hk1 (by simp [Two])
    have hd1:W₁.heap[w.heap.size]?=some (.deferred (some [])):=block_keep hk hk1 (by simp [Two])
    refine⟨_,run_beginRound hl1 (by rw [hrec]),?_⟩
    have hlt1:w.heap.size+1<W₁.heap.size:=lt_block hl1
    have hl2:(W₁.putObj (w.heap.size+1) (.loop { rec .ready none with state:=.busy })).heap[w.heap.size+1]?=some (.loop { rec .ready none with state:=.busy }):=World.putObj_heap_same hlt1
    have hd2:(W₁.putObj (w.heap.size+1) (.loop { rec .ready none with state:=.busy })).heap[w.heap.size]?=some (.deferred (some [])):=(World.putObj_heap_other (by omega)).trans hd1
    refine wpIn_mono (hb1 _ ((Keeps.refl _ _).putObj (.inl (.inr rfl)) _)) ?_
    have fin:∀ (jump:Option Code) (W3:World),(Keeps (fun k=>¬ Two w k) (W₁.putObj (w.heap.size+1) (.loop { rec .ready none with state:=.busy })) W3∧Keeps (KS (w.heap.size+2) M) (W₁.putObj (w.heap.size+1) (.loop { rec .ready none with state:=.busy })) W3)→
     (Instr.endRound (w.heap.size+1) jump).run P W3 = .ok (.bool jump.isNone) (W3.putObj (w.heap.size+1) (.loop (rec (if jump.isNone then .ready else .done) jump)))∧
     (W3.putObj (w.heap.size+1) (.loop (rec (if jump.isNone then .ready else .done) jump))).heap[w.heap.size+1]?=some (.loop (rec (if jump.isNone then .ready else .done) jump))∧
     (W3.putObj (w.heap.size+1) (.loop (rec (if jump.isNone then .ready else .done) jump))).heap[w.heap.size]?=some (.deferred (some []))∧
     Keeps (KS W1.heap.size M) W (W3.putObj (w.heap.size+1) (.loop (rec (if jump.isNone then .ready else .done) jump))):=fun jump W3 hk3=>by
     have hl3:=block_keep hl2 hk3.1 (by simp [Two])
     have hd3:=block_keep hd2 hk3.1 (by simp [Two])
     have:=run_endRound (P:=P) jump hl3
     rw [hrec] at this ⊢
     refine⟨this,World.putObj_heap_same (lt_block hl3),(World.putObj_heap_other (by omega)).trans hd3,?_⟩
     rw [hs1]
     exact ((hk1'.putObj (r:=w.heap.size+1) (.inl (.inl (by omega))) _).trans hk3.2).putObj (r:=w.heap.size+1) (.inl (.inl (by omega))) _
    have kT:∀ (W3:World) (o:Obj),Keeps (Two w) W3 (W3.putObj (w.heap.size+1) o):=fun W3 o=>(Keeps.refl _ _).putObj (.inl (.inr rfl)) _
    rintro e a3 W3 hp
    cases e with
    | normal=>
     obtain⟨hk3,hi3⟩:=hp
     obtain⟨hr,hl4,hk4,hk5⟩:=fin none W3 hk3
     exact⟨_,_,hr,.inl ⟨rfl,hI _ _ _ _ hi3 (kT _ _),hl4,hk4⟩,hk5⟩
    | ret=>
     obtain⟨hk3,hi3⟩:=hp
     obtain⟨hr,hl4,hk4,hk5⟩:=fin (some .ret) W3 hk3
     exact⟨_,_,hr,.inr ⟨rfl,.ret,hIx _ _ _ hi3 (kT _ _),hl4,hk4⟩,hk5⟩
    | exit id=>
     obtain⟨hk3,hi3⟩:=hp
     obtain⟨hr,hl4,hk4,hk5⟩:=fin (some (.exit id)) W3 hk3
     exact⟨_,_,hr,.inr ⟨rfl,.exit id,hIx _ _ _ hi3 (kT _ _),hl4,hk4⟩,hk5⟩
    | goto t=>
     obtain⟨hk3,hi3⟩:=hp
     obtain⟨hr,hl4,hk4,hk5⟩:=fin (some (.goto t)) W3 hk3
     exact⟨_,_,hr,.inr ⟨rfl,.goto t,hIx _ _ _ hi3 (kT _ _),hl4,hk4⟩,hk5⟩
    | panic ch=>exact hp.elim
    | outgrown=>exact hp.elim
   | ret=>exact hp.elim
   | exit id=>exact hp.elim
   | goto t=>exact hp.elim
   | panic ch=>exact hp.elim
   | outgrown=>exact hp.elim
  ·rintro e W2 ⟨⟨v,rfl⟩,(⟨M,hi,hl,hk⟩ | ⟨c,hi,hl,hk⟩)⟩
   ·exact⟨none,_,by have:=run_endLoop (P:=P) hl (by rw [hrec];simp);rw [hrec] at this;exact this,hdone _ _ (hI _ _ _ _ hi ((Keeps.refl _ _).putObj (.inl (.inr rfl)) _)) ((World.putObj_heap_other (by omega)).trans hk)⟩
   ·exact⟨some c,_,by have:=run_endLoop (P:=P) hl (by rw [hrec];simp);rw [hrec] at this;exact this,hstop c _ (hIx _ _ _ hi ((Keeps.refl _ _).putObj (.inl (.inr rfl)) _)) ((World.putObj_heap_other (by omega)).trans hk)⟩
end Go.Proofs.YtkpnmajocgcccaaGreat
