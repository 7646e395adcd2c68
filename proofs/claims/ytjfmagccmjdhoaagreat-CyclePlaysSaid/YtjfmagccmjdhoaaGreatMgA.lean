import Derived.Test.YtjfmagccmjdhoaaGreatRows
import Derived.WalkKit
import Derived.WalkSpells
import Derived.WalkLawsBesides
import Derived.Laws.EntriesVeiled
import Derived.Deep.QuietTactic
import Derived.BigQuiet
import Derived.Deep.RegionWith
import Derived.Deep.RegionHeld3
import Derived.OpenShut
import Derived.Deep.DeepCutAuto
import Derived.RangeFuncIn
import Derived.RangeFuncSeq
import Derived.RangeFuncLeaves
import Derived.RangeFuncCalls
import Derived.RangeFuncNested
namespace Go.Proofs.YtjfmagccmjdhoaaGreat
open Go.RowKit
theorem zC {p:Prop} (h:p):Hid p:=h
theorem ret_bool {a b:Bool} (h:a=b):Ending.returned (.bool a) = .returned (.bool b):=by rw [h]
theorem qF {k:IntKind} {a b:Int} (h:a=b):Ending.returned (.int k a) = .returned (.int k b):=by rw [h]
structure zA (S:Nat→Prop) (w w':World):Prop where
 os:w'.os=w.os
 tape:w'.tape=w.tape
 output:w'.output=w.output
 size:w.heap.size≤w'.heap.size
 block:∀ k,k<w.heap.size→¬ S k→w'.heap[k]?=w.heap[k]?
abbrev Kz (w w':World):Prop:=zA (fun _=>False) w w'
theorem zA.refl (S:Nat→Prop) (w:World):zA S w w:=⟨rfl,rfl,rfl,Nat.le_refl _,fun _ _ _=>rfl⟩
theorem zA.trans' {S T U:Nat→Prop} {a b c:World} (h:zA S a b) (k:zA T b c)
 (hS:∀ x,x<a.heap.size→S x→U x) (hT:∀ x,x<a.heap.size→T x→U x):zA U a c:=
 ⟨k.os.trans h.os,k.tape.trans h.tape,k.output.trans h.output,Nat.le_trans h.size k.size,
  fun i hi hu=>(k.block i (Nat.lt_of_lt_of_le hi h.size) (fun t=>hu (hT i hi t))).trans (h.block i hi (fun s=>hu (hS i hi s)))⟩
theorem zA.trans {S:Nat→Prop} {a b c:World} (h:zA S a b) (k:zA S b c):zA S a c:=
 h.trans' k (fun _ _ s=>s) (fun _ _ s=>s)
theorem zA.mono {S T:Nat→Prop} {a b:World} (h:zA S a b) (hS:∀ x,x<a.heap.size→S x→T x):zA T a b:=
 ⟨h.os,h.tape,h.output,h.size,fun i hi hu=>h.block i hi (fun s=>hu (hS i hi s))⟩
theorem zA.up {T:Nat→Prop} {a b:World} (h:Kz a b):zA T a b:=h.mono (fun _ _ h=>h.elim)
theorem zA.fresh {a b:World} (h:zA (fun y=>a.heap.size≤y) a b):Kz a b:=h.mono (fun x hx h=>by omega)
theorem zA.alloc {S:Nat→Prop} {a w:World} (h:zA S a w) (o:Obj):zA S a (w.alloc o):=
 h.trans ⟨rfl,rfl,rfl,by simp,fun k hk _=>Below.heap_alloc _ _ _ (by omega)⟩
theorem zA.setCell {S:Nat→Prop} {a w:World} (h:zA S a w) {p:Addr} (hp:S p.block∨a.heap.size≤p.block) (u:Value):zA S a (w.setCell p u):=
 ⟨h.os,h.tape,h.output,by have:=h.size;simpa [World.setCell] using this,
  fun k hk hs=>by
   rw [Below.heap_setCell _ _ _ _ (by intro e;subst e;rcases hp with hp | hp;exact hs hp;omega)]
   exact h.block k hk hs⟩
theorem zA.drew {S:Nat→Prop} {a w:World} (h:zA S a w):zA S a w.drew:=⟨h.os,h.tape,h.output,h.size,h.block⟩
theorem cell_block {w:World} {b:Nat} {c:Array Value} {t:TypeId} (h:w.heap[b]?=some (.cells c t)) (i:Nat):w.cell? ⟨b,i,none⟩=c[i]?:=by
 simp [World.cell?,h]
theorem zD {w:World} {b:Nat} {c:Array Value} {t:TypeId} {i:Nat} {v:Value} (h:w.heap[b]?=some (.cells c t)) (hi:c[i]?=some v):w.cell? ⟨b,i,none⟩=some v:=by
 rw [cell_block h];exact hi
theorem zN {w:World} {o:Obj} {n:Nat} (h:n=w.heap.size):(w.alloc o).heap[n]?=some o:=by
 subst h;show (w.heap.push o)[w.heap.size]?=_;simp
theorem zL {w:World} {b:Nat} {c:Array Value} {t:TypeId} (h:w.heap[b]?=some (.cells c t)) (i:Nat):w.frozen? ⟨b,i,none⟩=false:=by
 simp [World.frozen?,h]
theorem zF {w:World} {b:Nat} {o:Obj} (h:w.heap[b]?=some o):b<w.heap.size:=by
 rcases Nat.lt_or_ge b w.heap.size with h' | h'
 ·exact h'
 ·simp [Array.getElem?_eq_none h'] at h
theorem zX {w:World} {b:Nat} {v0:Value} {t:TypeId} (h:w.heap[b]?=some (.cells #[v0] t)):
 w.cell? ⟨b,0,none⟩=some v0∧(∀ i,w.frozen? ⟨b,i,none⟩=false)∧b<w.heap.size:=⟨zD h rfl,zL h,zF h⟩
theorem zK {w:World} {b:Nat} {v0 v1:Value} {t:TypeId} (h:w.heap[b]?=some (.cells #[v0,v1] t)):
 w.cell? ⟨b,0,none⟩=some v0∧w.cell? ⟨b,1,none⟩=some v1∧(∀ i,w.frozen? ⟨b,i,none⟩=false)∧b<w.heap.size:=⟨zD h rfl,zD h rfl,zL h,zF h⟩
theorem zZ {w:World} {b:Nat} {v0 v1 v2 v3 v4 v5 v6 v7 v8 v9:Value} {t:TypeId} (h:w.heap[b]?=some (.cells #[v0,v1,v2,v3,v4,v5,v6,v7,v8,v9] t)):
 w.cell? ⟨b,0,none⟩=some v0∧w.cell? ⟨b,1,none⟩=some v1∧w.cell? ⟨b,2,none⟩=some v2∧w.cell? ⟨b,3,none⟩=some v3∧w.cell? ⟨b,4,none⟩=some v4∧
 w.cell? ⟨b,5,none⟩=some v5∧w.cell? ⟨b,6,none⟩=some v6∧w.cell? ⟨b,7,none⟩=some v7∧w.cell? ⟨b,8,none⟩=some v8∧w.cell? ⟨b,9,none⟩=some v9∧
 (∀ i,w.frozen? ⟨b,i,none⟩=false)∧b<w.heap.size:=
 ⟨zD h rfl,zD h rfl,zD h rfl,zD h rfl,zD h rfl,zD h rfl,zD h rfl,zD h rfl,zD h rfl,zD h rfl,zL h,zF h⟩
theorem zH {w:World} {b:Nat} {c:Array Value} {t:TypeId} (h:w.heap[b]?=some (.cells c t)) (i:Nat) (v:Value):
 (w.setCell ⟨b,i,none⟩ v).heap[b]?=some (.cells (c.setIfInBounds i v) t):=by
 simp [World.setCell,Array.getElem?_modify,h]
theorem set_other {w:World} {b:Nat} {a:Addr} {v:Value} (h:b≠a.block):(w.setCell a v).heap[b]?=w.heap[b]?:=Below.heap_setCell _ _ _ _ h
theorem zB {w w':World} {S:Nat→Prop} {b:Nat} {o:Obj} (h:w.heap[b]?=some o) (hk:zA S w w') (hS:¬ S b):w'.heap[b]?=some o:=by
 rw [hk.block b (zF h) hS];exact h
theorem qG {w:World} {b:Nat} {a:Addr} {v:Value} {o:Obj} (h:w.heap[b]?=some o) (hb:b≠a.block):(w.setCell a v).heap[b]?=some o:=by
 rw [set_other hb];exact h
theorem zG {w:World} {b:Nat} {o x:Obj} (h:w.heap[b]?=some x):(w.alloc o).heap[b]?=some x:=by
 rw [Below.heap_alloc _ _ _ (zF h)];exact h
theorem zE {w:World} {o:Obj}:(w.alloc o).heap[w.heap.size]?=some o:=by
 show (w.heap.push o)[w.heap.size]?=_
 simp
theorem zA.drewN {S:Nat→Prop} {a w:World} (h:zA S a w) (n:Nat):zA S a (w.drewN n):=⟨h.os,h.tape,h.output,h.size,h.block⟩
theorem zA.r {S:Nat→Prop} {a c:World} (k:zA S a c:=by with_reducible repeat first | exact zA.refl _ _ | refine zA.alloc ?_ _ | refine zA.drewN ?_ _ | refine zA.drew ?_ | refine zA.trans ?_ (by with_reducible assumption)):zA S a c:=k
theorem zA.q {S:Nat→Prop} {a b c:World} (h:zA S a b) (k:zA S a b→zA S a c:=by intro hk;with_reducible repeat first | exact hk | refine zA.alloc ?_ _ | refine zA.drewN ?_ _ | refine zA.drew ?_ | refine zA.trans ?_ (by with_reducible assumption)):zA S a c:=k h
theorem zA.c {S:Nat→Prop} {a b c:World} (h:zA S a b) (k:zA S a b→zA S a c:=by intro hk;(with_reducible repeat first | exact hk | refine zA.setCell ?_ ?_ _ | refine zA.alloc ?_ _ | refine zA.drewN ?_ _ | refine zA.drew ?_);all_goals first | (left;simp;done) | (left;simp;omega) | (right;simp;done) | (right;simp;omega)):zA S a c:=k h
theorem zQ {P:Program} {f:Nat} {a:Array Value} {w:World} {E:Ending} {R:World→Prop} {Q:Ending→World→Prop} (h:Calls P f a w fun e w'=>e=E∧R w') (k:∀ w',R w'→Q E w'):Calls P f a w Q:=h.mono (by rintro e w' ⟨rfl,h1⟩;exact k w' h1)
theorem zP {P:Program} {f:Nat} {a:Array Value} {w:World} {E:Ending} {Q:Ending→World→Prop} (h:Calls P f a w fun e w'=>e=E∧w'=w) (k:Q E w):Calls P f a w Q:=h.mono (by rintro e w' ⟨rfl,rfl⟩;exact k)
abbrev Wd:Fence:=Fence.wide
def Gives {α:Type} (P:Program) (gf:FuncId) (lb:Array Value) (encs:α→Array Value) (xs:List α) (Rd:World→Prop) (Own:Nat→Prop):Prop:=
 ∀ (l:Nat) (J:List α→World→Prop) (Jx:World→Prop) (W:World),
  (∀ pre W W',J pre W→zA Own W W'→J pre W')→(∀ W W',Jx W→zA Own W W'→Jx W')→(∀ pre W,J pre W→Rd W)→
  (∀ pre x suf W,xs=pre ++ x :: suf→J pre W→YieldAt Wd 0 P l (encs x) W fun e W'=>(e = .returned (.bool true)∧J (pre ++ [x]) W')∨(e = .returned (.bool false)∧Jx W'))→
  J [] W→Calls P gf (#[.func (.yield l) #[] #[]] ++ lb) W fun e W'=>(∃ v,e = .returned v)∧(J xs W'∨Jx W')
def Two (w:World) (k:Nat):Prop:=k=w.heap.size∨k=w.heap.size+1
def overPost {α:Type} (w:World) (I:List α→World→Prop) (Ix:Code→World→Prop) (pre:List α) (W:World):Exit→Act→World→Prop
 | .normal,_,W'=>zA (fun k=>¬ Two w k) W W'∧I pre W'
 | .ret,_,W'=>zA (fun k=>¬ Two w k) W W'∧Ix .ret W'
 | .exit id,_,W'=>zA (fun k=>¬ Two w k) W W'∧Ix (.exit id) W'
 | .goto t,_,W'=>zA (fun k=>¬ Two w k) W W'∧Ix (.goto t) W'
 | .panic _,_,_=>False
 | .outgrown,_,_=>False
theorem zA.putObj {S:Nat→Prop} {a w:World} (h:zA S a w) {r:Nat} (hr:S r∨a.heap.size≤r) (o:Obj):zA S a (w.putObj r o):=
 ⟨h.os,h.tape,h.output,by have:=h.size;simpa using this,fun k hk hs=>by
  rw [World.putObj_heap_other (by intro e;subst e;rcases hr with hr | hr;exact hs hr;omega)];exact h.block k hk hs⟩
theorem leave_mark {P:Program} {fn:Func} {R:Ending→World→Prop} {tmps:Array Value} {D:Nat} {W:World} (hD:W.heap[D]?=some (.deferred (some [])))
 (h:∀ W',zA (fun k=>k=D) W W'→∃ v,(results fn tmps).run P W' = .ok v W'∧R (.returned v) W'):
 bodyPostM Wd 0 P fn R .ret { tmps:=tmps,defers:=[{ target:=.collected D,args:=#[] }] } W:=by
 obtain⟨v,h1,h2⟩:=h _ ((zA.refl (fun k=>k=D) W).putObj (r:=D) (.inl rfl) (.deferred none))
 exact⟨by simp,.inl ⟨_,_,rfl,run_takeDeferred hD,⟨v,h1,h2⟩⟩⟩
theorem wp_over {α:Type} {P:Program} {g:Operand} {ps:Array Tmp} {assign body:Code} {Q:Exit→Act→World→Prop} {a:Act} {w:World} {gf:Nat} {lb:Array Value}
 (hg:a.eval g = .func (.func gf) #[] lb) (eg:∀ args w,(callFunc gf args).run P w = .ok (.enter gf args) w)
 {encs:α→Array Value} {xs:List α} {Rd:World→Prop} {Own:Nat→Prop} (hseq:Gives P gf lb encs xs Rd Own) (hps:∀ x,(encs x).size=ps.size)
 (I:List α→World→Prop) (Ix:Code→World→Prop)
 (hI:∀ pre W W',I pre W→zA (fun k=>Own k∨Two w k) W W'→I pre W') (hIx:∀ c W W',Ix c W→zA (fun k=>Own k∨Two w k) W W'→Ix c W')
 (hRd:∀ pre W,I pre W→Rd W) (hOwn:∀ k,Two w k→¬ Own k) (h0:I [] w)
 (hbody:∀ (l:Nat) (pre:List α) (x:α) (suf:List α) (W:World),xs=pre ++ x :: suf→I pre W→w.heap.size+1<W.heap.size→
  assign.wpIn (Wd.inRound l) 0 P (Exit.then (fun a₁ W₁=>zA (fun k=>¬ Two w k) W W₁∧∀ W₂,zA (Two w) W₁ W₂→body.wpIn (Wd.inRound l) 0 P (overPost w I Ix (pre ++ [x]) W₂) a₁ W₂) (fun _ _ _=>False))
   { tmps:=(ps.zip (encs x)).foldl (fun t (p,v)=>t.setIfInBounds p v) a.tmps,defers:=[] } W)
 (hdone:∀ W,I xs W→W.heap[w.heap.size]?=some (.deferred (some []))→Q .normal { a with defers:={ target:=.collected w.heap.size,args:=#[] } :: a.defers } W)
 (hstop:∀ c W,Ix c W→W.heap[w.heap.size]?=some (.deferred (some []))→c.wpIn Wd 0 P Q { a with defers:={ target:=.collected w.heap.size,args:=#[] } :: a.defers } W):
 (Code.rangeFunc g ps assign body).wpIn Wd 0 P Q a w:=by
 refine wpIn_rangeFunc ?_
 intro fn hfn
 obtain⟨rec,hrec⟩:∃ rec:LoopState→Option Code→Loop,rec=fun st pe=>{ state:=st,pending:=pe,fn,tmps:=a.tmps,params:=ps,assign,body,defers:=w.heap.size }:=⟨_,rfl⟩
 obtain⟨W1,hW1⟩:∃ W1,(w.alloc (.deferred (some []))).alloc (.loop (rec .ready none))=W1:=⟨_,rfl⟩
 have hL1:W1.heap[w.heap.size+1]?=some (.loop (rec .ready none)):=by rw [← hW1];exact zN (by simp)
 have hK1:W1.heap[w.heap.size]?=some (.deferred (some [])):=by rw [← hW1];exact zG zE
 have hI1:I [] W1:=hI _ _ _ h0 (by rw [← hW1];exact ((zA.refl _ _).alloc _).alloc _)
 refine⟨w.heap.size+1,[{ target:=.collected w.heap.size,args:=#[] }],W1,{ target:=.fn (.func gf) lb,args:=#[.func (.yield (w.heap.size+1)) #[] #[]] },W1,gf,
  #[.func (.yield (w.heap.size+1)) #[] #[]] ++ lb,W1,?_,?_,?_,?_,fun h=>by simp [Fence.wide] at h,?_⟩
 ·rw [← hW1,hrec];exact run_enterLoop_outer _ _ _ _ _
 ·simp only [resolve,hg]
  simp [go_sem]
 ·intro f' _;trivial
 ·simp [invoke,go_sem,eg]
 ·refine callsIn_wide.2 ?_
  have keepO:∀ {A B:World},zA Own A B→zA (fun k=>Own k∨Two w k) A B:=fun h=>h.mono (fun _ _ h=>.inl h)
  have keepT:∀ {A B:World},zA (Two w) A B→zA (fun k=>Own k∨Two w k) A B:=fun h=>h.mono (fun _ _ h=>.inr h)
  refine (hseq (w.heap.size+1)
   (fun pre W=>I pre W∧W.heap[w.heap.size+1]?=some (.loop (rec .ready none))∧W.heap[w.heap.size]?=some (.deferred (some [])))
   (fun W=>∃ c,Ix c W∧W.heap[w.heap.size+1]?=some (.loop (rec .done (some c)))∧W.heap[w.heap.size]?=some (.deferred (some [])))
   W1
   (fun pre W W' h hk=>⟨hI _ _ _ h.1 (keepO hk),zB h.2.1 hk (hOwn _ (.inr rfl)),zB h.2.2 hk (hOwn _ (.inl rfl))⟩)
   (fun W W' ⟨c,h,h1,h2⟩ hk=>⟨c,hIx _ _ _ h (keepO hk),zB h1 hk (hOwn _ (.inr rfl)),zB h2 hk (hOwn _ (.inl rfl))⟩)
   (fun pre W h=>hRd _ _ h.1) ?_ ⟨hI1,hL1,hK1⟩).mono ?_
  ·rintro pre x suf W hx ⟨hi,hl,hk⟩
   have hlt:w.heap.size+1<W.heap.size:=zF hl
   have hy:=run_yield (P:=P) (args:=encs x) hl (by rw [hrec];exact hps x)
   rw [hrec] at hy
   refine⟨fn,_,assign,body,hy,roundIn_of_wpIn trivial (wpIn_mono (hbody _ pre x suf W hx hi hlt) ?_)⟩
   rintro e a₁ W₁ hp
   cases e with
   | normal=>
    obtain⟨hk1,hb1⟩:=hp
    have hl1:W₁.heap[w.heap.size+1]?=some (.loop (rec .ready none)):=zB hl hk1 (by simp [Two])
    have hd1:W₁.heap[w.heap.size]?=some (.deferred (some [])):=zB hk hk1 (by simp [Two])
    refine⟨_,run_beginRound hl1 (by rw [hrec]),?_⟩
    have hlt1:w.heap.size+1<W₁.heap.size:=zF hl1
    have hl2:(W₁.putObj (w.heap.size+1) (.loop { rec .ready none with state:=.busy })).heap[w.heap.size+1]?=some (.loop { rec .ready none with state:=.busy }):=World.putObj_heap_same hlt1
    have hd2:(W₁.putObj (w.heap.size+1) (.loop { rec .ready none with state:=.busy })).heap[w.heap.size]?=some (.deferred (some [])):=(World.putObj_heap_other (by omega)).trans hd1
    refine wpIn_mono (hb1 _ ((zA.refl _ _).putObj (.inl (.inr rfl)) _)) ?_
    have fin:∀ (jump:Option Code) (W3:World),zA (fun k=>¬ Two w k) (W₁.putObj (w.heap.size+1) (.loop { rec .ready none with state:=.busy })) W3→
     (Instr.endRound (w.heap.size+1) jump).run P W3 = .ok (.bool jump.isNone) (W3.putObj (w.heap.size+1) (.loop (rec (if jump.isNone then .ready else .done) jump)))∧
     (W3.putObj (w.heap.size+1) (.loop (rec (if jump.isNone then .ready else .done) jump))).heap[w.heap.size+1]?=some (.loop (rec (if jump.isNone then .ready else .done) jump))∧
     (W3.putObj (w.heap.size+1) (.loop (rec (if jump.isNone then .ready else .done) jump))).heap[w.heap.size]?=some (.deferred (some [])):=fun jump W3 hk3=>by
     have hl3:=zB hl2 hk3 (by simp [Two])
     have hd3:=zB hd2 hk3 (by simp [Two])
     have:=run_endRound (P:=P) jump hl3
     rw [hrec] at this ⊢
     exact⟨this,World.putObj_heap_same (zF hl3),(World.putObj_heap_other (by omega)).trans hd3⟩
    have kT:∀ (W3:World) (o:Obj),zA (fun k=>Own k∨Two w k) W3 (W3.putObj (w.heap.size+1) o):=fun W3 o=>keepT ((zA.refl _ _).putObj (.inl (.inr rfl)) _)
    rintro e a3 W3 hp
    cases e with
    | normal=>
     obtain⟨hk3,hi3⟩:=hp
     obtain⟨hr,hl4,hk4⟩:=fin none W3 hk3
     exact⟨_,_,hr,.inl ⟨rfl,hI _ _ _ hi3 (kT _ _),hl4,hk4⟩⟩
    | ret=>
     obtain⟨hk3,hi3⟩:=hp
     obtain⟨hr,hl4,hk4⟩:=fin (some .ret) W3 hk3
     exact⟨_,_,hr,.inr ⟨rfl,.ret,hIx _ _ _ hi3 (kT _ _),hl4,hk4⟩⟩
    | exit id=>
     obtain⟨hk3,hi3⟩:=hp
     obtain⟨hr,hl4,hk4⟩:=fin (some (.exit id)) W3 hk3
     exact⟨_,_,hr,.inr ⟨rfl,.exit id,hIx _ _ _ hi3 (kT _ _),hl4,hk4⟩⟩
    | goto t=>
     obtain⟨hk3,hi3⟩:=hp
     obtain⟨hr,hl4,hk4⟩:=fin (some (.goto t)) W3 hk3
     exact⟨_,_,hr,.inr ⟨rfl,.goto t,hIx _ _ _ hi3 (kT _ _),hl4,hk4⟩⟩
    | panic ch=>exact hp.elim
    | outgrown=>exact hp.elim
   | ret=>exact hp.elim
   | exit id=>exact hp.elim
   | goto t=>exact hp.elim
   | panic ch=>exact hp.elim
   | outgrown=>exact hp.elim
  ·rintro e W2 ⟨⟨v,rfl⟩,(⟨hi,hl,hk⟩ | ⟨c,hi,hl,hk⟩)⟩
   ·exact⟨none,_,by have:=run_endLoop (P:=P) hl (by rw [hrec];simp);rw [hrec] at this;exact this,hdone _ (hI _ _ _ hi (keepT ((zA.refl _ _).putObj (.inl (.inr rfl)) _))) ((World.putObj_heap_other (by omega)).trans hk)⟩
   ·exact⟨some c,_,by have:=run_endLoop (P:=P) hl (by rw [hrec];simp);rw [hrec] at this;exact this,hstop c _ (hIx _ _ _ hi (keepT ((zA.refl _ _).putObj (.inl (.inr rfl)) _))) ((World.putObj_heap_other (by omega)).trans hk)⟩
end Go.Proofs.YtjfmagccmjdhoaaGreat
