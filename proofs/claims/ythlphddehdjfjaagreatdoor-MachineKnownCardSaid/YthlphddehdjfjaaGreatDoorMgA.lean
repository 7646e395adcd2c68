/- Plain facts on worlds: 'Keeps S w w'': of the blocks that w has, only those in S may differ in w'. -/
import Derived.RowKit
import Derived.WalkKit
import Derived.WalkSpells
import Derived.WalkLawsBesides
import Derived.Laws.EntriesVeiled
import Derived.Deep.QuietTactic
import Derived.BigQuiet
import Derived.Deep.RegionWith
import Derived.Deep.RegionHeld3
import Derived.OpenShut
import Derived.Deep.DeepCutAuto
import Derived.RangeFuncIn
import Derived.RangeFuncSeq
import Derived.RangeFuncLeaves
import Derived.RangeFuncCalls
import Derived.RangeFuncNested
namespace Go.Proofs.YthlphddehdjfjaaGreatDoor
open Go.RowKit

theorem hid {p : Prop} (h : p) : Hid p := h

theorem ret_bool {a b : Bool} (h : a = b) : Ending.returned (.bool a) = .returned (.bool b) := by rw [h]
theorem ret_int {k : IntKind} {a b : Int} (h : a = b) : Ending.returned (.int k a) = .returned (.int k b) := by rw [h]

structure Keeps (S : Nat → Prop) (w w' : World) : Prop where
  os : w'.os = w.os
  tape : w'.tape = w.tape
  output : w'.output = w.output
  size : w.heap.size ≤ w'.heap.size
  block : ∀ k, k < w.heap.size → ¬ S k → w'.heap[k]? = w.heap[k]?

/-- no block of the former world is changed -/
abbrev Kz (w w' : World) : Prop := Keeps (fun _ => False) w w'
theorem Keeps.refl (S : Nat → Prop) (w : World) : Keeps S w w := ⟨rfl, rfl, rfl, Nat.le_refl _, fun _ _ _ => rfl⟩

theorem Keeps.trans' {S T U : Nat → Prop} {a b c : World} (h : Keeps S a b) (k : Keeps T b c)
    (hS : ∀ x, x < a.heap.size → S x → U x) (hT : ∀ x, x < a.heap.size → T x → U x) : Keeps U a c :=
  ⟨k.os.trans h.os, k.tape.trans h.tape, k.output.trans h.output, Nat.le_trans h.size k.size,
   fun i hi hu => (k.block i (Nat.lt_of_lt_of_le hi h.size) (fun t => hu (hT i hi t))).trans (h.block i hi (fun s => hu (hS i hi s)))⟩

theorem Keeps.trans {S : Nat → Prop} {a b c : World} (h : Keeps S a b) (k : Keeps S b c) : Keeps S a c :=
  h.trans' k (fun _ _ s => s) (fun _ _ s => s)

theorem Keeps.mono {S T : Nat → Prop} {a b : World} (h : Keeps S a b) (hS : ∀ x, x < a.heap.size → S x → T x) : Keeps T a b :=
  ⟨h.os, h.tape, h.output, h.size, fun i hi hu => h.block i hi (fun s => hu (hS i hi s))⟩

theorem Keeps.up {T : Nat → Prop} {a b : World} (h : Keeps (fun _ => False) a b) : Keeps T a b := h.mono (fun _ _ h => h.elim)
theorem Keeps.fresh {a b : World} (h : Keeps (fun y => a.heap.size ≤ y) a b) : Keeps (fun _ => False) a b := h.mono (fun x hx h => by omega)

theorem Keeps.alloc {S : Nat → Prop} {a w : World} (h : Keeps S a w) (o : Obj) : Keeps S a (w.alloc o) :=
  h.trans ⟨rfl, rfl, rfl, by simp, fun k hk _ => Below.heap_alloc _ _ _ (by omega)⟩

theorem Keeps.setCell {S : Nat → Prop} {a w : World} (h : Keeps S a w) {p : Addr} (hp : S p.block ∨ a.heap.size ≤ p.block) (u : Value) : Keeps S a (w.setCell p u) :=
  ⟨h.os, h.tape, h.output, by have := h.size; simpa [World.setCell] using this,
   fun k hk hs => by
    rw [Below.heap_setCell _ _ _ _ (by intro e; subst e; rcases hp with hp | hp; exact hs hp; omega)]
    exact h.block k hk hs⟩

theorem Keeps.drew {S : Nat → Prop} {a w : World} (h : Keeps S a w) : Keeps S a w.drew := ⟨h.os, h.tape, h.output, h.size, h.block⟩

theorem Below.keeps {B : Nat} {w w' : World} (h : Below B w w') : Keeps (fun x => B ≤ x) w w' :=
  ⟨h.os, h.tape, h.output, h.size, fun k _ hs => h.block k (by omega)⟩

theorem cell_block {w : World} {b : Nat} {c : Array Value} {t : TypeId} (h : w.heap[b]? = some (.cells c t)) (i : Nat) : w.cell? ⟨b, i, none⟩ = c[i]? := by
  simp [World.cell?, h]

theorem cell_at {w : World} {b : Nat} {c : Array Value} {t : TypeId} {i : Nat} {v : Value} (h : w.heap[b]? = some (.cells c t)) (hi : c[i]? = some v) : w.cell? ⟨b, i, none⟩ = some v := by
  rw [cell_block h]; exact hi

theorem alloc_new' {w : World} {o : Obj} {n : Nat} (h : n = w.heap.size) : (w.alloc o).heap[n]? = some o := by
  subst h; show (w.heap.push o)[w.heap.size]? = _; simp

theorem frozen_block {w : World} {b : Nat} {c : Array Value} {t : TypeId} (h : w.heap[b]? = some (.cells c t)) (i : Nat) : w.frozen? ⟨b, i, none⟩ = false := by
  simp [World.frozen?, h]

theorem lt_block {w : World} {b : Nat} {o : Obj} (h : w.heap[b]? = some o) : b < w.heap.size := by
  rcases Nat.lt_or_ge b w.heap.size with h' | h'
  · exact h'
  · simp [Array.getElem?_eq_none h'] at h

theorem cells1 {w : World} {b : Nat} {v0 : Value} {t : TypeId} (h : w.heap[b]? = some (.cells #[v0] t)) :
    w.cell? ⟨b, 0, none⟩ = some v0 ∧ (∀ i, w.frozen? ⟨b, i, none⟩ = false) ∧ b < w.heap.size := ⟨cell_at h rfl, frozen_block h, lt_block h⟩

theorem cells2 {w : World} {b : Nat} {v0 v1 : Value} {t : TypeId} (h : w.heap[b]? = some (.cells #[v0, v1] t)) :
    w.cell? ⟨b, 0, none⟩ = some v0 ∧ w.cell? ⟨b, 1, none⟩ = some v1 ∧ (∀ i, w.frozen? ⟨b, i, none⟩ = false) ∧ b < w.heap.size := ⟨cell_at h rfl, cell_at h rfl, frozen_block h, lt_block h⟩

theorem cells10 {w : World} {b : Nat} {v0 v1 v2 v3 v4 v5 v6 v7 v8 v9 : Value} {t : TypeId} (h : w.heap[b]? = some (.cells #[v0, v1, v2, v3, v4, v5, v6, v7, v8, v9] t)) :
    w.cell? ⟨b, 0, none⟩ = some v0 ∧ w.cell? ⟨b, 1, none⟩ = some v1 ∧ w.cell? ⟨b, 2, none⟩ = some v2 ∧ w.cell? ⟨b, 3, none⟩ = some v3 ∧ w.cell? ⟨b, 4, none⟩ = some v4 ∧
    w.cell? ⟨b, 5, none⟩ = some v5 ∧ w.cell? ⟨b, 6, none⟩ = some v6 ∧ w.cell? ⟨b, 7, none⟩ = some v7 ∧ w.cell? ⟨b, 8, none⟩ = some v8 ∧ w.cell? ⟨b, 9, none⟩ = some v9 ∧
    (∀ i, w.frozen? ⟨b, i, none⟩ = false) ∧ b < w.heap.size :=
  ⟨cell_at h rfl, cell_at h rfl, cell_at h rfl, cell_at h rfl, cell_at h rfl, cell_at h rfl, cell_at h rfl, cell_at h rfl, cell_at h rfl, cell_at h rfl, frozen_block h, lt_block h⟩

theorem set_block {w : World} {b : Nat} {c : Array Value} {t : TypeId} (h : w.heap[b]? = some (.cells c t)) (i : Nat) (v : Value) :
    (w.setCell ⟨b, i, none⟩ v).heap[b]? = some (.cells (c.setIfInBounds i v) t) := by
  simp [World.setCell, Array.getElem?_modify, h]

theorem set_other {w : World} {b : Nat} {a : Addr} {v : Value} (h : b ≠ a.block) : (w.setCell a v).heap[b]? = w.heap[b]? := Below.heap_setCell _ _ _ _ h

theorem block_keep {w w' : World} {S : Nat → Prop} {b : Nat} {o : Obj} (h : w.heap[b]? = some o) (hk : Keeps S w w') (hS : ¬ S b) : w'.heap[b]? = some o := by
  rw [hk.block b (lt_block h) hS]; exact h

theorem set_oth {w : World} {b : Nat} {a : Addr} {v : Value} {o : Obj} (h : w.heap[b]? = some o) (hb : b ≠ a.block) : (w.setCell a v).heap[b]? = some o := by
  rw [set_other hb]; exact h

theorem alloc_old {w : World} {b : Nat} {o x : Obj} (h : w.heap[b]? = some x) : (w.alloc o).heap[b]? = some x := by
  rw [Below.heap_alloc _ _ _ (lt_block h)]; exact h

theorem alloc_new {w : World} {o : Obj} : (w.alloc o).heap[w.heap.size]? = some o := by
  show (w.heap.push o)[w.heap.size]? = _
  simp

theorem Keeps.drewN {S : Nat → Prop} {a w : World} (h : Keeps S a w) (n : Nat) : Keeps S a (w.drewN n) := ⟨h.os, h.tape, h.output, h.size, h.block⟩
/-- the way is found by the operations: from the start; from a way that is known; with stores -/
theorem Keeps.r {S : Nat → Prop} {a c : World} (k : Keeps S a c := by with_reducible repeat first | exact Keeps.refl _ _ | refine Keeps.alloc ?_ _ | refine Keeps.drewN ?_ _ | refine Keeps.drew ?_ | refine Keeps.trans ?_ (by with_reducible assumption)) : Keeps S a c := k
theorem Keeps.q {S : Nat → Prop} {a b c : World} (h : Keeps S a b) (k : Keeps S a b → Keeps S a c := by intro hk; with_reducible repeat first | exact hk | refine Keeps.alloc ?_ _ | refine Keeps.drewN ?_ _ | refine Keeps.drew ?_ | refine Keeps.trans ?_ (by with_reducible assumption)) : Keeps S a c := k h
theorem Keeps.c {S : Nat → Prop} {a b c : World} (h : Keeps S a b) (k : Keeps S a b → Keeps S a c := by intro hk; (with_reducible repeat first | exact hk | refine Keeps.setCell ?_ ?_ _ | refine Keeps.alloc ?_ _ | refine Keeps.drewN ?_ _ | refine Keeps.drew ?_); all_goals first | (left; simp; done) | (left; simp; omega) | (right; simp; done) | (right; simp; omega)) : Keeps S a c := k h
/-- a call of which one thing is said of the world behind it -/
theorem cret {P : Program} {f : Nat} {a : Array Value} {w : World} {E : Ending} {R : World → Prop} {Q : Ending → World → Prop} (h : Calls P f a w fun e w' => e = E ∧ R w') (k : ∀ w', R w' → Q E w') : Calls P f a w Q := h.mono (by rintro e w' ⟨rfl, h1⟩; exact k w' h1)
/-- a call that leaves the world as it is -/
theorem csame {P : Program} {f : Nat} {a : Array Value} {w : World} {E : Ending} {Q : Ending → World → Prop} (h : Calls P f a w fun e w' => e = E ∧ w' = w) (k : Q E w) : Calls P f a w Q := h.mono (by rintro e w' ⟨rfl, rfl⟩; exact k)

end Go.Proofs.YthlphddehdjfjaaGreatDoor

/- A range over a function: what an iterator gives ('Gives'), and the law for its caller ('wp_over'), in terms of 'Keeps'. -/
namespace Go.Proofs.YthlphddehdjfjaaGreatDoor
open Go.RowKit

/-- the fence that lets everything in -/
abbrev Wd : Fence := Fence.wide

/-- An iterator '.func (.func gf) #[] lb' gives xs, one by one; what it writes itself lies in Own, or is new. -/
def Gives {α : Type} (P : Program) (gf : FuncId) (lb : Array Value) (encs : α → Array Value) (xs : List α) (Rd : World → Prop) (Own : Nat → Prop) : Prop :=
  ∀ (l : Nat) (J : List α → World → Prop) (Jx : World → Prop) (W : World),
    (∀ pre W W', J pre W → Keeps Own W W' → J pre W') → (∀ W W', Jx W → Keeps Own W W' → Jx W') → (∀ pre W, J pre W → Rd W) →
    (∀ pre x suf W, xs = pre ++ x :: suf → J pre W → YieldAt Wd 0 P l (encs x) W fun e W' => (e = .returned (.bool true) ∧ J (pre ++ [x]) W') ∨ (e = .returned (.bool false) ∧ Jx W')) →
    J [] W → Calls P gf (#[.func (.yield l) #[] #[]] ++ lb) W fun e W' => (∃ v, e = .returned v) ∧ (J xs W' ∨ Jx W')

/-- the two blocks of a loop's book-keeping: for the rounds' deferred calls, and the record -/
def Two (w : World) (k : Nat) : Prop := k = w.heap.size ∨ k = w.heap.size + 1
/-- what a loop's body owes at its end: nothing of the book-keeping is touched, and the loop's relation -/
def overPost {α : Type} (w : World) (I : List α → World → Prop) (Ix : Code → World → Prop) (pre : List α) (W : World) : Exit → Act → World → Prop
  | .normal, _, W' => Keeps (fun k => ¬ Two w k) W W' ∧ I pre W'
  | .ret, _, W' => Keeps (fun k => ¬ Two w k) W W' ∧ Ix .ret W'
  | .exit id, _, W' => Keeps (fun k => ¬ Two w k) W W' ∧ Ix (.exit id) W'
  | .goto t, _, W' => Keeps (fun k => ¬ Two w k) W W' ∧ Ix (.goto t) W'
  | .panic _, _, _ => False
  | .outgrown, _, _ => False

theorem Keeps.putObj {S : Nat → Prop} {a w : World} (h : Keeps S a w) {r : Nat} (hr : S r ∨ a.heap.size ≤ r) (o : Obj) : Keeps S a (w.putObj r o) :=
  ⟨h.os, h.tape, h.output, by have := h.size; simpa using this, fun k hk hs => by
    rw [World.putObj_heap_other (by intro e; subst e; rcases hr with hr | hr; exact hs hr; omega)]; exact h.block k hk hs⟩

/-- the end of a function that holds one range over a function: its mark is taken up -/
theorem leave_mark {P : Program} {fn : Func} {R : Ending → World → Prop} {tmps : Array Value} {D : Nat} {W : World} (hD : W.heap[D]? = some (.deferred (some [])))
    (h : ∀ W', Keeps (fun k => k = D) W W' → ∃ v, (results fn tmps).run P W' = .ok v W' ∧ R (.returned v) W') :
    bodyPostM Wd 0 P fn R .ret { tmps := tmps, defers := [{ target := .collected D, args := #[] }] } W := by
  obtain ⟨v, h1, h2⟩ := h _ ((Keeps.refl (fun k => k = D) W).putObj (r := D) (.inl rfl) (.deferred none))
  exact ⟨by simp, .inl ⟨_, _, rfl, run_takeDeferred hD, ⟨v, h1, h2⟩⟩⟩

theorem wp_over {α : Type} {P : Program} {g : Operand} {ps : Array Tmp} {assign body : Code} {Q : Exit → Act → World → Prop} {a : Act} {w : World} {gf : Nat} {lb : Array Value}
    (hg : a.eval g = .func (.func gf) #[] lb) (eg : ∀ args w, (callFunc gf args).run P w = .ok (.enter gf args) w)
    {encs : α → Array Value} {xs : List α} {Rd : World → Prop} {Own : Nat → Prop} (hseq : Gives P gf lb encs xs Rd Own) (hps : ∀ x, (encs x).size = ps.size)
    (I : List α → World → Prop) (Ix : Code → World → Prop)
    (hI : ∀ pre W W', I pre W → Keeps (fun k => Own k ∨ Two w k) W W' → I pre W') (hIx : ∀ c W W', Ix c W → Keeps (fun k => Own k ∨ Two w k) W W' → Ix c W')
    (hRd : ∀ pre W, I pre W → Rd W) (hOwn : ∀ k, Two w k → ¬ Own k) (h0 : I [] w)
    (hbody : ∀ (l : Nat) (pre : List α) (x : α) (suf : List α) (W : World), xs = pre ++ x :: suf → I pre W → w.heap.size + 1 < W.heap.size →
      assign.wpIn (Wd.inRound l) 0 P (Exit.then (fun a₁ W₁ => Keeps (fun k => ¬ Two w k) W W₁ ∧ ∀ W₂, Keeps (Two w) W₁ W₂ → body.wpIn (Wd.inRound l) 0 P (overPost w I Ix (pre ++ [x]) W₂) a₁ W₂) (fun _ _ _ => False))
        { tmps := (ps.zip (encs x)).foldl (fun t (p, v) => t.setIfInBounds p v) a.tmps, defers := [] } W)
    (hdone : ∀ W, I xs W → W.heap[w.heap.size]? = some (.deferred (some [])) → Q .normal { a with defers := { target := .collected w.heap.size, args := #[] } :: a.defers } W)
    (hstop : ∀ c W, Ix c W → W.heap[w.heap.size]? = some (.deferred (some [])) → c.wpIn Wd 0 P Q { a with defers := { target := .collected w.heap.size, args := #[] } :: a.defers } W) :
    (Code.rangeFunc g ps assign body).wpIn Wd 0 P Q a w := by
  refine wpIn_rangeFunc ?_
  intro fn hfn
  obtain ⟨rec, hrec⟩ : ∃ rec : LoopState → Option Code → Loop, rec = fun st pe => { state := st, pending := pe, fn, tmps := a.tmps, params := ps, assign, body, defers := w.heap.size } := ⟨_, rfl⟩
  obtain ⟨W1, hW1⟩ : ∃ W1, (w.alloc (.deferred (some []))).alloc (.loop (rec .ready none)) = W1 := ⟨_, rfl⟩
  have hL1 : W1.heap[w.heap.size + 1]? = some (.loop (rec .ready none)) := by rw [← hW1]; exact alloc_new' (by simp)
  have hK1 : W1.heap[w.heap.size]? = some (.deferred (some [])) := by rw [← hW1]; exact alloc_old alloc_new
  have hI1 : I [] W1 := hI _ _ _ h0 (by rw [← hW1]; exact ((Keeps.refl _ _).alloc _).alloc _)
  refine ⟨w.heap.size + 1, [{ target := .collected w.heap.size, args := #[] }], W1, { target := .fn (.func gf) lb, args := #[.func (.yield (w.heap.size + 1)) #[] #[]] }, W1, gf,
    #[.func (.yield (w.heap.size + 1)) #[] #[]] ++ lb, W1, ?_, ?_, ?_, ?_, fun h => by simp [Fence.wide] at h, ?_⟩
  · rw [← hW1, hrec]; exact run_enterLoop_outer _ _ _ _ _
  · simp only [resolve, hg]
    simp [go_sem]
  · intro f' _; trivial
  · simp [invoke, go_sem, eg]
  · refine callsIn_wide.2 ?_
    have keepO : ∀ {A B : World}, Keeps Own A B → Keeps (fun k => Own k ∨ Two w k) A B := fun h => h.mono (fun _ _ h => .inl h)
    have keepT : ∀ {A B : World}, Keeps (Two w) A B → Keeps (fun k => Own k ∨ Two w k) A B := fun h => h.mono (fun _ _ h => .inr h)
    refine (hseq (w.heap.size + 1)
      (fun pre W => I pre W ∧ W.heap[w.heap.size + 1]? = some (.loop (rec .ready none)) ∧ W.heap[w.heap.size]? = some (.deferred (some [])))
      (fun W => ∃ c, Ix c W ∧ W.heap[w.heap.size + 1]? = some (.loop (rec .done (some c))) ∧ W.heap[w.heap.size]? = some (.deferred (some [])))
      W1
      (fun pre W W' h hk => ⟨hI _ _ _ h.1 (keepO hk), block_keep h.2.1 hk (hOwn _ (.inr rfl)), block_keep h.2.2 hk (hOwn _ (.inl rfl))⟩)
      (fun W W' ⟨c, h, h1, h2⟩ hk => ⟨c, hIx _ _ _ h (keepO hk), block_keep h1 hk (hOwn _ (.inr rfl)), block_keep h2 hk (hOwn _ (.inl rfl))⟩)
      (fun pre W h => hRd _ _ h.1) ?_ ⟨hI1, hL1, hK1⟩).mono ?_
    · rintro pre x suf W hx ⟨hi, hl, hk⟩
      have hlt : w.heap.size + 1 < W.heap.size := lt_block hl
      have hy := run_yield (P := P) (args := encs x) hl (by rw [hrec]; exact hps x)
      rw [hrec] at hy
      refine ⟨fn, _, assign, body, hy, roundIn_of_wpIn trivial (wpIn_mono (hbody _ pre x suf W hx hi hlt) ?_)⟩
      rintro e a₁ W₁ hp
      cases e with
      | normal =>
        obtain ⟨hk1, hb1⟩ := hp
        have hl1 : W₁.heap[w.heap.size + 1]? = some (.loop (rec .ready none)) := block_keep hl hk1 (by simp [Two])
        have hd1 : W₁.heap[w.heap.size]? = some (.deferred (some [])) := block_keep hk hk1 (by simp [Two])
        refine ⟨_, run_beginRound hl1 (by rw [hrec]), ?_⟩
        have hlt1 : w.heap.size + 1 < W₁.heap.size := lt_block hl1
        have hl2 : (W₁.putObj (w.heap.size + 1) (.loop { rec .ready none with state := .busy })).heap[w.heap.size + 1]? = some (.loop { rec .ready none with state := .busy }) := World.putObj_heap_same hlt1
        have hd2 : (W₁.putObj (w.heap.size + 1) (.loop { rec .ready none with state := .busy })).heap[w.heap.size]? = some (.deferred (some [])) := (World.putObj_heap_other (by omega)).trans hd1
        refine wpIn_mono (hb1 _ ((Keeps.refl _ _).putObj (.inl (.inr rfl)) _)) ?_
        have fin : ∀ (jump : Option Code) (W3 : World), Keeps (fun k => ¬ Two w k) (W₁.putObj (w.heap.size + 1) (.loop { rec .ready none with state := .busy })) W3 →
            (Instr.endRound (w.heap.size + 1) jump).run P W3 = .ok (.bool jump.isNone) (W3.putObj (w.heap.size + 1) (.loop (rec (if jump.isNone then .ready else .done) jump))) ∧
            (W3.putObj (w.heap.size + 1) (.loop (rec (if jump.isNone then .ready else .done) jump))).heap[w.heap.size + 1]? = some (.loop (rec (if jump.isNone then .ready else .done) jump)) ∧
            (W3.putObj (w.heap.size + 1) (.loop (rec (if jump.isNone then .ready else .done) jump))).heap[w.heap.size]? = some (.deferred (some [])) := fun jump W3 hk3 => by
          have hl3 := block_keep hl2 hk3 (by simp [Two])
          have hd3 := block_keep hd2 hk3 (by simp [Two])
          have := run_endRound (P := P) jump hl3
          rw [hrec] at this ⊢
          exact ⟨this, World.putObj_heap_same (lt_block hl3), (World.putObj_heap_other (by omega)).trans hd3⟩
        have kT : ∀ (W3 : World) (o : Obj), Keeps (fun k => Own k ∨ Two w k) W3 (W3.putObj (w.heap.size + 1) o) := fun W3 o => keepT ((Keeps.refl _ _).putObj (.inl (.inr rfl)) _)
        rintro e a3 W3 hp
        cases e with
        | normal =>
          obtain ⟨hk3, hi3⟩ := hp
          obtain ⟨hr, hl4, hk4⟩ := fin none W3 hk3
          exact ⟨_, _, hr, .inl ⟨rfl, hI _ _ _ hi3 (kT _ _), hl4, hk4⟩⟩
        | ret =>
          obtain ⟨hk3, hi3⟩ := hp
          obtain ⟨hr, hl4, hk4⟩ := fin (some .ret) W3 hk3
          exact ⟨_, _, hr, .inr ⟨rfl, .ret, hIx _ _ _ hi3 (kT _ _), hl4, hk4⟩⟩
        | exit id =>
          obtain ⟨hk3, hi3⟩ := hp
          obtain ⟨hr, hl4, hk4⟩ := fin (some (.exit id)) W3 hk3
          exact ⟨_, _, hr, .inr ⟨rfl, .exit id, hIx _ _ _ hi3 (kT _ _), hl4, hk4⟩⟩
        | goto t =>
          obtain ⟨hk3, hi3⟩ := hp
          obtain ⟨hr, hl4, hk4⟩ := fin (some (.goto t)) W3 hk3
          exact ⟨_, _, hr, .inr ⟨rfl, .goto t, hIx _ _ _ hi3 (kT _ _), hl4, hk4⟩⟩
        | panic ch => exact hp.elim
        | outgrown => exact hp.elim
      | ret => exact hp.elim
      | exit id => exact hp.elim
      | goto t => exact hp.elim
      | panic ch => exact hp.elim
      | outgrown => exact hp.elim
    · rintro e W2 ⟨⟨v, rfl⟩, (⟨hi, hl, hk⟩ | ⟨c, hi, hl, hk⟩)⟩
      · exact ⟨none, _, by have := run_endLoop (P := P) hl (by rw [hrec]; simp); rw [hrec] at this; exact this, hdone _ (hI _ _ _ hi (keepT ((Keeps.refl _ _).putObj (.inl (.inr rfl)) _))) ((World.putObj_heap_other (by omega)).trans hk)⟩
      · exact ⟨some c, _, by have := run_endLoop (P := P) hl (by rw [hrec]; simp); rw [hrec] at this; exact this, hstop c _ (hIx _ _ _ hi (keepT ((Keeps.refl _ _).putObj (.inl (.inr rfl)) _))) ((World.putObj_heap_other (by omega)).trans hk)⟩

end Go.Proofs.YthlphddehdjfjaaGreatDoor
