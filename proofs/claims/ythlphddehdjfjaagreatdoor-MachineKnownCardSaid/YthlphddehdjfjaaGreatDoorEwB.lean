/- A reading of closed calls that the kernel can run: blocks, worlds, operands. -/
import Derived.Test.YthlphddehdjfjaaGreatDoorEwA
namespace Go.Proofs.YthlphddehdjfjaaGreatDoor
open Go.RowKit
set_option linter.unusedVariables false

/-- temporaries: those of the region at work ahead of the table -/
structure En where
  l : List (Nat × AV)
  t : Tr AV
noncomputable def getE (l : List (Nat × AV)) : Nat → Tr AV → Option AV :=
  List.rec (motive := fun _ => Nat → Tr AV → Option AV) (fun k t => t.get k) (fun q _ ih k t => Bool.rec (motive := fun _ => Option AV) (ih k t) (some q.2) (Nat.beq q.1 k)) l
noncomputable def En.get (e : En) (k : Nat) : Option AV := getE e.l k e.t
def En.put (e : En) (k : Nat) (v : AV) : En := ⟨(k, v) :: e.l, e.t⟩
theorem En.get_put (e : En) (k : Nat) (v : AV) (j : Nat) : (e.put k v).get j = if j = k then some v else e.get j := by
  show Bool.rec (motive := fun _ => Option AV) (e.get j) (some v) (Nat.beq k j) = _
  cases h : Nat.beq k j with
  | true => rw [if_pos (Nat.eq_of_beq_eq_true h).symm]
  | false => rw [if_neg (fun e => by subst e; simp at h)]
structure ME where
  k : AV
  v : AV
  b : Nat
inductive AO where
  | c (n : Nat) (ty : TypeId) (u : Tr AV)
  | gr (sz : Nat) (ty : TypeId) (u : Tr AV)
  | mp (es : List ME) (clock : Nat)
  | mi (m since : Nat) (seen : List Nat) (stepped : Nat)
  | mz
  | si (x : ByteArray) (pos : Nat)
  | lp (st : LoopState) (pd : Option Code) (tm : En) (nt km : Nat) (ps : Array Tmp) (asg body : Code)
  | df

def CR (ρ : Rn) (u : Tr AV) (cs : Array Value) : Prop := ∀ j c, u.get j = some c → ∃ v, cs[j]? = some v ∧ v.oneCell' = true ∧ R ρ c (.v v)
inductive MR (ρ : Rn) : List ME → List MapEntry → Prop where
  | nil : MR ρ [] []
  | cons {e : ME} {m : MapEntry} {es : List ME} {ms : List MapEntry} (hk : R ρ e.k (.v m.key)) (hv : R ρ e.v (.v m.val)) (hb : m.born = e.b) (h : MR ρ es ms) : MR ρ (e :: es) (m :: ms)
def TR (ρ : Rn) (tm : En) (nt : Nat) (ts : Array Value) : Prop := ts.size = nt ∧ ∀ k c, tm.get k = some c → ∃ v, ts[k]? = some v ∧ R ρ c (.v v)
/-- the table holds only what a mask lets it hold -/
def KM (km : Nat) (tm : En) : Prop := ∀ k, Nat.testBit km k = false → tm.t.get k = none
inductive OR (ρ : Rn) (C : Nat) : AO → Obj → Prop where
  | c {n ty : Nat} {u : Tr AV} {cs : Array Value} (hs : cs.size = n) (h : CR ρ u cs) : OR ρ C (.c n ty u) (.cells cs ty)
  | gr {sz ty : Nat} {u : Tr AV} {cs : Array Value} (hs : cs.size = C * sz) (h : CR ρ u cs) : OR ρ C (.gr sz ty u) (.cells cs ty)
  | mp {es : List ME} {ms : Array MapEntry} {clock : Nat} (h : MR ρ es ms.toList) : OR ρ C (.mp es clock) (.map ms clock)
  | mi {m since : Nat} {seen : List Nat} {stepped bk c : Nat} (h : ρ m = some (bk, c)) : OR ρ C (.mi m since seen stepped) (.mapIter (some bk) since ⟨seen⟩ stepped)
  | mz {since : Nat} {seen : Array Nat} {stepped : Nat} : OR ρ C .mz (.mapIter none since seen stepped)
  | si {x : ByteArray} {pos : Nat} : OR ρ C (.si x pos) (.stringIter x pos)
  | lp {st : LoopState} {pd : Option Code} {tm : En} {nt km : Nat} {ps : Array Tmp} {asg body : Code} {l : Loop} (h : TR ρ tm nt l.tmps) (h1 : l.state = st) (h2 : l.pending = pd)
      (h3 : l.params = ps) (h4 : l.assign = asg) (h5 : l.body = body) (h6 : KM km tm) : OR ρ C (.lp st pd tm nt km ps asg body) (.loop l)
  | df : OR ρ C .df (.deferred (some []))
theorem CR.mono {ρ ρ' : Rn} {u : Tr AV} {cs : Array Value} (h : CR ρ u cs) (hl : ρ.le ρ') : CR ρ' u cs :=
  fun j c e => let ⟨v, h1, h2, h3⟩ := h j c e; ⟨v, h1, h2, h3.mono hl⟩
theorem MR.mono {ρ ρ' : Rn} {es : List ME} {ms : List MapEntry} (h : MR ρ es ms) (hl : ρ.le ρ') : MR ρ' es ms := by
  induction h with
  | nil => exact .nil
  | cons hk hv hb _ ih => exact .cons (hk.mono hl) (hv.mono hl) hb ih
theorem TR.mono {ρ ρ' : Rn} {tm : En} {nt : Nat} {ts : Array Value} (h : TR ρ tm nt ts) (hl : ρ.le ρ') : TR ρ' tm nt ts :=
  ⟨h.1, fun j c e => let ⟨v, h1, h3⟩ := h.2 j c e; ⟨v, h1, h3.mono hl⟩⟩
theorem OR.mono {ρ ρ' : Rn} {C : Nat} {o : AO} {x : Obj} (h : OR ρ C o x) (hl : ρ.le ρ') : OR ρ' C o x := by
  cases h with
  | c hs h => exact .c hs (h.mono hl)
  | gr hs h => exact .gr hs (h.mono hl)
  | mp h => exact .mp (h.mono hl)
  | mi h => exact .mi (hl _ _ h)
  | mz => exact .mz
  | si => exact .si
  | lp h h1 h2 h3 h4 h5 h6 => exact .lp (h.mono hl) h1 h2 h3 h4 h5 h6
  | df => exact .df

abbrev Hp' := Nat → Option AO
/-- the blocks that a table speaks of -/
def Im (ρ : Rn) (h : Hp') (b : Nat) : Prop := ∃ i o C, h i = some o ∧ ρ i = some (b, C)
structure Lay (G : Nat) (ρ : Rn) (h : Hp') (nx : Nat) (w : World) : Prop where
  obj : ∀ i o, h i = some o → ∃ bk C x, ρ i = some (bk, C) ∧ w.heap[bk]? = some x ∧ OR ρ C o x
  inj : ∀ i j o o' bk C C', h i = some o → h j = some o' → ρ i = some (bk, C) → ρ j = some (bk, C') → i = j
  top : ∀ i, nx ≤ i → ρ i = none
  glb : ∀ g, g < G → ρ g = some (g, 0)
structure Nx (ρ : Rn) (h : Hp') (nx : Nat) (w : World) (ρ' : Rn) (h' : Hp') (nx' : Nat) (w' : World) : Prop where
  le : ρ.le ρ'
  kp : Keeps (Im ρ h) w w'
  im : ∀ b, b < w.heap.size → Im ρ' h' b → Im ρ h b
  fr : ∀ k, k < nx → ρ' k = ρ k
  mx : nx ≤ nx'
theorem Nx.refl (ρ : Rn) (h : Hp') {nx : Nat} (w : World) : Nx ρ h nx w ρ h nx w := ⟨Rn.le.refl _, Keeps.refl _ _, fun _ _ h => h, fun _ _ => rfl, Nat.le_refl _⟩
theorem Nx.trans {ρ ρ' ρ'' : Rn} {h h' h'' : Hp'} {nx nx' nx'' : Nat} {w w' w'' : World} (a : Nx ρ h nx w ρ' h' nx' w') (b : Nx ρ' h' nx' w' ρ'' h'' nx'' w'') : Nx ρ h nx w ρ'' h'' nx'' w'' :=
  ⟨a.le.trans b.le, a.kp.trans' b.kp (fun _ _ s => s) (fun x hx s => a.im x hx s), fun x hx s => a.im x hx (b.im x (Nat.lt_of_lt_of_le hx a.kp.size) s), fun k hk => (b.fr k (Nat.lt_of_lt_of_le hk a.mx)).trans (a.fr k hk), Nat.le_trans a.mx b.mx⟩

def hup (h : Hp') (i : Nat) (o : AO) : Hp' := fun j => if j = i then some o else h j
theorem hup_set (t : Tr AO) (i : Nat) (o : AO) : (t.set i o).get = hup t.get i o := funext fun j => Tr.get_set t i o j
section
variable {G nx : Nat} {ρ : Rn} {h : Hp'} {w w' : World}
theorem Lay.lt {i bk : Nat} {o : AO} {C : Nat} (l : Lay G ρ h nx w) (e : h i = some o) (r : ρ i = some (bk, C)) : bk < w.heap.size := by
  obtain ⟨bk', C', x, h1, h2, _⟩ := l.obj i o e
  rw [r] at h1; cases h1
  exact lt_block h2
theorem Lay.im_lt (l : Lay G ρ h nx w) {b : Nat} (e : Im ρ h b) : b < w.heap.size := let ⟨i, o, C, h1, h2⟩ := e; l.lt h1 h2
/-- the object of an id -/
theorem Lay.at (l : Lay G ρ h nx w) {i bk C : Nat} {o : AO} (e : h i = some o) (r : ρ i = some (bk, C)) : ∃ x, w.heap[bk]? = some x ∧ OR ρ C o x := by
  obtain ⟨bk', C', x, h1, h2, h3⟩ := l.obj i o e
  rw [r] at h1; cases h1
  exact ⟨x, h2, h3⟩
theorem Lay.sub (l : Lay G ρ h nx w) {h' : Hp'} (hs : ∀ i o, h' i = some o → h i = some o) : Lay G ρ h' nx w :=
  ⟨fun i o e => l.obj i o (hs i o e), fun i j o o' bk C C' e e' => l.inj i j o o' bk C C' (hs _ _ e) (hs _ _ e'), l.top, l.glb⟩
theorem Nx.sub {h' : Hp'} (hs : ∀ i o, h' i = some o → h i = some o) : Nx ρ h nx w ρ h' nx w :=
  ⟨Rn.le.refl _, Keeps.refl _ _, fun b _ ⟨i, o, C, h1, h2⟩ => ⟨i, o, C, hs _ _ h1, h2⟩, fun _ _ => rfl, Nat.le_refl _⟩
/-- a world in which nothing of these blocks differs -/
theorem Lay.same (l : Lay G ρ h nx w) (hk : Keeps (fun _ => False) w w') : Lay G ρ h nx w' :=
  ⟨fun i o e => let ⟨bk, C, x, h1, h2, h3⟩ := l.obj i o e; ⟨bk, C, x, h1, block_keep h2 hk (fun h => h), h3⟩, l.inj, l.top, l.glb⟩
theorem Nx.same (hk : Keeps (fun _ => False) w w') : Nx ρ h nx w ρ h nx w' := ⟨Rn.le.refl _, hk.up, fun _ _ h => h, fun _ _ => rfl, Nat.le_refl _⟩
/-- a new block -/
theorem Lay.alloc (l : Lay G ρ h nx w) {o : AO} {x : Obj} (C : Nat) (ho : OR (ρ.up nx (w.heap.size, C)) C o x) :
    Lay G (ρ.up nx (w.heap.size, C)) (hup h nx o) (nx + 1) (w.alloc x) ∧ Nx ρ h nx w (ρ.up nx (w.heap.size, C)) (hup h nx o) (nx + 1) (w.alloc x) := by
  have hle : ρ.le (ρ.up nx (w.heap.size, C)) := Rn.le_up _ (l.top nx (Nat.le_refl _))
  have hold : ∀ i, i ≠ nx → (ρ.up nx (w.heap.size, C)) i = ρ i := fun i hi => if_neg hi
  have hho : ∀ i, i ≠ nx → hup h nx o i = h i := fun i hi => if_neg hi
  have hnew : hup h nx o nx = some o := if_pos rfl
  refine ⟨⟨fun i q e => ?_, fun i j q q' bk D D' e e' r r' => ?_, fun i hi => ?_, fun g hg => hle _ _ (l.glb g hg)⟩, ⟨hle, ?_, fun b hb ⟨i, q, D, e, r⟩ => ?_, fun k hk => hold k (by omega), Nat.le_succ _⟩⟩
  · by_cases hi : i = nx
    · subst hi
      rw [hnew] at e; cases e
      exact ⟨_, _, x, Rn.up_same _ _ _, alloc_new, ho⟩
    · rw [hho i hi] at e
      obtain ⟨bk, D, y, h1, h2, h3⟩ := l.obj i q e
      exact ⟨bk, D, y, hle _ _ h1, alloc_old h2, h3.mono hle⟩
  · by_cases hi : i = nx <;> by_cases hj : j = nx
    · rw [hi, hj]
    · subst hi
      rw [Rn.up_same] at r; cases r
      rw [hold j hj] at r'; rw [hho j hj] at e'
      exact absurd (l.lt e' r') (Nat.lt_irrefl _)
    · subst hj
      rw [Rn.up_same] at r'; cases r'
      rw [hold i hi] at r; rw [hho i hi] at e
      exact absurd (l.lt e r) (Nat.lt_irrefl _)
    · rw [hold i hi] at r; rw [hold j hj] at r'; rw [hho i hi] at e; rw [hho j hj] at e'
      exact l.inj i j q q' bk D D' e e' r r'
  · rw [hold i (by omega)]; exact l.top i (by omega)
  · exact (Keeps.refl _ _).alloc _
  · by_cases hi : i = nx
    · subst hi
      rw [Rn.up_same] at r; cases r
      exact absurd hb (Nat.lt_irrefl _)
    · rw [hold i hi] at r; rw [hho i hi] at e
      exact ⟨i, q, D, e, r⟩
/-- a block is changed in place -/
theorem Lay.put (l : Lay G ρ h nx w) {i bk C : Nat} {o o' : AO} {x : Obj} (e : h i = some o) (r : ρ i = some (bk, C)) (hk : Keeps (fun z => z = bk) w w') (hx : w'.heap[bk]? = some x) (ho : OR ρ C o' x) :
    Lay G ρ (hup h i o') nx w' ∧ Nx ρ h nx w ρ (hup h i o') nx w' := by
  have hho : ∀ j, j ≠ i → hup h i o' j = h j := fun j hi => if_neg hi
  have hnew : hup h i o' i = some o' := if_pos rfl
  have hsome : ∀ j q, hup h i o' j = some q → ∃ q', h j = some q' := fun j q hq => by
    by_cases hj : j = i
    · subst hj; exact ⟨_, e⟩
    · rw [hho j hj] at hq; exact ⟨_, hq⟩
  refine ⟨⟨fun j q ej => ?_, fun j j' q q' b D D' ej ej' => ?_, l.top, l.glb⟩, ⟨Rn.le.refl _, hk.mono (fun z _ hz => by subst hz; exact ⟨i, o, C, e, r⟩), fun b hb ⟨j, q, D, ej, rj⟩ => ?_, fun _ _ => rfl, Nat.le_refl _⟩⟩
  · by_cases hj : j = i
    · subst hj
      rw [hnew] at ej; cases ej
      exact ⟨bk, C, x, r, hx, ho⟩
    · rw [hho j hj] at ej
      obtain ⟨b', D, y, h1, h2, h3⟩ := l.obj j q ej
      exact ⟨b', D, y, h1, block_keep h2 hk (fun hb => hj (by have hb' : b' = bk := hb; subst hb'; exact l.inj j i q o b' D C ej e h1 r)), h3⟩
  · obtain ⟨_, f⟩ := hsome _ _ ej
    obtain ⟨_, f'⟩ := hsome _ _ ej'
    exact l.inj j j' _ _ b D D' f f'
  · obtain ⟨q', f⟩ := hsome _ _ ej
    exact ⟨j, q', D, f, rj⟩
end

/-! ## constants and operands -/
def ofS : Value → Option AV
  | .bool x => some (.b x)
  | .int k n => some (.i k n)
  | .string x => some (.s x)
  | .pointer none => some .np
  | .slice none 0 0 => some .ns
  | .map none => some .nm
  | .nilFunc => some .nf
  | .nilIface => some .nx
  | .func (.func f) ⟨[]⟩ ⟨[]⟩ => some (.f f .nil)
  | _ => none
theorem ofS_ok {ρ : Rn} {v : Value} {c : AV} (h : ofS v = some c) : R ρ c (.v v) ∧ c.sc = true := by
  unfold ofS at h
  split at h <;> cases h <;> exact ⟨by constructor <;> constructor, rfl⟩
noncomputable def ofL (l : List Value) : Option AV := List.rec (motive := fun _ => Option AV) (some .nil) (fun v _ ih => ob (ofS v) fun c => ob ih fun d => some (.cons c d)) l
theorem ofL_ok {ρ : Rn} : ∀ {l : List Value} {c : AV}, ofL l = some c → R ρ c (.l l) ∧ c.scs = true
  | [], c, h => by cases h; exact ⟨.nil, rfl⟩
  | v :: l, c, h => by
    obtain ⟨x, h1, h⟩ := ob_eq h
    obtain ⟨y, h2, h⟩ := ob_eq h
    cases h
    obtain ⟨a1, a2⟩ := ofL_ok (ρ := ρ) h2
    obtain ⟨b1, b2⟩ := ofS_ok (ρ := ρ) h1
    refine ⟨.cons b1 a1, ?_⟩
    show Bool.rec (motive := fun _ => Bool) false y.scs x.sc = true
    rw [b2]; exact a2
noncomputable def ofV (v : Value) : Option AV :=
  match v with
  | .agg cs => ob (ofL cs.toList) fun l => some (.a l)
  | v => ofS v
theorem ofV_ok {ρ : Rn} {v : Value} {c : AV} (h : ofV v = some c) : R ρ c (.v v) := by
  unfold ofV at h
  split at h
  · obtain ⟨x, h1, h⟩ := ob_eq h
    cases h
    exact .a (ofL_ok h1).1
  · exact (ofS_ok h).1
noncomputable def opd (G : Nat) (tm : En) (x : Operand) : Option AV :=
  Operand.rec (motive := fun _ => Nat → En → Option AV) (fun t _ tm => tm.get t) (fun v _ _ => ofV v) (fun g G _ => iff' (Nat.blt g G) (some (.p g 0))) (fun f _ _ => some (.f f .nil)) x G tm
theorem opd_ok {G nt nx : Nat} {ρ : Rn} {tm : En} {h : Hp'} {w : World} {x : Operand} {c : AV} {e : Act} (ht : TR ρ tm nt e.tmps) (hl : Lay G ρ h nx w) (hx : opd G tm x = some c) : R ρ c (.v (e.eval x)) := by
  cases x
  · obtain ⟨v, h1, h2⟩ := ht.2 _ _ hx
    show R ρ c (.v (e.tmps.getD _ undef))
    rw [Array.getD_eq_getD_getElem?, h1]
    exact h2
  · exact ofV_ok hx
  · rename_i g
    obtain ⟨h1, h2⟩ := iff_eq hx
    cases h2
    exact .p (hl.glb g (by simpa [Nat.blt_eq] using h1))
  · cases hx
    exact .f .nil

end Go.Proofs.YthlphddehdjfjaaGreatDoor
