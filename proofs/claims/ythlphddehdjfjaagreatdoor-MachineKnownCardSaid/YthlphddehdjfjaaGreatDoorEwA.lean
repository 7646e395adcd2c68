/- A reading of closed calls that the kernel can run: values, blocks, and what they stand for in a world. -/
import Derived.Test.YthlphddehdjfjaaGreatDoorMgA
namespace Go.Proofs.YthlphddehdjfjaaGreatDoor
open Go.RowKit
set_option linter.unusedVariables false

/-! ## numbers and options -/
noncomputable def fN {β : Type} (n : Nat) (k : Nat → β) : β := Nat.rec (motive := fun _ => β) (k 0) (fun m _ => k (m + 1)) n
theorem fN_eq {β : Type} (n : Nat) (k : Nat → β) : fN n k = k n := by cases n <;> rfl
noncomputable def fI {β : Type} (n : Int) (k : Int → β) : β := Int.rec (motive := fun _ => β) (fun m => fN m fun m => k (.ofNat m)) (fun m => fN m fun m => k (.negSucc m)) n
theorem fI_eq {β : Type} (n : Int) (k : Int → β) : fI n k = k n := by
  cases n <;> simp only [fI] <;> exact fN_eq _ _
noncomputable def fB {β : Type} (b : Bool) (k : Bool → β) : β := Bool.rec (motive := fun _ => β) (k false) (k true) b
theorem fB_eq {β : Type} (b : Bool) (k : Bool → β) : fB b k = k b := by cases b <;> rfl
noncomputable def ob {α β : Type} (x : Option α) (f : α → Option β) : Option β := Option.rec (motive := fun _ => Option β) none f x
theorem ob_eq {α β : Type} {x : Option α} {f : α → Option β} {r : β} (h : ob x f = some r) : ∃ a, x = some a ∧ f a = some r := by
  cases x with
  | none => cases h
  | some a => exact ⟨a, rfl, h⟩
/-- a test -/
noncomputable def iff' {β : Type} (b : Bool) (k : Option β) : Option β := Bool.rec (motive := fun _ => Option β) none k b
theorem iff_eq {β : Type} {b : Bool} {k : Option β} {r : β} (h : iff' b k = some r) : b = true ∧ k = some r := by
  cases b with
  | false => cases h
  | true => exact ⟨rfl, h⟩

/-! ## tables keyed by numbers -/
inductive Tr (α : Type) where
  | e
  | n (l r : Tr α) (v : Option α)
noncomputable def ev (m : Nat) : Bool := Nat.beq (Nat.mod m 2) 0
theorem ev_true {m : Nat} (h : ev m = true) : m % 2 = 0 := by unfold ev at h; exact Nat.eq_of_beq_eq_true h
theorem ev_false {m : Nat} (h : ev m = false) : m % 2 = 1 := by
  have : ¬ m % 2 = 0 := fun e => by unfold ev at h; rw [show Nat.mod m 2 = 0 from e] at h; cases h
  omega
noncomputable def Tr.get {α : Type} (t : Tr α) : Nat → Option α :=
  Tr.rec (motive := fun _ => Nat → Option α) (fun _ => none)
    (fun _ _ v il ir k => Nat.rec (motive := fun _ => Option α) v (fun m _ => Bool.rec (motive := fun _ => Option α) (ir (Nat.div m 2)) (il (Nat.div m 2)) (ev m)) k) t
section
variable {α : Type}
theorem Tr.get_e (k : Nat) : (Tr.e : Tr α).get k = none := rfl
theorem Tr.get_0 (l r : Tr α) (v : Option α) : (Tr.n l r v).get 0 = v := rfl
theorem Tr.get_l {m : Nat} (l r : Tr α) (v : Option α) (h : ev m = true) : (Tr.n l r v).get (m + 1) = l.get (m / 2) := by
  show Bool.rec (motive := fun _ => Option α) _ _ (ev m) = _; rw [h]; rfl
theorem Tr.get_r {m : Nat} (l r : Tr α) (v : Option α) (h : ev m = false) : (Tr.n l r v).get (m + 1) = r.get (m / 2) := by
  show Bool.rec (motive := fun _ => Option α) _ _ (ev m) = _; rw [h]; rfl
/-- the root is computed first -/
noncomputable def Tr.fc {β : Type} (t : Tr α) (k : Tr α → β) : β := Tr.rec (motive := fun _ => β) (k .e) (fun l r v _ _ => k (.n l r v)) t
theorem Tr.fc_eq {β : Type} (t : Tr α) (k : Tr α → β) : t.fc k = k t := by cases t <;> rfl
noncomputable def Tr.one (a : α) (f k : Nat) : Tr α :=
  Nat.rec (motive := fun _ => Nat → Tr α) (fun _ => .n .e .e (some a))
    (fun _ ih k => Nat.rec (motive := fun _ => Tr α) (.n .e .e (some a)) (fun m _ => Bool.rec (motive := fun _ => Tr α) (.n .e (ih (Nat.div m 2)) none) (.n (ih (Nat.div m 2)) .e none) (ev m)) k) f k
theorem Tr.one_l {a : α} {f m : Nat} (h : ev m = true) : Tr.one a (f + 1) (m + 1) = .n (Tr.one a f (m / 2)) .e none := by
  show Bool.rec (motive := fun _ => Tr α) _ _ (ev m) = _; rw [h]; rfl
theorem Tr.one_r {a : α} {f m : Nat} (h : ev m = false) : Tr.one a (f + 1) (m + 1) = .n .e (Tr.one a f (m / 2)) none := by
  show Bool.rec (motive := fun _ => Tr α) _ _ (ev m) = _; rw [h]; rfl
theorem Tr.get_one (a : α) : ∀ (f k j : Nat), k ≤ f → (Tr.one a f k).get j = if j = k then some a else none
  | 0, k, j, h => by
    obtain rfl : k = 0 := by omega
    cases j with
    | zero => rfl
    | succ j =>
      rw [if_neg (by omega)]
      show (Tr.n .e .e (some a)).get (j + 1) = none
      cases e : ev j
      · rw [Tr.get_r _ _ _ e]; rfl
      · rw [Tr.get_l _ _ _ e]; rfl
  | f + 1, 0, j, h => by
    cases j with
    | zero => rfl
    | succ j =>
      rw [if_neg (by omega)]
      show (Tr.n .e .e (some a)).get (j + 1) = none
      cases e : ev j
      · rw [Tr.get_r _ _ _ e]; rfl
      · rw [Tr.get_l _ _ _ e]; rfl
  | f + 1, k + 1, j, h => by
    cases e : ev k
    · rw [Tr.one_r e]
      cases j with
      | zero => rw [if_neg (by omega)]; rfl
      | succ j =>
        cases ej : ev j
        · rw [Tr.get_r _ _ _ ej, Tr.get_one a f (k / 2) (j / 2) (by omega)]
          have := ev_false e; have := ev_false ej
          by_cases hh : j = k
          · subst hh; simp
          · rw [if_neg (by omega), if_neg (by omega)]
        · rw [Tr.get_l _ _ _ ej]
          have := ev_false e; have := ev_true ej
          rw [if_neg (by omega)]; rfl
    · rw [Tr.one_l e]
      cases j with
      | zero => rw [if_neg (by omega)]; rfl
      | succ j =>
        cases ej : ev j
        · rw [Tr.get_r _ _ _ ej]
          have := ev_true e; have := ev_false ej
          rw [if_neg (by omega)]; rfl
        · rw [Tr.get_l _ _ _ ej, Tr.get_one a f (k / 2) (j / 2) (by omega)]
          have := ev_true e; have := ev_true ej
          by_cases hh : j = k
          · subst hh; simp
          · rw [if_neg (by omega), if_neg (by omega)]
noncomputable def Tr.set (t : Tr α) (k : Nat) (a : α) : Tr α :=
  Tr.rec (motive := fun _ => Nat → Tr α) (fun k => Tr.one a k k)
    (fun l r v il ir k => Nat.rec (motive := fun _ => Tr α) (.n l r (some a))
      (fun m _ => Bool.rec (motive := fun _ => Tr α) ((ir (Nat.div m 2)).fc fun r' => .n l r' v) ((il (Nat.div m 2)).fc fun l' => .n l' r v) (ev m)) k) t k
theorem Tr.set_l {m : Nat} {a : α} (l r : Tr α) (v : Option α) (h : ev m = true) : (Tr.n l r v).set (m + 1) a = .n (l.set (m / 2) a) r v := by
  show Bool.rec (motive := fun _ => Tr α) _ _ (ev m) = _; rw [h]; exact Tr.fc_eq _ _
theorem Tr.set_r {m : Nat} {a : α} (l r : Tr α) (v : Option α) (h : ev m = false) : (Tr.n l r v).set (m + 1) a = .n l (r.set (m / 2) a) v := by
  show Bool.rec (motive := fun _ => Tr α) _ _ (ev m) = _; rw [h]; exact Tr.fc_eq _ _
theorem Tr.get_set (t : Tr α) (k : Nat) (a : α) (j : Nat) : (t.set k a).get j = if j = k then some a else t.get j := by
  induction t generalizing k j with
  | e => exact Tr.get_one a k k j (Nat.le_refl _)
  | n l r v il ir =>
    cases k with
    | zero =>
      show (Tr.n l r (some a)).get j = _
      cases j with
      | zero => rfl
      | succ j =>
        rw [if_neg (by omega)]
        cases ej : ev j
        · rw [Tr.get_r _ _ _ ej, Tr.get_r _ _ _ ej]
        · rw [Tr.get_l _ _ _ ej, Tr.get_l _ _ _ ej]
    | succ k =>
      cases e : ev k
      · rw [Tr.set_r _ _ _ e]
        cases j with
        | zero => rw [if_neg (by omega)]; rfl
        | succ j =>
          cases ej : ev j
          · rw [Tr.get_r _ _ _ ej, Tr.get_r _ _ _ ej, ir]
            have := ev_false e; have := ev_false ej
            by_cases hh : j = k
            · subst hh; simp
            · rw [if_neg (by omega), if_neg (by omega)]
          · rw [Tr.get_l _ _ _ ej, Tr.get_l _ _ _ ej]
            have := ev_false e; have := ev_true ej
            rw [if_neg (by omega)]
      · rw [Tr.set_l _ _ _ e]
        cases j with
        | zero => rw [if_neg (by omega)]; rfl
        | succ j =>
          cases ej : ev j
          · rw [Tr.get_r _ _ _ ej, Tr.get_r _ _ _ ej]
            have := ev_true e; have := ev_false ej
            rw [if_neg (by omega)]
          · rw [Tr.get_l _ _ _ ej, Tr.get_l _ _ _ ej, il]
            have := ev_true e; have := ev_true ej
            by_cases hh : j = k
            · subst hh; simp
            · rw [if_neg (by omega), if_neg (by omega)]
noncomputable def Tr.del (t : Tr α) (k : Nat) : Tr α :=
  Tr.rec (motive := fun _ => Nat → Tr α) (fun _ => .e)
    (fun l r v il ir k => Nat.rec (motive := fun _ => Tr α) (.n l r none)
      (fun m _ => Bool.rec (motive := fun _ => Tr α) ((ir (Nat.div m 2)).fc fun r' => .n l r' v) ((il (Nat.div m 2)).fc fun l' => .n l' r v) (ev m)) k) t k
theorem Tr.del_l {m : Nat} (l r : Tr α) (v : Option α) (h : ev m = true) : (Tr.n l r v).del (m + 1) = .n (l.del (m / 2)) r v := by
  show Bool.rec (motive := fun _ => Tr α) _ _ (ev m) = _; rw [h]; exact Tr.fc_eq _ _
theorem Tr.del_r {m : Nat} (l r : Tr α) (v : Option α) (h : ev m = false) : (Tr.n l r v).del (m + 1) = .n l (r.del (m / 2)) v := by
  show Bool.rec (motive := fun _ => Tr α) _ _ (ev m) = _; rw [h]; exact Tr.fc_eq _ _
theorem Tr.get_del (t : Tr α) (k : Nat) (j : Nat) : (t.del k).get j = if j = k then none else t.get j := by
  induction t generalizing k j with
  | e => show none = _; split <;> rfl
  | n l r v il ir =>
    cases k with
    | zero =>
      show (Tr.n l r none).get j = _
      cases j with
      | zero => rfl
      | succ j =>
        rw [if_neg (by omega)]
        cases ej : ev j
        · rw [Tr.get_r _ _ _ ej, Tr.get_r _ _ _ ej]
        · rw [Tr.get_l _ _ _ ej, Tr.get_l _ _ _ ej]
    | succ k =>
      cases e : ev k
      · rw [Tr.del_r _ _ _ e]
        cases j with
        | zero => rw [if_neg (by omega)]; rfl
        | succ j =>
          cases ej : ev j
          · rw [Tr.get_r _ _ _ ej, Tr.get_r _ _ _ ej, ir]
            have := ev_false e; have := ev_false ej
            by_cases hh : j = k
            · subst hh; simp
            · rw [if_neg (by omega), if_neg (by omega)]
          · rw [Tr.get_l _ _ _ ej, Tr.get_l _ _ _ ej]
            have := ev_false e; have := ev_true ej
            rw [if_neg (by omega)]
      · rw [Tr.del_l _ _ _ e]
        cases j with
        | zero => rw [if_neg (by omega)]; rfl
        | succ j =>
          cases ej : ev j
          · rw [Tr.get_r _ _ _ ej, Tr.get_r _ _ _ ej]
            have := ev_true e; have := ev_false ej
            rw [if_neg (by omega)]
          · rw [Tr.get_l _ _ _ ej, Tr.get_l _ _ _ ej, il]
            have := ev_true e; have := ev_true ej
            by_cases hh : j = k
            · subst hh; simp
            · rw [if_neg (by omega), if_neg (by omega)]
end

/-! ## values -/
inductive AV where
  | any
  | b (x : Bool)
  | i (k : IntKind) (n : Int)
  | s (x : ByteArray)
  | p (id off : Nat)
  | np
  | sl (id off len cap : Nat)
  | gs (id len : Nat)
  | ns
  | m (id : Nat)
  | nm
  | f (fn : FuncId) (l : AV)
  | fy (id : Nat)
  | nf
  | x (t : TypeId) (v : AV)
  | nx
  | a (l : AV)
  | t (l : AV)
  | nil
  | cons (h t : AV)
  | md (k : IntKind) (m r : Nat)
  | fb (fn : FuncId) (l k : AV)
  deriving DecidableEq

abbrev Rn := Nat → Option (Nat × Nat)
def Rn.le (ρ ρ' : Rn) : Prop := ∀ i x, ρ i = some x → ρ' i = some x
theorem Rn.le.refl (ρ : Rn) : ρ.le ρ := fun _ _ h => h
theorem Rn.le.trans {a b c : Rn} (h : a.le b) (k : b.le c) : a.le c := fun i x e => k i x (h i x e)
def Rn.up (ρ : Rn) (i : Nat) (x : Nat × Nat) : Rn := fun j => if j = i then some x else ρ j
theorem Rn.up_same (ρ : Rn) (i : Nat) (x : Nat × Nat) : ρ.up i x i = some x := if_pos rfl
theorem Rn.le_up {ρ : Rn} {i : Nat} (x : Nat × Nat) (h : ρ i = none) : ρ.le (ρ.up i x) := fun j y e => by
  unfold Rn.up
  rw [if_neg]
  · exact e
  · rintro rfl; rw [h] at e; cases e

inductive VL where
  | v (x : Value)
  | l (x : List Value)
inductive R (ρ : Rn) : AV → VL → Prop where
  | any {v : Value} (h : v.oneCell' = true) : R ρ .any (.v v)
  | b (x : Bool) : R ρ (.b x) (.v (.bool x))
  | i (k : IntKind) (n : Int) : R ρ (.i k n) (.v (.int k n))
  | s (x : ByteArray) : R ρ (.s x) (.v (.string x))
  | p {id off bk c : Nat} (h : ρ id = some (bk, c)) : R ρ (.p id off) (.v (.pointer (some ⟨bk, off, none⟩)))
  | np : R ρ .np (.v (.pointer none))
  | sl {id off len cap bk c : Nat} (h : ρ id = some (bk, c)) (hc : len ≤ cap) : R ρ (.sl id off len cap) (.v (.slice (some ⟨bk, off, none⟩) len cap))
  | gs {id len bk c : Nat} (h : ρ id = some (bk, c)) (hc : len ≤ c) : R ρ (.gs id len) (.v (.slice (some ⟨bk, 0, none⟩) len c))
  | ns : R ρ .ns (.v (.slice none 0 0))
  | m {id bk c : Nat} (h : ρ id = some (bk, c)) : R ρ (.m id) (.v (.map (some bk)))
  | nm : R ρ .nm (.v (.map none))
  | f {fn : FuncId} {l : AV} {vs : List Value} (h : R ρ l (.l vs)) : R ρ (.f fn l) (.v (.func (.func fn) #[] ⟨vs⟩))
  | fy {id bk c : Nat} (h : ρ id = some (bk, c)) : R ρ (.fy id) (.v (.func (.yield bk) #[] #[]))
  | nf : R ρ .nf (.v .nilFunc)
  | x {t : TypeId} {a : AV} {v : Value} (h : R ρ a (.v v)) : R ρ (.x t a) (.v (.iface t v))
  | nx : R ρ .nx (.v .nilIface)
  | a {l : AV} {vs : List Value} (h : R ρ l (.l vs)) : R ρ (.a l) (.v (.agg ⟨vs⟩))
  | t {l : AV} {vs : List Value} (h : R ρ l (.l vs)) : R ρ (.t l) (.v (.tuple ⟨vs⟩))
  | nil : R ρ .nil (.l [])
  | cons {h t : AV} {v : Value} {vs : List Value} (h1 : R ρ h (.v v)) (h2 : R ρ t (.l vs)) : R ρ (.cons h t) (.l (v :: vs))
  | md {k : IntKind} {m r n : Nat} (h : n % m = r) : R ρ (.md k m r) (.v (.int k n))
  | fb {fn : FuncId} {l k : AV} {vs us : List Value} (h1 : R ρ l (.l vs)) (h2 : R ρ k (.l us)) : R ρ (.fb fn l k) (.v (.func (.func fn) ⟨vs⟩ ⟨us⟩))
theorem R.mono {ρ ρ' : Rn} {a : AV} {vs : VL} (h : R ρ a vs) (hl : ρ.le ρ') : R ρ' a vs := by
  induction h with
  | any h => exact .any h
  | b x => exact .b x
  | i k n => exact .i k n
  | s x => exact .s x
  | p h => exact .p (hl _ _ h)
  | np => exact .np
  | sl h hc => exact .sl (hl _ _ h) hc
  | gs h hc => exact .gs (hl _ _ h) hc
  | ns => exact .ns
  | m h => exact .m (hl _ _ h)
  | nm => exact .nm
  | f _ ih => exact .f ih
  | fy h => exact .fy (hl _ _ h)
  | nf => exact .nf
  | x _ ih => exact .x ih
  | nx => exact .nx
  | a _ ih => exact .a ih
  | t _ ih => exact .t ih
  | nil => exact .nil
  | cons _ _ h1 h2 => exact .cons h1 h2
  | md h => exact .md h
  | fb _ _ h1 h2 => exact .fb h1 h2

/-- values of one cell -/
def AV.sc : AV → Bool
  | .a _ | .t _ | .nil | .cons .. => false
  | _ => true
theorem R.one {ρ : Rn} {a : AV} {v : Value} (h : R ρ a (.v v)) (hs : a.sc = true) : v.oneCell' = true := by
  cases h <;> first
    | rfl
    | assumption
    | (simp [AV.sc] at hs; done)
/-- the cells of a value -/
def AV.cells : AV → AV
  | .a l => l
  | v => .cons v .nil
theorem R.cells {ρ : Rn} {a : AV} {v : Value} (h : R ρ a (.v v)) : R ρ a.cells (.l v.cells.toList) := by
  cases h with
  | a h => exact h
  | any h =>
    cases v <;> first
      | exact .cons (.any rfl) .nil
      | (simp [Value.oneCell'] at h; done)
  | _ => exact .cons (by constructor <;> assumption) .nil

/-! ## lists of values -/
noncomputable def AV.nth (l : AV) : Nat → Option AV :=
  AV.rec (motive := fun _ => Nat → Option AV) (fun _ => none) (fun _ _ => none) (fun _ _ _ => none) (fun _ _ => none) (fun _ _ _ => none) (fun _ => none) (fun _ _ _ _ _ => none) (fun _ _ _ => none) (fun _ => none) (fun _ _ => none)
    (fun _ => none) (fun _ _ _ _ => none) (fun _ _ => none) (fun _ => none) (fun _ _ _ _ => none) (fun _ => none) (fun _ _ _ => none) (fun _ _ _ => none) (fun _ => none)
    (fun h _ _ it k => Nat.rec (motive := fun _ => Option AV) (some h) (fun m _ => it m) k) (fun _ _ _ _ => none) (fun _ _ _ _ _ _ => none) l
theorem AV.nth_0 (h t : AV) : (AV.cons h t).nth 0 = some h := rfl
theorem AV.nth_s (h t : AV) (k : Nat) : (AV.cons h t).nth (k + 1) = t.nth k := rfl
theorem R.nth {ρ : Rn} {l : AV} {vs : List Value} (h : R ρ l (.l vs)) : ∀ {k : Nat} {a : AV}, l.nth k = some a → ∃ v, vs[k]? = some v ∧ R ρ a (.v v) := by
  generalize hx : VL.l vs = x at h
  induction h generalizing vs with
  | nil => intro k a e; cases e
  | cons h1 h2 _ ih =>
    intro k a e
    cases hx
    cases k with
    | zero => cases e; exact ⟨_, rfl, h1⟩
    | succ k =>
      obtain ⟨v, e1, e2⟩ := ih rfl (k := k) e
      exact ⟨v, by simpa using e1, e2⟩
  | _ => cases hx
noncomputable def AV.lng (l : AV) : Nat :=
  AV.rec (motive := fun _ => Nat) 0 (fun _ => 0) (fun _ _ => 0) (fun _ => 0) (fun _ _ => 0) 0 (fun _ _ _ _ => 0) (fun _ _ => 0) 0 (fun _ => 0)
    0 (fun _ _ _ => 0) (fun _ => 0) 0 (fun _ _ _ => 0) 0 (fun _ _ => 0) (fun _ _ => 0) 0
    (fun _ _ _ it => it + 1) (fun _ _ _ => 0) (fun _ _ _ _ _ => 0) l
theorem R.lng {ρ : Rn} {l : AV} {vs : List Value} (h : R ρ l (.l vs)) : vs.length = l.lng := by
  generalize hx : VL.l vs = x at h
  induction h generalizing vs with
  | nil => cases hx; rfl
  | cons h1 h2 _ ih => cases hx; exact congrArg (· + 1) (ih rfl)
  | _ => cases hx
/-- l ahead of k -/
noncomputable def AV.app (l k : AV) : AV :=
  AV.rec (motive := fun _ => AV) k (fun _ => k) (fun _ _ => k) (fun _ => k) (fun _ _ => k) k (fun _ _ _ _ => k) (fun _ _ => k) k (fun _ => k)
    k (fun _ _ _ => k) (fun _ => k) k (fun _ _ _ => k) k (fun _ _ => k) (fun _ _ => k) k
    (fun h _ _ it => .cons h it) (fun _ _ _ => k) (fun _ _ _ _ _ => k) l
theorem R.app {ρ : Rn} {l k : AV} {vs us : List Value} (h : R ρ l (.l vs)) (hk : R ρ k (.l us)) : R ρ (l.app k) (.l (vs ++ us)) := by
  generalize hx : VL.l vs = x at h
  induction h generalizing vs with
  | nil => cases hx; exact hk
  | cons h1 h2 _ ih => cases hx; exact .cons h1 (ih rfl)
  | _ => cases hx
/-- every other one -/
noncomputable def AV.alt (l : AV) : Bool → AV :=
  AV.rec (motive := fun _ => Bool → AV) (fun _ => .nil) (fun _ _ => .nil) (fun _ _ _ => .nil) (fun _ _ => .nil) (fun _ _ _ => .nil) (fun _ => .nil) (fun _ _ _ _ _ => .nil) (fun _ _ _ => .nil) (fun _ => .nil) (fun _ _ => .nil)
    (fun _ => .nil) (fun _ _ _ _ => .nil) (fun _ _ => .nil) (fun _ => .nil) (fun _ _ _ _ => .nil) (fun _ => .nil) (fun _ _ _ => .nil) (fun _ _ _ => .nil) (fun _ => .nil)
    (fun h _ _ it b => Bool.rec (motive := fun _ => AV) (it true) (.cons h (it false)) b) (fun _ _ _ _ => .nil) (fun _ _ _ _ _ _ => .nil) l
theorem AV.alt_nth (l : AV) : ∀ (b : Bool) (k : Nat) (a : AV), (l.alt b).nth k = some a → l.nth (2 * k + (if b then 0 else 1)) = some a := by
  induction l with
  | cons h t _ it =>
    intro b k a e
    cases b with
    | false =>
      have := it true k a e
      rw [if_neg (by simp), AV.nth_s]
      simpa using this
    | true =>
      cases k with
      | zero => exact e
      | succ k =>
        have := it false k a e
        rw [if_neg (by simp)] at this
        rw [if_pos rfl, show 2 * (k + 1) + 0 = (2 * k + 1) + 1 by omega, AV.nth_s]
        exact this
  | _ => intro b k a e; cases e
/-- a list as a table -/
noncomputable def AV.tab (l : AV) (f : Nat) : Tr AV :=
  Nat.rec (motive := fun _ => AV → Tr AV) (fun _ => .e)
    (fun _ ih l => AV.rec (motive := fun _ => Tr AV) .e (fun _ => .e) (fun _ _ => .e) (fun _ => .e) (fun _ _ => .e) .e (fun _ _ _ _ => .e) (fun _ _ => .e) .e (fun _ => .e)
    .e (fun _ _ _ => .e) (fun _ => .e) .e (fun _ _ _ => .e) .e (fun _ _ => .e) (fun _ _ => .e) .e
    (fun h t _ _ => .n (ih (t.alt true)) (ih (t.alt false)) (some h)) (fun _ _ _ => .e) (fun _ _ _ _ _ => .e) l) f l
theorem tab_get : ∀ (f : Nat) (l : AV) (k : Nat) (a : AV), (l.tab f).get k = some a → l.nth k = some a
  | 0, l, k, c, h => by cases h
  | f + 1, l, k, c, h => by
    cases l <;> first
      | (cases h; done)
      | skip
    rename_i hd t
    change (Tr.n (AV.tab (t.alt true) f) (AV.tab (t.alt false) f) (some hd)).get k = some c at h
    cases k with
    | zero => exact h
    | succ k =>
      rw [AV.nth_s]
      cases e : ev k
      · rw [Tr.get_r _ _ _ e] at h
        have := AV.alt_nth _ _ _ _ (tab_get f _ _ _ h)
        rw [if_neg (by simp)] at this
        have e2 := ev_false e
        rwa [show 2 * (k / 2) + 1 = k by omega] at this
      · rw [Tr.get_l _ _ _ e] at h
        have := AV.alt_nth _ _ _ _ (tab_get f _ _ _ h)
        rw [if_pos rfl] at this
        have e2 := ev_true e
        rwa [show 2 * (k / 2) + 0 = k by omega] at this
/-- n cells of a table, from o on -/
noncomputable def Tr.row (u : Tr AV) (n o : Nat) : Option AV :=
  Nat.rec (motive := fun _ => Nat → Option AV) (fun _ => some .nil) (fun _ ih o => ob (u.get o) fun a => ob (fN (o + 1) ih) fun l => some (.cons a l)) n o
theorem Tr.row_0 (u : Tr AV) (o : Nat) : u.row 0 o = some .nil := rfl
theorem Tr.row_s (u : Tr AV) (n o : Nat) : u.row (n + 1) o = ob (u.get o) fun a => ob (u.row n (o + 1)) fun l => some (.cons a l) := by
  show (ob (u.get o) fun a => ob (fN (o + 1) fun x => u.row n x) fun l => some (AV.cons a l)) = _
  rw [fN_eq]
/-- all of one cell -/
noncomputable def AV.scs (l : AV) : Bool :=
  AV.rec (motive := fun _ => Bool) false (fun _ => false) (fun _ _ => false) (fun _ => false) (fun _ _ => false) false (fun _ _ _ _ => false) (fun _ _ => false) false (fun _ => false)
    false (fun _ _ _ => false) (fun _ => false) false (fun _ _ _ => false) false (fun _ _ => false) (fun _ _ => false) true
    (fun h _ _ it => Bool.rec (motive := fun _ => Bool) false it h.sc) (fun _ _ _ => false) (fun _ _ _ _ _ => false) l
theorem AV.scs_cons {h t : AV} (e : (AV.cons h t).scs = true) : h.sc = true ∧ t.scs = true := by
  change Bool.rec (motive := fun _ => Bool) false t.scs h.sc = true at e
  cases hs : h.sc <;> rw [hs] at e
  · cases e
  · exact ⟨rfl, e⟩

end Go.Proofs.YthlphddehdjfjaaGreatDoor
