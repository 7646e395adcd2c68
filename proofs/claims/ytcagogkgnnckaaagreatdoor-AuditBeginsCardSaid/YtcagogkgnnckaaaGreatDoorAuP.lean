/- Audits of lists of attempts: plain laws, with no program in sight. -/
import Derived.Test.YtcagogkgnnckaaaGreatDoorMgA
namespace Go.Proofs.YtcagogkgnnckaaaGreatDoor
set_option linter.unusedVariables false

/-- a resource of the outer world: kind, number, generation -/
abbrev Ou := Int × Int × Int
/-- an attempt: when, of what, why, and what was answered -/
structure At where
  t : Int
  o : Ou
  y : Int
  s : Int
/-- an attempt that is possible -/
def At.ok (a : At) : Bool := decide (0 ≤ a.t ∧ a.t ≤ 1099511627776 ∧ 1 ≤ a.o.1 ∧ a.o.1 ≤ 3 ∧ 0 ≤ a.o.2.1 ∧ a.o.2.1 < 64 ∧ a.o.2.2 ≠ 0 ∧ 1 ≤ a.y ∧ a.y ≤ 3 ∧ 1 ≤ a.s ∧ a.s ≤ 3)

section
variable {σ : Type} (f : σ → At → Bool × σ)
/-- the state behind a list -/
def sta (s : σ) (l : List At) : σ := l.foldl (fun s a => (f s a).2) s
/-- the first attempt that is not right -/
def runs : σ → List At → Nat → Option Nat
  | _, [], _ => none
  | s, a :: l, i => bif (f s a).1 then runs (f s a).2 l (i + 1) else some i
theorem runs_append (m : List At) : ∀ (l : List At) (s : σ) (i : Nat), runs f s (l ++ m) i = (match runs f s l i with | some k => some k | none => runs f (sta f s l) m (i + l.length))
  | [], s, i => by simp [runs, sta]
  | a :: l, s, i => by
    simp only [List.cons_append, runs]
    cases (f s a).1 with
    | false => rfl
    | true =>
      simp only [cond_true]
      rw [runs_append m l, show i + (a :: l).length = i + 1 + l.length by simp; omega]
      rfl
theorem runs_le : ∀ (l : List At) (s : σ) (i k : Nat), runs f s l i = some k → i ≤ k ∧ k < i + l.length
  | [], s, i, k, h => by cases h
  | a :: l, s, i, k, h => by
    simp only [runs] at h
    cases hc : (f s a).1 with
    | false => rw [hc] at h; cases h; exact ⟨Nat.le_refl _, by simp⟩
    | true => rw [hc] at h; have := runs_le l _ _ _ h; simp; omega
/-- what holds for the first attempts, or does not, as for all of them -/
theorem runs_take (l : List At) (s : σ) (k : Nat) : runs f s (l.take k) 0 = (match runs f s l 0 with | some j => if j < k then some j else none | none => none) := by
  have h := runs_append f (l.drop k) (l.take k) s 0
  rw [List.take_append_drop] at h
  rw [h]
  cases h1 : runs f s (l.take k) 0 with
  | some j =>
    have := (runs_le f _ _ _ _ h1).2
    simp at this
    simp [show j < k by omega]
  | none =>
    simp only
    cases h2 : runs f (sta f s (l.take k)) (l.drop k) (0 + (l.take k).length) with
    | none => rfl
    | some j =>
      obtain ⟨h3, h4⟩ := runs_le f _ _ _ _ h2
      simp at h3 h4
      simp [show ¬ j < k by omega]
theorem runs_bad {l : List At} {s : σ} {j : Nat} {a : At} (hj : l[j]? = some a) (h : runs f s (l.take j) 0 = none) (hb : (f (sta f s (l.take j)) a).1 = false) : runs f s l 0 = some j := by
  obtain ⟨hj1, hj2⟩ := List.getElem?_eq_some_iff.1 hj
  have e : l = l.take j ++ a :: l.drop (j + 1) := by rw [← hj2, ← List.drop_eq_getElem_cons hj1, List.take_append_drop]
  rw [e, runs_append f, h]
  simp only [runs, hb, cond_false]
  simp [Nat.min_eq_left (Nat.le_of_lt hj1)]
theorem runs_good {l : List At} {s : σ} {j : Nat} {a : At} (hj : l[j]? = some a) (h : runs f s (l.take j) 0 = none) (hb : (f (sta f s (l.take j)) a).1 = true) : runs f s (l.take (j + 1)) 0 = none ∧ sta f s (l.take (j + 1)) = (f (sta f s (l.take j)) a).2 := by
  have e : l.take (j + 1) = l.take j ++ [a] := by rw [List.take_add_one, hj]; rfl
  rw [e]
  refine ⟨?_, by simp [sta]⟩
  rw [runs_append f, h]
  simp only [runs, hb, cond_true]
theorem runs_all {l : List At} {s : σ} {j : Nat} (hj : l.length ≤ j) (h : runs f s (l.take j) 0 = none) : runs f s l 0 = none := by
  rwa [List.take_of_length_le hj] at h
end

/-! what the four questions look at -/
def onceF (s : Ou → Bool) (a : At) : Bool × (Ou → Bool) := bif a.s == 1 then (!s a.o, fun x => decide (x = a.o) || s x) else (true, s)
def endF (s : Ou → Bool) (a : At) : Bool × (Ou → Bool) := (!s a.o, fun x => if x = a.o then s a.o || !(a.s == 2) else s x)
def steadyF (s : (Ou → Option Int) × Int) (a : At) : Bool × (Ou → Option Int) × Int :=
  bif decide (a.t < s.2) || (match s.1 a.o with | some y => !(y == a.y) | none => false) then (false, s) else (true, fun x => if x = a.o then some a.y else s.1 x, a.t)
/-- the wait behind so many refusals -/
def waitN (base cap : Int) : Nat → Int
  | 0 => base
  | n + 1 => min (2 * waitN base cap n) cap
def waitV (base cap : Int) (n : Int) : Option Int := if 1 ≤ n ∧ n ≤ 64 ∧ 1 ≤ base ∧ base ≤ cap ∧ cap ≤ 1048576 then some (waitN base cap (n - 1).toNat) else none
/-- the last attempt for a resource -/
structure Tn where
  at' : Int
  n : Int
  w : Bool
def spacedF (base cap : Int) (s : Ou → Tn) (a : At) : Bool × (Ou → Tn) :=
  bif (s a.o).w && (match waitV base cap (min (s a.o).n 64) with | some w => decide (a.t < (s a.o).at' + w) | none => true) then (false, s)
  else (true, fun x => if x = a.o then ⟨a.t, if a.s = 2 then (s a.o).n + 1 else (s a.o).n, a.s == 2⟩ else s x)

/-- where no attempt follows an end, no resource is released twice -/
theorem ended_once : ∀ (l : List At) (s u : Ou → Bool) (i : Nat), (∀ x, u x = true → s x = true) → runs endF s l i = none → runs onceF u l i = none
  | [], s, u, i, h, h1 => rfl
  | a :: l, s, u, i, h, h1 => by
    simp only [runs] at h1 ⊢
    cases hs : s a.o with
    | true => simp [endF, hs] at h1
    | false =>
      have hu : u a.o = false := by
        cases hc : u a.o with
        | false => rfl
        | true => rw [h _ hc] at hs; cases hs
      simp only [endF, hs] at h1
      simp only [Bool.not_false, cond_true, Bool.false_or] at h1
      by_cases hk : a.s = 1
      · simp only [onceF, hk, beq_self_eq_true, cond_true, hu, Bool.not_false]
        refine ended_once l _ _ _ ?_ h1
        intro x hx
        by_cases e : x = a.o
        · simp [e, hk]
        · simp [e] at hx ⊢
          exact h x hx
      · simp only [onceF, show (a.s == 1) = false by simp [hk], cond_false, cond_true]
        refine ended_once l _ _ _ ?_ h1
        intro x hx
        by_cases e : x = a.o
        · rw [e, hu] at hx; cases hx
        · simp [e]; exact h x hx
end Go.Proofs.YtcagogkgnnckaaaGreatDoor
