/- Attempts by numbers (plain). -/
import Derived.Test.YtcagogkgnnckaaaGreatDoorAuP
namespace Go.Proofs.YtcagogkgnnckaaaGreatDoor
set_option linter.unusedVariables false

/-- an attempt by numbers: which file, ticks, why, answer -/
structure Ty where
  w : Nat
  k : Nat
  y : Nat
  s : Nat
def ansN (k : Nat) : Int := match k with | 0 => 2 | 1 => 2 | 2 => 1 | _ => 3
def Ty.att (x : Ty) (t : Int) : At := ⟨t + (x.k % 16 : Nat), (1, (x.w % 6 : Nat), 1), 1 + (x.y % 3 : Nat), ansN (x.s % 4)⟩
def triF (p : Int × List At) (x : Ty) : Int × List At := ((x.att p.1).t, p.2 ++ [x.att p.1])
def triL (l : List Ty) : Int × List At := l.foldl triF (0, [])
theorem triL_succ {l : List Ty} {i : Nat} {x : Ty} (h : l[i]? = some x) : triL (l.take (i + 1)) = ((x.att (triL (l.take i)).1).t, (triL (l.take i)).2 ++ [x.att (triL (l.take i)).1]) := by
  have e : l.take (i + 1) = l.take i ++ [x] := by rw [List.take_add_one, h]; rfl
  rw [e]; unfold triL; rw [List.foldl_append]; rfl
theorem ansN_in (k : Nat) : 1 ≤ ansN k ∧ ansN k ≤ 3 := by
  unfold ansN
  match k with
  | 0 => exact ⟨by decide, by decide⟩
  | 1 => exact ⟨by decide, by decide⟩
  | 2 => exact ⟨by decide, by decide⟩
  | n + 3 => exact ⟨by show (1 : Int) ≤ 3; decide, by show (3 : Int) ≤ 3; decide⟩
theorem tri_fold : ∀ (l : List Ty) (p : Int × List At), 0 ≤ p.1 → p.1 ≤ 15 * (p.2.length : Int) → (∀ a ∈ p.2, a.o.2.2 = 1 ∧ a.t ≤ 15 * (p.2.length : Int) ∧ 0 ≤ a.t ∧ a.o.1 = 1 ∧ 0 ≤ a.o.2.1 ∧ a.o.2.1 < 6 ∧ 1 ≤ a.y ∧ a.y ≤ 3 ∧ 1 ≤ a.s ∧ a.s ≤ 3) →
    (0 ≤ (l.foldl triF p).1 ∧ (l.foldl triF p).1 ≤ 15 * ((l.foldl triF p).2.length : Int) ∧ (l.foldl triF p).2.length = p.2.length + l.length ∧ ∀ a ∈ (l.foldl triF p).2, a.o.2.2 = 1 ∧ a.t ≤ 15 * ((l.foldl triF p).2.length : Int) ∧ 0 ≤ a.t ∧ a.o.1 = 1 ∧ 0 ≤ a.o.2.1 ∧ a.o.2.1 < 6 ∧ 1 ≤ a.y ∧ a.y ≤ 3 ∧ 1 ≤ a.s ∧ a.s ≤ 3)
  | [], p, h1, h2, h3 => ⟨h1, h2, rfl, h3⟩
  | x :: l, p, h1, h2, h3 => by
    have hlen : ((triF p x).2.length : Int) = p.2.length + 1 := by simp [triF]
    have h := tri_fold l (triF p x) (by dsimp only [triF, Ty.att]; omega) (by rw [hlen]; dsimp only [triF, Ty.att]; omega) (by
      intro a ha
      rw [hlen]
      simp only [triF, List.mem_append, List.mem_singleton] at ha
      rcases ha with ha | rfl
      · have := h3 a ha; omega
      · have := ansN_in (x.s % 4)
        dsimp only [Ty.att]
        omega)
    simp only [List.foldl_cons]
    refine ⟨h.1, h.2.1, ?_, h.2.2.2⟩
    rw [h.2.2.1]
    simp [triF]; omega
/-- the attempts that numbers name are possible -/
theorem tri_ok {l : List Ty} (hl : l.length ≤ 80) : 0 ≤ (triL l).1 ∧ (triL l).1 ≤ 1200 ∧ (triL l).2.length = l.length ∧ (∀ a ∈ (triL l).2, a.ok = true ∧ a.o.2.2 = 1) := by
  obtain ⟨h1, h2, h3, h4⟩ := tri_fold l (0, []) (by decide) (by decide) (by simp)
  have h3' : (triL l).2.length = l.length := by unfold triL; rw [h3]; simp
  refine ⟨h1, by unfold triL at h3' ⊢; omega, h3', fun a ha => ?_⟩
  have := h4 a ha
  refine ⟨?_, this.1⟩
  unfold At.ok
  rw [decide_eq_true_eq]
  unfold triL at h3'
  omega
theorem At.ok_len {l : List Ty} {i : Nat} (h : l.length ≤ 80) : (l.take i).length ≤ 80 := by simp; omega
end Go.Proofs.YtcagogkgnnckaaaGreatDoor
