/- QuotaPlays: a quota and its reference in one state, nil let in. -/
import Derived.Test.YtmpfhfabmcpiaaaQrA
import Derived.Test.YtmpfhfabmcpiaaaQwhole
namespace Go.Proofs.Ytmpfhfabmcpiaaa
open Go.RowKit

/-- the program's quota in a state: none: nil -/
def QS (w : World) (p : Option Addr) (m : Int) (s : Option (Option Int)) : Prop :=
  (s = none ∧ p = none) ∨ ∃ b c, s = some c ∧ p = some ⟨b, 0, none⟩ ∧ 0 < m ∧ QtAt w b m c
def RS (w : World) (p : Option Addr) (m : Int) (s : Option (Option Int)) : Prop :=
  (s = none ∧ p = none) ∨ ∃ b c, s = some c ∧ p = some ⟨b, 0, none⟩ ∧ RfAt w b m c
/-- the blocks that a call may change -/
def At (p : Option Addr) (y : Nat) : Prop := p = some ⟨y, 0, none⟩

def QSlow (w : World) (p : Option Addr) (m : Int) (s : Option (Option Int)) (N : Nat) : Prop :=
  (s = none ∧ p = none) ∨ ∃ b c p', s = some c ∧ p = some ⟨b, 0, none⟩ ∧ 0 < m ∧ b < N ∧ w.heap[b]? = some (.cells #[.int .i64 m, .pointer p'] 50) ∧
    ((c = none ∧ p' = none) ∨ ∃ x n, c = some n ∧ p' = some ⟨x, 0, none⟩ ∧ x ≠ b ∧ x < N ∧ w.heap[x]? = some (.cells #[.int .i64 n] 3))
def RSlow (w : World) (p : Option Addr) (m : Int) (s : Option (Option Int)) (N : Nat) : Prop :=
  (s = none ∧ p = none) ∨ ∃ b c, s = some c ∧ p = some ⟨b, 0, none⟩ ∧ b < N ∧ RfAt w b m c

theorem QS.low {w : World} {p : Option Addr} {m : Int} {s : Option (Option Int)} (h : QS w p m s) : QSlow w p m s w.heap.size := by
  rcases h with h | ⟨b, c, rfl, rfl, hm, p', h1, h2⟩
  · exact .inl h
  · refine .inr ⟨b, c, p', rfl, rfl, hm, lt_block h1, h1, ?_⟩
    rcases h2 with h2 | ⟨x, n, h2, h3, h4, h5⟩
    · exact .inl h2
    · exact .inr ⟨x, n, h2, h3, h4, lt_block h5, h5⟩
theorem RS.low {w : World} {p : Option Addr} {m : Int} {s : Option (Option Int)} (h : RS w p m s) : RSlow w p m s w.heap.size := by
  rcases h with h | ⟨b, c, rfl, rfl, h1⟩
  · exact .inl h
  · exact .inr ⟨b, c, rfl, rfl, h1.lt, h1⟩
theorem QSlow.qs {w : World} {p : Option Addr} {m : Int} {s : Option (Option Int)} {N : Nat} (h : QSlow w p m s N) : QS w p m s := by
  rcases h with h | ⟨b, c, p', rfl, rfl, hm, _, h1, h2⟩
  · exact .inl h
  · refine .inr ⟨b, c, rfl, rfl, hm, p', h1, ?_⟩
    rcases h2 with h2 | ⟨x, n, h2, h3, h4, _, h5⟩
    · exact .inl h2
    · exact .inr ⟨x, n, h2, h3, h4, h5⟩
theorem RSlow.rs {w : World} {p : Option Addr} {m : Int} {s : Option (Option Int)} {N : Nat} (h : RSlow w p m s N) : RS w p m s := by
  rcases h with h | ⟨b, c, rfl, rfl, _, h1⟩
  · exact .inl h
  · exact .inr ⟨b, c, rfl, rfl, h1⟩
theorem QSlow.keeps {w w' : World} {p : Option Addr} {m : Int} {s : Option (Option Int)} {N : Nat} {S : Nat → Prop} (h : QSlow w p m s N) (hk : Keeps S w w') (hS : ∀ y, S y → N ≤ y) : QSlow w' p m s N := by
  rcases h with h | ⟨b, c, p', rfl, rfl, hm, hb, h1, h2⟩
  · exact .inl h
  · refine .inr ⟨b, c, p', rfl, rfl, hm, hb, by rw [hk.block b (lt_block h1) (fun x => by have := hS _ x; omega)]; exact h1, ?_⟩
    rcases h2 with h2 | ⟨x, n, h2, h3, h4, h6, h5⟩
    · exact .inl h2
    · exact .inr ⟨x, n, h2, h3, h4, h6, by rw [hk.block x (lt_block h5) (fun y => by have := hS _ y; omega)]; exact h5⟩
theorem RSlow.keeps {w w' : World} {p : Option Addr} {m : Int} {s : Option (Option Int)} {N : Nat} {S : Nat → Prop} (h : RSlow w p m s N) (hk : Keeps S w w') (hS : ∀ y, S y → N ≤ y) : RSlow w' p m s N := by
  rcases h with h | ⟨b, c, rfl, rfl, hb, h1⟩
  · exact .inl h
  · exact .inr ⟨b, c, rfl, rfl, hb, h1.keeps hk (fun x => by have := hS _ x; omega)⟩

theorem QS.lt {w : World} {p : Option Addr} {m : Int} {s : Option (Option Int)} (h : QS w p m s) (y : Nat) (hy : At p y) : y < w.heap.size := by
  rcases h with ⟨_, rfl⟩ | ⟨b, c, rfl, rfl, hm, h1⟩
  · cases hy
  · cases hy; exact h1.lt
theorem RS.lt {w : World} {p : Option Addr} {m : Int} {s : Option (Option Int)} (h : RS w p m s) (y : Nat) (hy : At p y) : y < w.heap.size := by
  rcases h with ⟨_, rfl⟩ | ⟨b, c, rfl, rfl, h1⟩
  · cases hy
  · cases hy; exact h1.lt

/-- the two texts' blocks are never one -/
theorem QS.apart {w w' : World} {p q : Option Addr} {m : Int} {s t : Option (Option Int)} (h : QS w p m s) (hr : RS w q m t) (hk : Keeps (At q) w w') : QS w' p m s := by
  rcases h with h | ⟨b, c, rfl, rfl, hm, p', h1, h2⟩
  · exact .inl h
  have hne : ∀ y o, At q y → w.heap[y]? = some o → ∃ i j, o = .cells #[.bool true, .int .i64 i, .int .i64 j] 59 := by
    intro y o hy ho
    rcases hr with ⟨_, rfl⟩ | ⟨b', c', _, rfl, h3⟩
    · cases hy
    · cases hy
      have := h3.1
      rw [ho] at this
      exact ⟨_, _, Option.some.inj this⟩
  refine .inr ⟨b, c, rfl, rfl, hm, p', ?_, ?_⟩
  · rw [hk.block b (lt_block h1) (fun hy => by obtain ⟨i, j, he⟩ := hne b _ hy h1; simp at he)]; exact h1
  · rcases h2 with h2 | ⟨x, n, h2, h3, h4, h5⟩
    · exact .inl h2
    · exact .inr ⟨x, n, h2, h3, h4, by rw [hk.block x (lt_block h5) (fun hy => by obtain ⟨i, j, he⟩ := hne x _ hy h5; simp at he)]; exact h5⟩

theorem RS.apart {w w' : World} {p q : Option Addr} {m : Int} {s t : Option (Option Int)} (h : RS w p m s) (hr : QS w q m t) (hk : Keeps (At q) w w') : RS w' p m s := by
  rcases h with h | ⟨b, c, rfl, rfl, h1⟩
  · exact .inl h
  · refine .inr ⟨b, c, rfl, rfl, h1.keeps hk (fun hy => ?_)⟩
    rcases hr with ⟨_, rfl⟩ | ⟨b', c', _, rfl, _, p', h3, _⟩
    · cases hy
    · cases hy
      have := h1.1
      rw [h3] at this
      simp at this

theorem QS.same {w w' : World} {p : Option Addr} {m : Int} {s : Option (Option Int)} (h : QS w p m s) (hk : Keeps (fun _ => False) w w') : QS w' p m s := by
  rcases h with h | ⟨b, c, rfl, rfl, hm, h1⟩
  · exact .inl h
  · exact .inr ⟨b, c, rfl, rfl, hm, h1.keeps hk⟩
theorem RS.same {w w' : World} {p : Option Addr} {m : Int} {s : Option (Option Int)} (h : RS w p m s) (hk : Keeps (fun _ => False) w w') : RS w' p m s := by
  rcases h with h | ⟨b, c, rfl, rfl, h1⟩
  · exact .inl h
  · exact .inr ⟨b, c, rfl, rfl, h1.keeps hk (fun h => h)⟩

def askS (m u g n : Int) (s : Option (Option Int)) : Int × Option (Option Int) := match s with | none => (1, none) | some c => ((askR m u g n c).1, some (askR m u g n c).2)
def easedS (m u : Int) (s : Option (Option Int)) : Option (Option Int) := s.map fun c => if 0 ≤ u ∧ u < m then none else c
def hitN (s : Option (Option Int)) : Int := match s with | none => 0 | some c => cycN c
def hitB (s : Option (Option Int)) : Bool := match s with | none => false | some c => c.isSome
def mostS (m : Int) (s : Option (Option Int)) : Int := match s with | none => 0 | some _ => m

theorem cycN_getD (c : Option Int) : c.getD 0 = cycN c := by cases c <;> rfl

section
variable (p : Option Addr) (m u g n : Int) (s : Option (Option Int)) (w : World)

theorem ask_s (h : QS w p m s) : Calls Try.prog 11 #[.pointer p, .int .i64 u, .int .i64 g, .int .i64 n] w fun e w' => e = .returned (.int .i64 (askS m u g n s).1) ∧ Keeps (At p) w w' ∧ QS w' p m (askS m u g n s).2 := by
  rcases h with ⟨rfl, rfl⟩ | ⟨b, c, rfl, rfl, hm, h⟩
  · refine (ask_bad none false u g n w (.inl ⟨rfl, rfl⟩) 1 rfl (.inl rfl)).mono ?_
    rintro e w' ⟨rfl, hk⟩
    exact ⟨rfl, hk.mono (fun _ _ h => h.elim), .inl ⟨rfl, rfl⟩⟩
  · refine (ask_step b m u g n c _ _ w h hm rfl).mono ?_
    rintro e w' ⟨rfl, hk, h'⟩
    exact ⟨rfl, hk.mono (fun _ _ h => by subst h; rfl), .inr ⟨b, _, rfl, rfl, hm, h'⟩⟩

theorem rask_s (h : RS w p m s) : Calls Try.prog 16 #[.pointer p, .int .i64 u, .int .i64 g, .int .i64 n] w fun e w' => e = .returned (.int .i64 (askS m u g n s).1) ∧ Keeps (At p) w w' ∧ RS w' p m (askS m u g n s).2 := by
  rcases h with ⟨rfl, rfl⟩ | ⟨b, c, rfl, rfl, h⟩
  · refine (rask_nil u g n w).mono ?_
    rintro e w' ⟨rfl, rfl⟩
    exact ⟨rfl, Keeps.refl _ _, .inl ⟨rfl, rfl⟩⟩
  · refine (rask_step b m u g n c _ _ w h rfl).mono ?_
    rintro e w' ⟨rfl, hk, h'⟩
    exact ⟨rfl, hk.mono (fun _ _ h => by subst h; rfl), .inr ⟨b, _, rfl, rfl, h'⟩⟩

theorem eased_s (h : QS w p m s) : Calls Try.prog 10 #[.pointer p, .int .i64 u] w fun e w' => e = .returned (.tuple #[]) ∧ Keeps (At p) w w' ∧ QS w' p m (easedS m u s) := by
  rcases h with ⟨rfl, rfl⟩ | ⟨b, c, rfl, rfl, hm, h⟩
  · refine (eased_same none false u w (.inl ⟨rfl, rfl⟩) (.inl rfl)).mono ?_
    rintro e w' ⟨rfl, rfl⟩
    exact ⟨rfl, Keeps.refl _ _, .inl ⟨rfl, rfl⟩⟩
  · refine (eased_step b m u c _ w h hm rfl).mono ?_
    rintro e w' ⟨rfl, hk, h'⟩
    exact ⟨rfl, hk.mono (fun _ _ h => by subst h; rfl), .inr ⟨b, _, rfl, rfl, hm, h'⟩⟩

theorem reased_s (h : RS w p m s) : Calls Try.prog 17 #[.pointer p, .int .i64 u] w fun e w' => e = .returned (.tuple #[]) ∧ Keeps (At p) w w' ∧ RS w' p m (easedS m u s) := by
  rcases h with ⟨rfl, rfl⟩ | ⟨b, c, rfl, rfl, h⟩
  · refine (reased_nil u w).mono ?_
    rintro e w' ⟨rfl, rfl⟩
    exact ⟨rfl, Keeps.refl _ _, .inl ⟨rfl, rfl⟩⟩
  · refine (reased_step b m u c _ w h rfl).mono ?_
    rintro e w' ⟨rfl, hk, h'⟩
    exact ⟨rfl, hk.mono (fun _ _ h => by subst h; rfl), .inr ⟨b, _, rfl, rfl, h'⟩⟩

theorem hit_s (h : QS w p m s) : Calls Try.prog 12 #[.pointer p] w fun e w' => e = .returned (.tuple #[.int .i64 (hitN s), .bool (hitB s)]) ∧ w' = w := by
  rcases h with ⟨rfl, rfl⟩ | ⟨b, c, rfl, rfl, hm, h⟩
  · exact hit_nil none w (.inl ⟨rfl, rfl⟩)
  · refine (hit_is b m c w h hm).mono ?_
    rintro e w' ⟨rfl, rfl⟩
    rw [cycN_getD]
    exact ⟨rfl, rfl⟩

theorem rhit_s (h : RS w p m s) : Calls Try.prog 20 #[.pointer p] w fun e w' => e = .returned (.tuple #[.int .i64 (hitN s), .bool (hitB s)]) ∧ w' = w := by
  rcases h with ⟨rfl, rfl⟩ | ⟨b, c, rfl, rfl, h⟩
  · exact rhit_nil w
  · exact rhit_ok b m c w h

theorem most_s (h : QS w p m s) : Calls Try.prog 14 #[.pointer p] w fun e w' => e = .returned (.int .i64 (mostS m s)) ∧ w' = w := by
  rcases h with ⟨rfl, rfl⟩ | ⟨b, c, rfl, rfl, hm, h⟩
  · exact most_nil none w (.inl ⟨rfl, rfl⟩)
  · exact most_ok b m c w h hm

theorem rmost_s (h : RS w p m s) : Calls Try.prog 21 #[.pointer p] w fun e w' => e = .returned (.int .i64 (mostS m s)) ∧ w' = w := by
  rcases h with ⟨rfl, rfl⟩ | ⟨b, c, rfl, rfl, h⟩
  · exact rmost_nil w
  · exact rmost_ok b m c w h

theorem copy_s (h : QS w p m s) : Calls Try.prog 18 #[.pointer p] w fun e w' => ∃ p', e = .returned (.pointer p') ∧ Keeps (fun _ => False) w w' ∧ QS w' p' m s ∧ ∀ y, At p' y → w.heap.size ≤ y := by
  rcases h with ⟨rfl, rfl⟩ | ⟨b, c, rfl, rfl, hm, h⟩
  · refine (copy_nil none w (.inl ⟨rfl, rfl⟩)).mono ?_
    rintro e w' ⟨rfl, rfl⟩
    exact ⟨_, rfl, Keeps.refl _ _, .inl ⟨rfl, rfl⟩, fun y hy => by cases hy⟩
  · refine (copy_ok b m c w h hm).mono ?_
    rintro e w' ⟨rfl, hk, h'⟩
    exact ⟨_, rfl, hk, .inr ⟨_, c, rfl, rfl, hm, h'⟩, fun y hy => by cases hy; exact Nat.le_refl _⟩

theorem rcopy_s (h : RS w p m s) : Calls Try.prog 19 #[.pointer p] w fun e w' => ∃ p', e = .returned (.pointer p') ∧ Keeps (fun _ => False) w w' ∧ RS w' p' m s ∧ ∀ y, At p' y → w.heap.size ≤ y := by
  rcases h with ⟨rfl, rfl⟩ | ⟨b, c, rfl, rfl, h⟩
  · refine (rcopy_nil w).mono ?_
    rintro e w' ⟨rfl, rfl⟩
    exact ⟨_, rfl, Keeps.refl _ _, .inl ⟨rfl, rfl⟩, fun y hy => by cases hy⟩
  · refine (rcopy_ok b m c w h).mono ?_
    rintro e w' ⟨rfl, hk, h'⟩
    exact ⟨_, rfl, hk, .inr ⟨_, c, rfl, rfl, h'⟩, fun y hy => by cases hy; exact Nat.le_refl _⟩

end

end Go.Proofs.Ytmpfhfabmcpiaaa
