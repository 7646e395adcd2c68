/- AuditBegins: its arguments. -/
import Derived.Test.YtcagogkgnnckaaaGreatDoorAuL
import Derived.Test.YtcagogkgnnckaaaGreatDoorCgA
namespace Go.Proofs.YtcagogkgnnckaaaGreatDoor
open Go.RowKit

theorem u8_lt {x : Int} (h : (Lit.int .u8 x).wf = true) : ∃ k : Nat, x = k ∧ k < 256 := by
  have e1 : IntKind.u8.min = 0 := by decide
  have e2 : IntKind.u8.max = 255 := by decide
  simp [Lit.wf, e1, e2] at h
  exact ⟨x.toNat, by omega, by omega⟩
def ksTry : List Flat := [.int .u8, .int .u8, .int .u8, .int .u8]
theorem tycell_of {w : World} {b o : Nat} (h : CellsAt w b o ksTry) : ∃ x : Ty, TyCell w b o x ∧ (x.w < 256 ∧ x.k < 256 ∧ x.y < 256 ∧ x.s < 256) := by
  obtain ⟨_, h0, x0, rfl, k0⟩ := h 0 _ rfl
  obtain ⟨_, h1, x1, rfl, k1⟩ := h 1 _ rfl
  obtain ⟨_, h2, x2, rfl, k2⟩ := h 2 _ rfl
  obtain ⟨_, h3, x3, rfl, k3⟩ := h 3 _ rfl
  obtain ⟨y0, rfl, l0⟩ := u8_lt k0
  obtain ⟨y1, rfl, l1⟩ := u8_lt k1
  obtain ⟨y2, rfl, l2⟩ := u8_lt k2
  obtain ⟨y3, rfl, l3⟩ := u8_lt k3
  exact ⟨⟨y0, y1, y2, y3⟩, ⟨h0, h1, h2, h3⟩, l0, l1, l2, l3⟩
theorem tyrow_of {w : World} {a : Option Addr} {len cap : Nat} (h1 : len ≤ cap) (h2 : cap ≤ maxLen) (h : len = 0 ∨ ∃ b off, a = some ⟨b, off, none⟩ ∧ b < w.heap.size ∧ ∀ i, i < len → CellsAt w b (off + i * ksTry.length) ksTry) :
    ∃ l, TyRow w (.slice a len cap) l := by
  rcases h with rfl | ⟨b, off, rfl, hb, hx⟩
  · exact ⟨[], a, cap, rfl, h1, h2, (fun _ h => by cases h), .inl rfl⟩
  · have hc : ∀ i : Nat, ∃ x : Ty, (x.w < 256 ∧ x.k < 256 ∧ x.y < 256 ∧ x.s < 256) ∧ (i < len → TyCell w b (off + i * 4) x) := fun i => by
      by_cases hi : i < len
      · obtain ⟨x, hx, hl⟩ := tycell_of (hx i hi); exact ⟨x, hl, fun _ => hx⟩
      · exact ⟨⟨0, 0, 0, 0⟩, ⟨by decide, by decide, by decide, by decide⟩, fun h => absurd h hi⟩
    obtain ⟨f, hf⟩ := Classical.axiomOfChoice hc
    refine ⟨(List.range len).map f, _, cap, by simp, by simpa using h1, h2, fun x hx => ?_, .inr ⟨b, off, rfl, hb, fun i x hi => ?_⟩⟩
    · obtain ⟨i, _, rfl⟩ := List.mem_map.1 hx
      exact (hf i).1
    · rw [List.getElem?_map] at hi
      by_cases hl : i < len
      · rw [List.getElem?_range hl] at hi
        simp only [Option.map_some, Option.some.injEq] at hi
        subst hi
        exact (hf i).2 hl
      · rw [List.getElem?_eq_none (by simpa using hl)] at hi
        cases hi
set_option maxRecDepth 100000 in
theorem auditBegins_law {H : Type} {enc : TypeId × Value → H} {base : Nat} {spare : Nat → Bool} {held : Bool} {r : Reach} {b0 : Nat} {w : World}
    (v1 : Value) (d1 : DataW H) (p1 : List MemPlace) (hv1 : Value.okWide Tryz.prog w r b0 22 v1) (h1 : DataW.Trod enc Tryz.prog w base spare held 22 v1 d1 p1)
    (x : Int) (wx : (Lit.int .u8 x).wf = true) (w' : World) (e' : w' = w)
    (hworks : ∀ W, Calls Tryz.prog 4 #[] W fun e w' => e = .returned (.bool true) ∧ Keeps (fun _ => False) W w')
    (hmc : ∀ W, Calls Tryz.prog 20 #[.agg #[.int .i64 8, .int .i64 1, .int .i64 4, .int .i64 4, .int .i64 4, .int .i64 2, .int .i64 4, .int .i64 2, .int .i64 8, .int .u32 1]] W fun e w' => e = .returned (.int .i64 0) ∧ Keeps (fun _ => False) W w') :
    Calls Tryz.prog 3 #[v1, .int .u8 x] w' fun e w2 => e = .returned (.bool true) ∧ Keeps (fun _ => False) w' w2 := by
  subst e'
  obtain ⟨a, n1, k1, rfl, e1, e2, hx⟩ := open_flat_slice (ks := ksTry) Tryz.underlying22 (by kernel_rfl) (by kernel_rfl) (by decide) hv1 h1
  obtain ⟨l, hl⟩ := tyrow_of e1 e2 hx
  obtain ⟨k, rfl, hk⟩ := u8_lt wx
  exact auditBegins_walk _ l k _ hl hk hworks hmc
end Go.Proofs.YtcagogkgnnckaaaGreatDoor
