/- Package audit: possible attempts. -/
import Derived.Test.YtcagogkgnnckaaaGreatDoorAuR
namespace Go.Proofs.YtcagogkgnnckaaaGreatDoor
open Go.RowKit
set_option linter.unusedVariables false
set_option linter.unusedSimpArgs false

def Ou.ok (o : Ou) : Bool := decide (1 ≤ o.1 ∧ o.1 ≤ 3 ∧ 0 ≤ o.2.1 ∧ o.2.1 < 64 ∧ o.2.2 ≠ 0)
def At.val (a : At) : Value := .agg #[.int .i64 a.t, .int .i64 a.o.1, .int .i64 a.o.2.1, .int .u32 a.o.2.2, .int .i64 a.y, .int .i64 a.s]
theorem gens_ok (g : Int) (hw : (Lit.int .u32 g).wf = true) (w : World) : Calls Tryz.prog 104 #[.int .u32 g] w fun e w' => e = .returned (.int .i64 (if g = 0 then 2 else 0)) ∧ w' = w := by
  have e1 : IntKind.u32.min = 0 := by decide
  have e2 : IntKind.u32.max = 4294967295 := by decide
  simp [Lit.wf, e1, e2] at hw
  by_cases h : g = 0
  · subst h
    go_enter Tryz.func104, Tryz.ntmps104
    go_wp2_with fail
    go_ret
    exact ⟨rfl, rfl⟩
  · have h1 : ¬ g < 1 := by omega
    have h2 : ¬ 4294967295 < g := by omega
    rw [if_neg h]
    go_enter Tryz.func104, Tryz.ntmps104
    go_wp2_with fail
    go_ret
    exact ⟨rfl, rfl⟩
set_option maxRecDepth 100000 in
theorem name_check (k i g : Int) (hg : (Lit.int .u32 g).wf = true) (w : World) : Calls Tryz.prog 127 #[.agg #[.int .i64 k, .int .i64 i, .int .i64 g], .int .i64 64] w fun e w' => e = .returned (.int .i64 (bif Ou.ok (k, i, g) then 0 else 2)) ∧ Keeps (fun _ => False) w w' := by
  have HG := hid (fun W => gens_ok g hg W)
  have e1 : IntKind.u32.min = 0 := by decide
  have e2 : IntKind.u32.max = 4294967295 := by decide
  have hu : IntKind.u32.wrap g = g := by
    simp [Lit.wf, e1, e2] at hg
    exact IntWalk.u32_in _ (by omega)
  clear hg e1 e2
  by_cases h1 : k < 1
  · rw [show Ou.ok (k, i, g) = false from decide_eq_false (by dsimp only; omega)]
    go_enter Tryz.func127, Tryz.ntmps127
    go_wp2_with fail
    go_ret
    exact ⟨rfl, Keeps.r⟩
  by_cases h2 : 3 < k
  · rw [show Ou.ok (k, i, g) = false from decide_eq_false (by dsimp only; omega)]
    go_enter Tryz.func127, Tryz.ntmps127
    go_wp2_with fail
    go_ret
    exact ⟨rfl, Keeps.r⟩
  by_cases h3 : i < 0
  · rw [show Ou.ok (k, i, g) = false from decide_eq_false (by dsimp only; omega)]
    go_enter Tryz.func127, Tryz.ntmps127
    go_wp2_with fail
    go_ret
    exact ⟨rfl, Keeps.r⟩
  by_cases h4 : 64 ≤ i
  · rw [show Ou.ok (k, i, g) = false from decide_eq_false (by dsimp only; omega)]
    go_enter Tryz.func127, Tryz.ntmps127
    go_wp2_with fail
    go_ret
    exact ⟨rfl, Keeps.r⟩
  by_cases h : g = 0
  · subst h
    rw [show Ou.ok (k, i, 0) = false from decide_eq_false (by dsimp only; omega)]
    rw [if_pos rfl] at HG
    go_enter Tryz.func127, Tryz.ntmps127
    go_wp2_with fail
    refine (HG.out _).mono ?_
    rintro e w1 ⟨rfl, rfl⟩
    go_wp2_with fail
    go_ret
    exact ⟨rfl, Keeps.r⟩
  · rw [show Ou.ok (k, i, g) = true from decide_eq_true (by dsimp only; omega)]
    rw [if_neg h] at HG
    go_enter Tryz.func127, Tryz.ntmps127
    go_wp2_with fail
    refine (HG.out _).mono ?_
    rintro e w1 ⟨rfl, rfl⟩
    go_wp2_with fail
    go_ret
    exact ⟨rfl, Keeps.r⟩
theorem ofOuter (k i g : Int) (hg : (Lit.int .u32 g).wf = true) (w : World) : Calls Tryz.prog 126 #[.agg #[.int .i64 k, .int .i64 i, .int .u32 g]] w fun e w' => e = .returned (.agg #[.int .i64 k, .int .i64 i, .int .i64 g]) ∧ Keeps (fun _ => False) w w' := by
  have e1 : IntKind.u32.min = 0 := by decide
  have e2 : IntKind.u32.max = 4294967295 := by decide
  have hu : IntKind.i64.wrap g = g := by
    simp [Lit.wf, e1, e2] at hg
    exact IntWalk.i64_in _ (by omega)
  clear hg e1 e2
  go_enter Tryz.func126, Tryz.ntmps126
  go_wp2_with fail
  exact bodyPost_ret_by (v := .agg #[.int .i64 k, .int .i64 i, .int .i64 g]) (by simp [results, Tryz.results126, go_sem, *]) rfl ⟨rfl, Keeps.c (Keeps.r (a := w))⟩
theorem checkOuter (o : Ou) (ho : o.Wf) (w : World) : Calls Tryz.prog 81 #[o.val] w fun e w' => e = .returned (.int .i64 (bif o.ok then 0 else 2)) ∧ Keeps (fun _ => False) w w' := by
  obtain ⟨k, i, g⟩ := o
  have HC := hid (fun W => name_check k i g ho.2.2 W)
  have HG := hid ho.2.2
  clear ho
  unfold Ou.val
  go_enter Tryz.func81, Tryz.ntmps81
  go_wp2_with fail
  refine (ofOuter k i g HG.out _).mono ?_
  rintro e w1 ⟨rfl, k1⟩
  have K1 := hid k1
  clear k1
  go_wp2_with fail
  refine (HC.out _).mono ?_
  rintro e w2 ⟨rfl, k2⟩
  have K2 := hid k2
  clear k2
  go_wp2_with fail
  go_ret
  exact ⟨rfl, ((Keeps.r (a := w)).trans K1.out).trans K2.out⟩
set_option maxRecDepth 100000 in
theorem ledgerCheck (a : At) (ha : a.Wf) (w : World) : Calls Tryz.prog 61 #[a.val] w fun e w' => e = .returned (.int .i64 (bif a.ok then 0 else 2)) ∧ Keeps (fun _ => False) w w' := by
  have HC := hid (fun W => checkOuter a.o ⟨ha.k, ha.i, ha.g⟩ W)
  clear ha
  have HO := hid (show a.ok = (decide (0 ≤ a.t ∧ a.t ≤ 1099511627776) && (a.o.ok && decide (1 ≤ a.y ∧ a.y ≤ 3 ∧ 1 ≤ a.s ∧ a.s ≤ 3))) by
    unfold At.ok Ou.ok; rw [← Bool.decide_and, ← Bool.decide_and]; exact decide_eq_decide.2 (by constructor <;> intro h <;> omega))
  by_cases h1 : a.t < 0
  · rw [show At.ok a = false from decide_eq_false (by omega)]
    unfold At.val
    go_enter Tryz.func61, Tryz.ntmps61
    go_wp2_with fail
    go_ret
    exact ⟨rfl, Keeps.r⟩
  by_cases h2 : 1099511627776 < a.t
  · rw [show At.ok a = false from decide_eq_false (by omega)]
    unfold At.val
    go_enter Tryz.func61, Tryz.ntmps61
    go_wp2_with fail
    go_ret
    exact ⟨rfl, Keeps.r⟩
  rw [HO.out, show decide (0 ≤ a.t ∧ a.t ≤ 1099511627776) = true from decide_eq_true (by omega), Bool.true_and]
  clear HO
  unfold Ou.val at HC
  cases ho : a.o.ok with
  | false =>
    rw [ho] at HC
    unfold At.val
    go_enter Tryz.func61, Tryz.ntmps61
    go_wp2_with fail
    refine (HC.out _).mono ?_
    rintro e w1 ⟨rfl, k1⟩
    have hb := block_keep (alloc_new (w := w)) k1 (fun h => h)
    have c4 := cell_at (i := 4) hb rfl
    have c5 := cell_at (i := 5) hb rfl
    have K1 := hid k1
    clear k1 hb
    go_wp2_with fail
    go_ret
    exact ⟨rfl, (Keeps.r (a := w)).trans K1.out⟩
  | true =>
    rw [ho] at HC
    rw [Bool.true_and]
    by_cases h3 : a.y < 1
    · rw [show decide (1 ≤ a.y ∧ a.y ≤ 3 ∧ 1 ≤ a.s ∧ a.s ≤ 3) = false from decide_eq_false (by omega)]
      unfold At.val
      go_enter Tryz.func61, Tryz.ntmps61
      go_wp2_with fail
      refine (HC.out _).mono ?_
      rintro e w1 ⟨rfl, k1⟩
      have hb := block_keep (alloc_new (w := w)) k1 (fun h => h)
      have c4 := cell_at (i := 4) hb rfl
      have c5 := cell_at (i := 5) hb rfl
      have K1 := hid k1
      clear k1 hb
      go_wp2_with fail
      go_ret
      exact ⟨rfl, (Keeps.r (a := w)).trans K1.out⟩
    by_cases h4 : 3 < a.y
    · rw [show decide (1 ≤ a.y ∧ a.y ≤ 3 ∧ 1 ≤ a.s ∧ a.s ≤ 3) = false from decide_eq_false (by omega)]
      unfold At.val
      go_enter Tryz.func61, Tryz.ntmps61
      go_wp2_with fail
      refine (HC.out _).mono ?_
      rintro e w1 ⟨rfl, k1⟩
      have hb := block_keep (alloc_new (w := w)) k1 (fun h => h)
      have c4 := cell_at (i := 4) hb rfl
      have c5 := cell_at (i := 5) hb rfl
      have K1 := hid k1
      clear k1 hb
      go_wp2_with fail
      go_ret
      exact ⟨rfl, (Keeps.r (a := w)).trans K1.out⟩
    by_cases h5 : a.s < 1
    · rw [show decide (1 ≤ a.y ∧ a.y ≤ 3 ∧ 1 ≤ a.s ∧ a.s ≤ 3) = false from decide_eq_false (by omega)]
      unfold At.val
      go_enter Tryz.func61, Tryz.ntmps61
      go_wp2_with fail
      refine (HC.out _).mono ?_
      rintro e w1 ⟨rfl, k1⟩
      have hb := block_keep (alloc_new (w := w)) k1 (fun h => h)
      have c4 := cell_at (i := 4) hb rfl
      have c5 := cell_at (i := 5) hb rfl
      have K1 := hid k1
      clear k1 hb
      go_wp2_with fail
      go_ret
      exact ⟨rfl, (Keeps.r (a := w)).trans K1.out⟩
    by_cases h6 : 3 < a.s
    · rw [show decide (1 ≤ a.y ∧ a.y ≤ 3 ∧ 1 ≤ a.s ∧ a.s ≤ 3) = false from decide_eq_false (by omega)]
      unfold At.val
      go_enter Tryz.func61, Tryz.ntmps61
      go_wp2_with fail
      refine (HC.out _).mono ?_
      rintro e w1 ⟨rfl, k1⟩
      have hb := block_keep (alloc_new (w := w)) k1 (fun h => h)
      have c4 := cell_at (i := 4) hb rfl
      have c5 := cell_at (i := 5) hb rfl
      have K1 := hid k1
      clear k1 hb
      go_wp2_with fail
      go_ret
      exact ⟨rfl, (Keeps.r (a := w)).trans K1.out⟩
    rw [show decide (1 ≤ a.y ∧ a.y ≤ 3 ∧ 1 ≤ a.s ∧ a.s ≤ 3) = true from decide_eq_true (by omega)]
    unfold At.val
    go_enter Tryz.func61, Tryz.ntmps61
    go_wp2_with fail
    refine (HC.out _).mono ?_
    rintro e w1 ⟨rfl, k1⟩
    have hb := block_keep (alloc_new (w := w)) k1 (fun h => h)
    have c4 := cell_at (i := 4) hb rfl
    have c5 := cell_at (i := 5) hb rfl
    have K1 := hid k1
    clear k1 hb
    go_wp2_with fail
    go_ret
    exact ⟨rfl, (Keeps.r (a := w)).trans K1.out⟩
def ckL (l : List At) : Int := if 10000 < l.length then 11 else bif l.all At.ok then 0 else 2
set_option maxRecDepth 100000 in
set_option maxHeartbeats 1000000 in
theorem acheck (v : Value) (l : List At) (w : World) (hv : AtRow w v l) : Calls Tryz.prog 33 #[v] w fun e w' => e = .returned (.int .i64 (ckL l)) ∧ Keeps (fun _ => False) w w' := by
  obtain ⟨pa, cap, rfl, hcap, hmax, hwf, hx⟩ := hv
  have HX := hid hx
  have HW := hid hwf
  clear hx hwf hcap hmax
  by_cases h1 : 10000 < l.length
  · rw [show ckL l = 11 by unfold ckL; rw [if_pos h1]]
    have h1' : 10000 < (l.length : Int) := by omega
    clear h1
    go_enter Tryz.func33, Tryz.ntmps33
    go_wp2_with fail
    go_ret
    exact ⟨rfl, Keeps.r⟩
  rw [show ckL l = bif l.all At.ok then 0 else 2 by unfold ckL; rw [if_neg h1]]
  have h1' : ¬ 10000 < (l.length : Int) := by omega
  have HL := hid h1
  clear h1
  go_enter Tryz.func33, Tryz.ntmps33
  go_wp2_with fail
  go_loopw [10] (fun ix wr => ∃ i : Nat, i ≤ l.length ∧ ix = .int .i64 i ∧ Hid ((l.take i).all At.ok = true ∧ Keeps (fun _ => False) w wr)) (fun ix _ => l.length - (intOf ix).toNat)
  case atStart => exact ⟨0, Nat.zero_le _, rfl, hid ⟨by simp, Keeps.r⟩⟩
  case round =>
    obtain ⟨i, hi, rfl, HI⟩ := hrel
    have hi0 : (0 : Int) ≤ i := by omega
    by_cases hlt : i < l.length
    · obtain ⟨a, hy⟩ : ∃ y, l[i]? = some y := ⟨_, List.getElem?_eq_getElem hlt⟩
      have hlt' : (i : Int) < (l.length : Int) := by omega
      obtain ⟨b, off, rfl, hb, hcl⟩ := HX.out.resolve_left (by intro h; rw [h] at hlt; simp at hlt)
      obtain ⟨c0, c1, c2, c3, c4, c5⟩ := (hcl i a hy).same (HI.out.2.block b hb (fun h => h))
      have hbw : b < wr.heap.size := Nat.lt_of_lt_of_le hb HI.out.2.size
      have HC := hid (fun W => ledgerCheck a (HW.out a (List.mem_of_getElem? hy)) W)
      unfold At.val at HC
      have HY := hid hy
      clear hcl hy
      cases ha : a.ok with
      | false =>
        rw [ha] at HC
        have HR := hid (show l.all At.ok = false by rw [List.all_eq_false]; exact ⟨a, List.mem_of_getElem? HY.out, by rw [ha]; decide⟩)
        go_wp2_with fail
        refine (HC.out _).mono ?_
        rintro e w1 ⟨rfl, k1⟩
        have K1 := hid k1
        clear k1
        go_wp2_with fail
        go_ret
        exact ⟨by rw [HR.out]; rfl, (HI.out.2.trans (Keeps.r (a := wr))).trans K1.out⟩
      | true =>
        rw [ha] at HC
        have HR := hid (show (l.take (i + 1)).all At.ok = true by rw [List.take_add_one, HY.out, List.all_append, HI.out.1]; simp [ha])
        go_wp2_with fail
        refine (HC.out _).mono ?_
        rintro e w1 ⟨rfl, k1⟩
        have K1 := hid k1
        clear k1
        go_wp2_with fail
        exact ⟨⟨i + 1, by omega, rfl, hid ⟨HR.out, (HI.out.2.trans (Keeps.r (a := wr))).trans K1.out⟩⟩, by simp [intOf]; omega⟩
    · have hlt' : ¬ (i : Int) < (l.length : Int) := by omega
      have HR := hid (show l.all At.ok = true by have := HI.out.1; rwa [List.take_of_length_le (by omega)] at this)
      go_wp2_with fail
      go_ret
      exact ⟨by rw [HR.out]; rfl, HI.out.2⟩
end Go.Proofs.YtcagogkgnnckaaaGreatDoor
