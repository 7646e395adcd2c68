/- estraylaw19: what ReachParts picks. NOT BUILT YET. -/
import Derived.Test.YtehmoikbeflkaaaGreatRcX
import Derived.Test.YtehmoikbeflkaaaGreatCgA
import Derived.Deep.CutBlock
import Derived.Deep.RegionHeldLaw
namespace Go.Proofs.YtehmoikbeflkaaaGreat
open Go.RowKit
set_option linter.unusedVariables false
set_option linter.unusedSimpArgs false

def pks (T : List Rf) (l : List Nat) (k : Nat) : List Rf := (l.take k).map fun x => T.getD (x % T.length) ⟨0, 0⟩
def picked (T : List Rf) (l : List Nat) : List Rf := pks T l 10
theorem pks_len {T : List Rf} {l : List Nat} {k : Nat} (h : k ≤ l.length) : (pks T l k).length = k := by unfold pks; rw [List.length_map, List.length_take]; omega
theorem pks_succ {T : List Rf} {l : List Nat} {k x : Nat} (h : l[k]? = some x) : pks T l (k + 1) = pks T l k ++ [T.getD (x % T.length) ⟨0, 0⟩] := by unfold pks; rw [List.take_add_one, h, List.map_append]; rfl
theorem pks_min {T : List Rf} {l : List Nat} {k : Nat} (h : min l.length 10 = k) : pks T l k = picked T l := by
  unfold picked pks
  rcases Nat.le_total l.length 10 with h1 | h1
  · rw [Nat.min_eq_left h1] at h; subst h; rw [List.take_of_length_le (Nat.le_refl _), List.take_of_length_le h1]
  · rw [Nat.min_eq_right h1] at h; subst h; rfl
theorem picked_mem {T : List Rf} {l : List Nat} (hT : T ≠ []) {r : Rf} (h : r ∈ picked T l) : r ∈ T := by
  unfold picked pks at h
  obtain ⟨x, _, rfl⟩ := List.mem_map.1 h
  have hp : 0 < T.length := List.length_pos_iff.2 hT
  rw [List.getD_eq_getElem?_getD, List.getElem?_eq_getElem (Nat.mod_lt _ hp)]
  exact List.getElem_mem _
theorem picked_len (T : List Rf) (l : List Nat) : (picked T l).length ≤ 10 := by unfold picked pks; rw [List.length_map, List.length_take]; omega
theorem step_append_refsY {ops : Array Oper} {o : Oper} {a : Act} {K : Act → World → Prop} {E : Prop} (w : World) (hgd : o.guard = none) (s x : Operand)
    (ho : o.op = .call { callee := .builtin .append, args := #[s, x], argTypes := #[28, 28] })
    (base : Nat) (v u : Value) (l m : List Rf) (hs : a.eval s = v) (hx : a.eval x = u) (hv : Row w base v l) (hu : Refs w u m) (h1 : l.length + m.length ≤ 1000000) (hb : base ≤ w.heap.size) {Q : Exit → Act → World → Prop}
    (h : ∀ v' w', Row w' base v' (l ++ m) → Keeps (fun k => v.ownBlock = some k) w w' → (v'.ownBlock = v.ownBlock ∨ v'.ownBlock = some w.heap.size) → K (a.put o.dst v') w') :
    if Region.wanted o (yielded ops a.tmps) = true then Oper.wp Tryz.prog o a w K Q else E := by
  have hw : Region.wanted o (yielded ops a.tmps) = true := by simp [Region.wanted, hgd]
  rw [if_pos hw]
  obtain ⟨v', w', hr, h2, h3, h4⟩ := run_append_refs o.type base v u l m w hv hu h1 hb
  unfold Oper.wp execOp
  simp only [ho, resolve, invoke, builtin, Sem.run_bind, Sem.run_pure, Result.andThen_ok, List.map_toArray, List.map_cons, List.map_nil, hs, hx, hr]
  exact h v' w' h2 h3 h4
set_option maxRecDepth 100000 in
set_option maxHeartbeats 1000000 in
theorem pick19 (B : Nat) (v tv : Value) (T : List Rf) (l : List Nat) (w : World) (hv : ByRow w v l) (hq : w.heap[B]? = some (.cells #[tv] 28)) (ht : Refs w tv T) (hn : T ≠ []) (hl : T.length ≤ 256) :
    Calls Tryz.prog 18 #[v, .pointer (some ⟨B, 0, none⟩)] w fun e w' => ∃ v', e = .returned v' ∧ Row w' w.heap.size v' (picked T l) ∧ Keeps (fun _ => False) w w' := by
  obtain ⟨pt, ct, rfl⟩ := ht.slice
  obtain ⟨pa, cap, rfl, hcap, hmax, hx⟩ := hv
  have hn0 : (0 : Int) ≤ (l.length : Int) := by omega
  have hcap' : (l.length : Int) ≤ (cap : Int) := by omega
  obtain ⟨K, hK⟩ : ∃ K, min l.length 10 = K := ⟨_, rfl⟩
  have hmin : min (l.length : Int) 10 = (K : Int) := by omega
  have hK0 : (0 : Int) ≤ (K : Int) := by omega
  have hK1 : (K : Int) ≤ (l.length : Int) := by omega
  have hK2 : (K : Int) ≤ (cap : Int) := by omega
  have hKl : K ≤ l.length := by omega
  have hK10 : K ≤ 10 := by omega
  have HX := hid hx; have HKE := hid hK; have HQ := hid hq; have HT := hid ht
  clear hx hK hq ht
  go_enter Tryz.func18, Tryz.ntmps18
  go_wp2_with fail
  go_loopw [4, 13] (fun s4 ix wr => ∃ (k : Nat) (p : Option Addr) (c : Nat), k ≤ K ∧ ix = .int .i64 k ∧ s4 = .slice p k c ∧ Hid (Row wr w.heap.size (.slice p k c) (pks T l k)) ∧ Hid (Keeps (fun _ => False) w wr)) (fun _ ix _ => K - (intOf ix).toNat)
  case atStart => exact ⟨0, none, 0, Nat.zero_le _, rfl, rfl, hid (Row.nil _ _), hid (Keeps.refl _ _)⟩
  case round =>
    obtain ⟨k, p4, c4, hk, rfl, rfl, HR, HKR⟩ := hrel
    have hk0 : (0 : Int) ≤ k := by omega
    by_cases hlt : k < K
    · have hlt' : (k : Int) < (K : Int) := by omega
      have hkl : k < l.length := by omega
      obtain ⟨x, hxk⟩ : ∃ x, l[k]? = some x := ⟨_, List.getElem?_eq_getElem hkl⟩
      obtain ⟨b, off, rfl, hb, hcl⟩ := HX.out.resolve_left (by intro h; rw [h] at hkl; simp at hkl)
      obtain ⟨hx256, c0⟩ := hcl k x hxk
      have c0 := (World.cell?_of_block (w := w) (w' := wr) (a := ⟨b, off + k, none⟩) (HKR.out.block b hb (fun h => h))).trans c0
      have hbw : b < wr.heap.size := Nat.lt_of_lt_of_le hb HKR.out.size
      have hxw : IntKind.i64.wrap (x : Int) = (x : Int) := IntWalk.i64_in _ (by omega)
      obtain ⟨n, hnn⟩ : ∃ n, T.length = n := ⟨_, rfl⟩
      have hz : ¬ n = 0 := by rw [← hnn]; exact fun h => hn (List.length_eq_zero_iff.1 h)
      obtain ⟨q, hq⟩ : ∃ q, x % n = q := ⟨_, rfl⟩
      have hqn : q < n := by rw [← hq]; exact Nat.mod_lt _ (by omega)
      have hq1 : (x : Int) % (n : Int) = (q : Int) := by rw [← hq]; simp
      have hq2 : (x : Int).tmod (n : Int) = (q : Int) := by rw [Int.tmod_eq_emod_of_nonneg (by omega)]; exact hq1
      have hqw : IntKind.i64.wrap (q : Int) = (q : Int) := IntWalk.i64_in _ (by omega)
      have hq0 : (0 : Int) ≤ (q : Int) := by omega
      have hqi : (q : Int) < (n : Int) := by omega
      obtain ⟨r, hr⟩ : ∃ r, T[q]? = some r := ⟨_, List.getElem?_eq_getElem (by omega)⟩
      have hsu : pks T l (k + 1) = pks T l k ++ [r] := by rw [pks_succ hxk, hnn, hq, List.getD_eq_getElem?_getD, hr]; rfl
      have hsl : (pks T l (k + 1)).length = k + 1 := pks_len (by omega)
      have hkk : (pks T l k).length = k := pks_len (by omega)
      obtain ⟨g, rfl, d0, d1⟩ := HT.out.cellk hr
      have HPS := hid (show ∀ W, Keeps (fun y => w.heap.size ≤ y) w W → (W.cell? ⟨B, 0, none⟩ = some (.slice (some ⟨g, 0, none⟩) n ct) ∧ W.cell? ⟨g, q * 2, none⟩ = some (.int .i64 r.s) ∧ W.cell? ⟨g, q * 2 + 1, none⟩ = some (.int .u32 r.g)) from fun W hk => by
        obtain ⟨t0, _, _⟩ := cells1 (block_keep HQ.out hk (by have := lt_block HQ.out; omega))
        have hgl : g < w.heap.size := by
          obtain ⟨_, hcc⟩ := HT.out.cell
          obtain ⟨g2, e2, hgl, _⟩ := hcc q r hr
          injection e2 with e2; injection e2 with e2
          omega
        obtain ⟨g1, hg1, b0, b1⟩ := (HT.out.keeps hk (fun y hy h => by have h2 : g = y := Option.some.inj hy; omega)).cellk hr
        injection hg1 with hg1; injection hg1 with hg1
        subst hg1
        rw [hnn] at t0
        exact ⟨t0, b0, b1⟩)
      have HSU := hid hsu; have HSL := hid hsl; have HKK := hid hkk
      clear hcl hxk hr hnn hq hsu hsl hkk d0 d1
      go_upto_region 5 with (fail)
      clear c0 hbw hb
      obtain ⟨wz, hwz⟩ : ∃ wz, wr = wz := ⟨_, rfl⟩
      rw [hwz] at HR HKR ⊢
      clear hwz
      go_region_held_law (fun W => W.cell? ⟨B, 0, none⟩ = some (.slice (some ⟨g, 0, none⟩) n ct) ∧ W.cell? ⟨g, q * 2, none⟩ = some (.int .i64 r.s) ∧ W.cell? ⟨g, q * 2 + 1, none⟩ = some (.int .u32 r.g))
        ((refine HPS.out _ ?_; (repeat (first | with_reducible exact HKR.out.up | with_reducible refine Keeps.drewN ?_ _ | with_reducible refine Keeps.drew ?_ | with_reducible refine Keeps.alloc ?_ _ | with_reducible refine Keeps.trans ?_ (hk9.mono fun y hy hz => (HR.out.lt y hz).1)))))
        (first
          | (refine step_append_refsY _ rfl _ _ rfl w.heap.size (.slice p4 k c4) _ (pks T l k) [r] rfl rfl (HR.out.keeps (S := fun _ => False) (by (repeat (first | with_reducible exact Keeps.refl _ _ | with_reducible refine Keeps.drewN ?_ _ | with_reducible refine Keeps.drew ?_ | with_reducible refine Keeps.alloc ?_ _))) (fun _ _ _ _ h => h)) (refs_one alloc_new) (by rw [HKK.out, List.length_singleton]; omega) (by have := HKR.out.size; simp; omega) ?_; intro v9 w9 hr9 hk9 ho9))
      all_goals
        have hk8 : Keeps (fun _ => False) w w9 := Keeps.trans' (show Keeps (fun _ => False) w _ from by (repeat (first | with_reducible exact HKR.out | with_reducible refine Keeps.drewN ?_ _ | with_reducible refine Keeps.drew ?_ | with_reducible refine Keeps.alloc ?_ _))) hk9 (fun _ _ h => h) (fun y hy hz => by have := (HR.out.lt y hz).1; omega)
        rw [← HSU.out] at hr9
        obtain ⟨p9, c9, e9⟩ := hr9.refs.slice
        rw [HSL.out] at e9
        subst e9
        have HR9 := hid hr9; have HK9 := hid hk8
        clear hr9 hk8 hk9 ho9
        go_wp2_with fail
        exact ⟨⟨k + 1, p9, c9, by omega, by go_num, rfl, HR9, HK9⟩, by simp [intOf]; omega⟩
    · have hlt' : ¬ (k : Int) < (K : Int) := by omega
      obtain rfl : k = K := by omega
      have HE := hid (pks_min (T := T) HKE.out)
      go_wp2_with fail
      go_ret
      exact ⟨_, rfl, by rw [← HE.out]; exact HR.out, HKR.out⟩
end Go.Proofs.YtehmoikbeflkaaaGreat
