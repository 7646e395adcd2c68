/- slices.Grow and slices.Concat of rows of names. -/
import Derived.Test.YtehmoikbeflkaaaGreatRcY
import Derived.Lib.AppendZeros
import Derived.Deep.AppendSrc
namespace Go.Proofs.YtehmoikbeflkaaaGreat
open Go.RowKit
set_option linter.unusedVariables false
set_option linter.unusedSimpArgs false

theorem ByRow.keepsN {w w' : World} {v : Value} {l : List Nat} (h : ByRow w v l) (hk : Keeps (fun y => w.heap.size ≤ y) w w') : ByRow w' v l := by
  obtain ⟨a, cap, h1, h2, h3, h4⟩ := h
  refine ⟨a, cap, h1, h2, h3, h4.imp id ?_⟩
  rintro ⟨b, off, e, hb, hx⟩
  refine ⟨b, off, e, Nat.lt_of_lt_of_le hb hk.size, fun i x hi => ?_⟩
  obtain ⟨x1, x2⟩ := hx i x hi
  exact ⟨x1, (World.cell?_of_block (w := w) (w' := w') (a := ⟨b, off + i, none⟩) (hk.block b hb (by omega))).trans x2⟩
theorem wpList_append_zeros {ops : Array Oper} {rest : List Oper} {o : Oper} {a : Act} {Q : Exit → Act → World → Prop} (w : World) (hgd : o.guard = none) (s x : Operand)
    (ho : o.op = .call { callee := .builtin .append, args := #[s, x], argTypes := #[28, 3] })
    (n : Nat) (hs : a.eval s = .slice none 0 0) (hx : a.eval x = .int .i64 n) (h0 : 0 < n) (h1 : n ≤ 4096)
    (h : ∀ cap w', n ≤ cap → Row w' w.heap.size (.slice (some ⟨w.heap.size, 0, none⟩) 0 cap) [] → Keeps (fun _ => False) w w' → wpList Tryz.prog ops Q rest (a.put o.dst (.slice (some ⟨w.heap.size, 0, none⟩) n cap)) w') :
    wpList Tryz.prog ops Q (o :: rest) a w := by
  obtain ⟨ri, hi1, hi2, hi3, hi4⟩ := ref_info
  refine wpList_plain hgd fun K hK => ?_
  have hr := Lib.run_append_nil_zeros (P := Tryz.prog) w 28 3 o.type 33 ri (.agg #[.int .i64 0, .int .u32 0]) .i64 .i64 Tryz.underlying28 Tryz.underlying3 hi1 hi2 n h0 (by omega) (by omega) (by rw [hi4]; omega)
  have hge := grownCap_ge w n 0 33
  have hle := grownCap_le_maxLen w n 0 33 (by unfold maxLen; omega)
  obtain ⟨cap, hcap⟩ : ∃ c, grownCap w n 0 33 = c := ⟨_, rfl⟩
  rw [hcap] at hr hge hle
  obtain ⟨Z, hZ⟩ : ∃ Z, Builtin.zeroCells (Value.agg #[.int .i64 0, .int .u32 0]).cells n ++ Builtin.zeroCells (Value.agg #[.int .i64 0, .int .u32 0]).cells (cap - n) = Z := ⟨_, rfl⟩
  have hZs : Z.size = cap * 2 := by rw [← hZ]; simp [size_zeroCells, Value.cells]; omega
  rw [hZ] at hr
  unfold Oper.wp execOp
  simp only [ho, resolve, invoke, builtin, Sem.run_bind, Sem.run_pure, Result.andThen_ok, List.map_toArray, List.map_cons, List.map_nil, hs, hx, hr]
  have hk : Keeps (fun _ => False) w (w.drew.alloc (.cells Z 33)) := ((Keeps.refl _ _).drew).alloc _
  refine hK _ _ (h cap _ hge ⟨rfl, .inr ⟨_, cap, Z, rfl, Nat.le_refl _, alloc_new, Nat.zero_le _, hle, hZs, by simp⟩⟩ hk)
set_option maxRecDepth 100000 in
set_option maxHeartbeats 1000000 in
theorem grow_ok (n : Nat) (w : World) (hn : n ≤ 4096) :
    Calls Tryz.prog 92 #[.slice none 0 0, .int .i64 n] w fun e w' => ∃ v, e = .returned v ∧ Row w' w.heap.size v [] ∧ Keeps (fun _ => False) w w' := by
  obtain ⟨ri, hi1, hi2, hi3, hi4⟩ := ref_info
  have hn0 : (0 : Int) ≤ (n : Int) := by omega
  have hn1 : ¬ (n : Int) < 0 := by omega
  have hw : IntKind.i64.wrap (n : Int) = (n : Int) := IntWalk.i64_in _ (by omega)
  by_cases hz : n = 0
  · subst hz
    go_enter Tryz.func92, Tryz.ntmps92
    go_wp2_with fail
    go_ret
    exact ⟨_, rfl, Row.nil _ _, Keeps.refl _ _⟩
  · have hp : (0 : Int) < (n : Int) := by omega
    have hnp : 0 < n := by omega
    go_enter Tryz.func92, Tryz.ntmps92
    go_wp2_with (first
      | (at_builtin; refine wpList_append_zeros _ rfl _ _ rfl n rfl rfl hnp hn ?_; intro cap w9 hc9 hr9 hk9; have HR9 := hid hr9; have HK9 := hid hk9; clear hr9 hk9; have hc9' : (n : Int) ≤ (cap : Int) := by omega)
      | fail)
    go_ret
    exact ⟨_, rfl, HR9.out, HK9.out⟩
structure RRow (w : World) (b : Nat) (ls : List (Value × List Rf)) : Prop where
  own : w.heap[b]? = some (.cells (ls.map (·.1)).toArray 28)
  refs : ∀ x ∈ ls, Refs w x.1 x.2
theorem RRow.keeps0 {w w' : World} {b : Nat} {ls : List (Value × List Rf)} (h : RRow w b ls) (hk : Keeps (fun _ => False) w w') : RRow w' b ls :=
  ⟨block_keep h.own hk (fun h => h), fun x hx => (h.refs x hx).keeps hk (fun _ _ h => h)⟩
theorem RRow.cell {w : World} {b k : Nat} {ls : List (Value × List Rf)} (h : RRow w b ls) {v : Value} {l : List Rf} (hk : ls[k]? = some (v, l)) : w.cell? ⟨b, k, none⟩ = some v ∧ Refs w v l := by
  refine ⟨cell_at h.own ?_, h.refs _ (List.mem_of_getElem? hk)⟩
  simp [hk]
def cat (ls : List (Value × List Rf)) : List Rf := ls.flatMap (·.2)
theorem cat_succ {ls : List (Value × List Rf)} {k : Nat} {v : Value} {l : List Rf} (h : ls[k]? = some (v, l)) : cat (ls.take (k + 1)) = cat (ls.take k) ++ l := by
  unfold cat; rw [List.take_add_one, h, List.flatMap_append]; simp
theorem cat_le (ls : List (Value × List Rf)) (k : Nat) : (cat (ls.take k)).length ≤ (cat ls).length := by
  conv => rhs; rw [← List.take_append_drop k ls]
  unfold cat; rw [List.flatMap_append, List.length_append]; omega
set_option maxRecDepth 100000 in
set_option maxHeartbeats 1000000 in
theorem concat_ok (b : Nat) (ls : List (Value × List Rf)) (w : World) (h : RRow w b ls) (hn : (cat ls).length ≤ 4096) (hm : ls.length ≤ 100) :
    Calls Tryz.prog 20 #[.slice (some ⟨b, 0, none⟩) ls.length ls.length] w fun e w' => ∃ v, e = .returned v ∧ Row w' w.heap.size v (cat ls) ∧ Keeps (fun _ => False) w w' := by
  have H := hid h
  obtain ⟨N, hN⟩ : ∃ N, ls.length = N := ⟨_, rfl⟩
  obtain ⟨Z, hZ⟩ : ∃ Z, (cat ls).length = Z := ⟨_, rfl⟩
  have hbl := lt_block h.own
  have HN := hid hN
  have HT := hid (show cat (ls.take N) = cat ls by rw [← hN, List.take_length])
  have HLE := hid (fun k => cat_le ls k)
  rw [hZ] at HLE hn
  have HG := hid (fun W => grow_ok Z W hn)
  have hZ0 : (0 : Int) ≤ (Z : Int) := by omega
  rw [hN]
  clear h
  go_enter Tryz.func20, Tryz.ntmps20
  go_wp2_with fail
  go_loopw [3, 11] (fun s3 ix wr => ∃ k : Nat, k ≤ N ∧ ix = .int .i64 k ∧ s3 = .int .i64 (cat (ls.take k)).length ∧ Hid (wr = w)) (fun _ ix _ => N - (intOf ix).toNat)
  case atStart => exact ⟨0, Nat.zero_le _, rfl, rfl, hid rfl⟩
  case round =>
    obtain ⟨k, hk, rfl, rfl, hww⟩ := hrel
    obtain rfl := hww.out.symm
    clear hww
    have hk0 : (0 : Int) ≤ k := by omega
    by_cases hlt : k < N
    · have hlt' : (k : Int) < (N : Int) := by omega
      obtain ⟨⟨v, l⟩, hvl⟩ : ∃ x, ls[k]? = some x := ⟨_, List.getElem?_eq_getElem (by have := HN.out; omega)⟩
      obtain ⟨c0, hr⟩ := H.out.cell hvl
      obtain ⟨p, c, rfl⟩ := hr.slice
      have hcs := cat_succ hvl
      have hle := HLE.out (k + 1)
      obtain ⟨u, hu⟩ : ∃ u, (cat (ls.take k)).length = u := ⟨_, rfl⟩
      have hul : (cat (ls.take (k + 1))).length = u + l.length := by rw [hcs, List.length_append, hu]
      rw [hul] at hle
      rw [hu]
      have hw : IntKind.i64.wrap ((u : Int) + (l.length : Int)) = (u : Int) + (l.length : Int) := IntWalk.i64_in _ (by omega)
      have hz : ¬ (u : Int) + (l.length : Int) < 0 := by omega
      have HUL := hid hul
      clear hr hvl hcs hu hul
      go_wp2_with fail
      exact ⟨⟨k + 1, by omega, by go_num, by rw [HUL.out]; simp, hid trivial⟩, by simp [intOf]; omega⟩
    · obtain rfl : k = N := by omega
      have hlt' : ¬ (k : Int) < (k : Int) := by omega
      rw [HT.out, hZ]
      go_wp2_with fail
      clear hlt'
      refine (HG.out _).mono ?_
      rintro e w1 ⟨v1, rfl, hr1, k1⟩
      obtain ⟨p1, c1, rfl⟩ := hr1.refs.slice
      have HR1 := hid hr1; have HK1 := hid k1
      clear hr1 k1 hlt hk hk0
      go_wp2_with fail
      go_loopw [6, 27] (fun s6 ix wr => ∃ (j : Nat) (p : Option Addr) (c : Nat), j ≤ k ∧ ix = .int .i64 j ∧ s6 = .slice p (cat (ls.take j)).length c ∧ Hid (Row wr w.heap.size (.slice p (cat (ls.take j)).length c) (cat (ls.take j))) ∧ Hid (Keeps (fun _ => False) w wr)) (fun _ ix _ => k - (intOf ix).toNat)
      case atStart => exact ⟨0, p1, c1, Nat.zero_le _, rfl, rfl, HR1, HK1⟩
      case round =>
        clear HR1 HK1
        obtain ⟨j, p, c, hj, rfl, rfl, HR, HK⟩ := hrel
        have hj0 : (0 : Int) ≤ j := by omega
        by_cases hlj : j < k
        · have hlj' : (j : Int) < (k : Int) := by omega
          obtain ⟨⟨v, l⟩, hvl⟩ : ∃ x, ls[j]? = some x := ⟨_, List.getElem?_eq_getElem (by have := HN.out; omega)⟩
          have hh := H.out.keeps0 HK.out
          obtain ⟨c0, hr⟩ := hh.cell hvl
          have hbw := lt_block hh.own
          have hcs := cat_succ hvl
          have hle := HLE.out (j + 1)
          rw [hcs, List.length_append] at hle
          have HRL := hid hr; have HCS := hid hcs
          clear hr hvl hcs hh
          go_wp2_with (first
            | (at_builtin; refine wpList_append_refs _ rfl _ _ rfl w.heap.size _ _ (cat (ls.take j)) l rfl rfl HR.out HRL.out (by omega) HK.out.size ?_; intro v9 w9 hr9 hk9 ho9)
            | fail)
          rw [← HCS.out] at hr9
          obtain ⟨p9, c9, rfl⟩ := hr9.refs.slice
          refine ⟨⟨j + 1, p9, c9, by omega, by go_num, rfl, hid hr9, hid (HK.out.trans' hk9 (fun _ _ h => h) (fun y hy hz => by have := (HR.out.lt y hz).1; omega))⟩, by simp [intOf]; omega⟩
        · obtain rfl : j = k := by omega
          have hlj' : ¬ (j : Int) < (j : Int) := by omega
          rw [HT.out] at HR ⊢
          rw [hZ] at HR ⊢
          go_wp2_with fail
          go_ret
          exact ⟨_, rfl, HR.out, HK.out⟩
end Go.Proofs.YtehmoikbeflkaaaGreat
