/- estrayref14: All, Left, Copy, New. -/
import Derived.Test.YtnjgkhgdgpahfaaGreatMgR
import Derived.Deep.AppendLies
import Derived.Deep.MidRow
import Derived.Test.YtnjgkhgdgpahfaaGreatKqA
namespace Go.Proofs.YtnjgkhgdgpahfaaGreat
open Go.RowKit
set_option linter.unusedVariables false
set_option linter.unusedSimpArgs false

end Go.Proofs.YtnjgkhgdgpahfaaGreat

namespace Go.Proofs.YtnjgkhgdgpahfaaGreat
open Go.RowKit
set_option linter.unusedVariables false
set_option linter.unusedSimpArgs false

def Hp.obx (H : Hp) (i : Nat) : Ob := if H.T.st i = 1 then H.ob i else Ob.new 0 false
def slotL (t r : Bool) (g : Int) (o : Ob) : List Value := .bool t :: .bool r :: .int .u32 g :: o.arr.toList
def Hp.slot (H : Hp) (i : Nat) : List Value := slotL (H.T.st i == 1) (!(H.T.st i == 1) && !(H.T.st i == 0)) (H.T.gn i) (H.obx i)
theorem slot_len (H : Hp) (i : Nat) : (H.slot i).length = 13 := rfl
theorem slotL_one (t r : Bool) (g : Int) (o : Ob) : ∀ u ∈ slotL t r g o, u.oneCell' = true := by
  intro u hu
  simp [slotL, Ob.arr] at hu
  rcases hu with rfl | rfl | rfl | rfl | rfl | rfl | rfl | rfl | rfl | rfl | rfl | rfl | rfl <;> rfl
def slotsL (f : Nat → List Value) (n : Nat) : List Value := (List.range n).flatMap f
theorem slotsL_succ (f : Nat → List Value) (n : Nat) : slotsL f (n + 1) = slotsL f n ++ f n := by
  unfold slotsL; rw [List.range_succ, List.flatMap_append]; simp
theorem slotsL_len {f : Nat → List Value} {k : Nat} (hf : ∀ i, (f i).length = k) (n : Nat) : (slotsL f n).length = n * k := by
  induction n with
  | zero => simp [slotsL]
  | succ n ih => rw [slotsL_succ, List.length_append, ih, hf, Nat.succ_mul]
theorem slotsL_get {f : Nat → List Value} {k : Nat} (hf : ∀ i, (f i).length = k) (n i j : Nat) (hi : i < n) (hj : j < k) : (slotsL f n)[i * k + j]? = (f i)[j]? := by
  induction n with
  | zero => omega
  | succ n ih =>
    rw [slotsL_succ]
    have hl := slotsL_len hf n
    by_cases h : i < n
    · have : i * k + j < n * k := Nat.lt_of_lt_of_le (show i * k + j < (i + 1) * k by rw [Nat.succ_mul]; omega) (Nat.mul_le_mul_right k h)
      rw [List.getElem?_append_left (by omega)]
      exact ih h
    · obtain rfl : i = n := by omega
      rw [List.getElem?_append_right (by omega), hl, Nat.add_sub_cancel_left]
theorem slotsL_one {f : Nat → List Value} (hf : ∀ i, ∀ u ∈ f i, u.oneCell' = true) (n : Nat) : ∀ u ∈ slotsL f n, u.oneCell' = true := by
  intro u hu
  obtain ⟨i, _, hi⟩ := List.mem_flatMap.1 hu
  exact hf i u hi
theorem Keeps.setCells {S : Nat → Prop} {a : World} {b : Nat} (hb : S b ∨ a.heap.size ≤ b) : ∀ (vs : List Value) (o : Nat) (w : World), Keeps S a w → Keeps S a (w.setCells b o vs)
  | [], _, _, h => h
  | v :: r, o, w, h => by
    rw [World.setCells]
    exact Keeps.setCells hb r (o + 1) _ (h.setCell hb v)
structure R14 (w : World) (b r : Nat) (H : Hp) : Prop where
  own : ∃ cap, H.T.n ≤ cap ∧ cap ≤ maxLen ∧ w.heap[b]? = some (.cells #[.bool true, .slice (some ⟨r, 0, none⟩) H.T.n cap] 158)
  row : ∃ c, w.heap[r]? = some (.cells c 161) ∧ ∀ i j, i < H.T.n → j < 13 → c[i * 13 + j]? = (H.slot i)[j]?
  n1 : 1 ≤ H.T.n
  n2 : H.T.n ≤ 256
  good : ∀ i, (H.ob i).Good
  gn : ∀ i, i < H.T.n → 1 ≤ H.T.gn i ∧ H.T.gn i ≤ 4294967295
section
variable {w w' : World} {b r : Nat} {H : Hp}
theorem R14.ne (h : R14 w b r H) : b ≠ r := by
  obtain ⟨cap, _, _, h1⟩ := h.own
  obtain ⟨c, h2, _⟩ := h.row
  exact type_ne h1 h2 (by decide)
theorem R14.keeps {S : Nat → Prop} (h : R14 w b r H) (hk : Keeps S w w') (hb : ¬ S b) (hr : ¬ S r) : R14 w' b r H := by
  obtain ⟨cap, a1, a2, h1⟩ := h.own
  obtain ⟨c, h2, h3⟩ := h.row
  exact ⟨⟨cap, a1, a2, block_keep h1 hk hb⟩, ⟨c, block_keep h2 hk hr, h3⟩, h.n1, h.n2, h.good, h.gn⟩
theorem R14.lt (h : R14 w b r H) : b < w.heap.size ∧ r < w.heap.size := by
  obtain ⟨cap, _, _, h1⟩ := h.own
  obtain ⟨c, h2, _⟩ := h.row
  exact ⟨lt_block h1, lt_block h2⟩
theorem R14.made (h : R14 w b r H) : w.cell? ⟨b, 0, none⟩ = some (.bool true) := by
  obtain ⟨cap, _, _, h1⟩ := h.own
  exact cell_at h1 rfl
theorem R14.sl (h : R14 w b r H) : ∃ cap, H.T.n ≤ cap ∧ cap ≤ maxLen ∧ w.cell? ⟨b, 1, none⟩ = some (.slice (some ⟨r, 0, none⟩) H.T.n cap) := by
  obtain ⟨cap, a1, a2, h1⟩ := h.own
  exact ⟨cap, a1, a2, cell_at h1 rfl⟩
theorem R14.cell (h : R14 w b r H) {i j : Nat} {v : Value} (hi : i < H.T.n) (hj : j < 13) (hv : (H.slot i)[j]? = some v) : w.cell? ⟨r, i * 13 + j, none⟩ = some v := by
  obtain ⟨c, h2, h3⟩ := h.row
  exact cell_at h2 (by rw [h3 i j hi hj]; exact hv)
theorem R14.c0 (h : R14 w b r H) {i : Nat} (hi : i < H.T.n) : w.cell? ⟨r, i * 13, none⟩ = some (.bool (H.T.st i == 1)) := h.cell (j := 0) hi (by omega) rfl
theorem R14.c1 (h : R14 w b r H) {i : Nat} (hi : i < H.T.n) : w.cell? ⟨r, i * 13 + 1, none⟩ = some (.bool (!(H.T.st i == 1) && !(H.T.st i == 0))) := h.cell (j := 1) hi (by omega) rfl
theorem R14.c2 (h : R14 w b r H) {i : Nat} (hi : i < H.T.n) : w.cell? ⟨r, i * 13 + 2, none⟩ = some (.int .u32 (H.T.gn i)) := h.cell (j := 2) hi (by omega) rfl
theorem R14.ob (h : R14 w b r H) {i : Nat} (hi : i < H.T.n) : w.rangeAt r (i * 13 + 3) (H.obx i).arr.toList := by
  intro j v hv
  have hj : j < 10 := (List.getElem?_eq_some_iff.1 hv).1
  rw [Nat.add_assoc]
  refine h.cell hi (by omega) ?_
  show (slotL _ _ _ _)[3 + j]? = _
  rw [show 3 + j = j + 1 + 1 + 1 by omega]
  exact hv
end

theorem slot_info : ∃ i, Tryz.prog.info? 161 = some i ∧ i.zero = some (.agg (slotL false false 0 (Ob.new 0 false)).toArray) ∧ i.size = 13 ∧ i.bytes = 88 := by
  have h : (Tryz.prog.info? 161).map (fun i => (i.zero, i.size, i.bytes)) = some (some (.agg (slotL false false 0 (Ob.new 0 false)).toArray), 13, 88) := by kernel_rfl
  rcases hi : Tryz.prog.info? 161 with _ | i
  · rw [hi] at h; cases h
  · rw [hi] at h
    simp only [Option.map_some, Option.some.injEq, Prod.mk.injEq] at h
    exact ⟨i, rfl, h.1, h.2.1, h.2.2⟩
theorem valid14 (b : Nat) (w : World) (h : w.cell? ⟨b, 0, none⟩ = some (.bool true)) :
    Calls Tryz.prog 120 #[.pointer (some ⟨b, 0, none⟩)] w fun e w' => e = .returned (.bool true) ∧ w' = w := by
  go_enter Tryz.func120, Tryz.ntmps120
  go_wp2
  go_ret
  exact ⟨rfl, rfl⟩
section
variable {w : World} {b r : Nat} {H : Hp}
end

end Go.Proofs.YtnjgkhgdgpahfaaGreat

namespace Go.Proofs.YtnjgkhgdgpahfaaGreat
open Go.RowKit
set_option linter.unusedVariables false
set_option linter.unusedSimpArgs false

def slotA (t q : Bool) (g : Int) (o : Ob) : Array Value := #[.bool t, .bool q, .int .u32 g, .int .i64 o.n, .int .i64 o.f0.s, .int .u32 o.f0.g, .int .i64 o.f1.s, .int .u32 o.f1.g, .int .i64 o.f2.s, .int .u32 o.f2.g, .int .i64 o.f3.s, .int .u32 o.f3.g, .bool o.h]
section
variable {w w' : World} {b r : Nat} {H : Hp}
theorem R14.news (h : R14 w b r H) : ∀ j u, (slotsL H.slot H.T.n)[j]? = some u → w.cell? ((⟨r, 0, none⟩ : Addr).add j) = some u := by
  intro j u hu
  have hj : j < H.T.n * 13 := by
    have := (List.getElem?_eq_some_iff.1 hu).1
    rwa [slotsL_len (slot_len H)] at this
  have h1 : j / 13 < H.T.n := Nat.div_lt_of_lt_mul (by omega)
  have h2 : j % 13 < 13 := Nat.mod_lt _ (by omega)
  have h3 : j / 13 * 13 + j % 13 = j := by omega
  rw [← h3, slotsL_get (slot_len H) _ _ _ h1 h2] at hu
  have := h.cell h1 h2 hu
  rw [h3] at this
  rw [Addr.add_mid, Nat.zero_add]
  exact this
theorem slot_one (H : Hp) (i : Nat) : ∀ u ∈ H.slot i, u.oneCell' = true := slotL_one _ _ _ _
theorem rowS_of {base n g cap : Nat} {f : Nat → List Value} {sz : Nat} {E : TypeId} (hf : ∀ i, (f i).length = sz) (h : w.ownsRow base E sz (.slice (some ⟨g, 0, none⟩) n cap) n (slotsL f n)) :
    ∃ c, w.heap[g]? = some (.cells c E) ∧ n ≤ cap ∧ cap ≤ maxLen ∧ n * sz ≤ c.size ∧ ∀ i j, i < n → j < sz → c[i * sz + j]? = (f i)[j]? := by
  obtain ⟨_, ⟨h1, _⟩ | ⟨g', cap', cur, h1, h2, h3, h4, h5, h6, h7⟩⟩ := h
  · cases h1
  · injection h1 with e1 e2 e3
    obtain rfl : g = g' := by simpa using e1
    subst e3
    have hle : n * sz ≤ cur.size := by rw [h6]; exact Nat.mul_le_mul_right _ h4
    refine ⟨cur, h3, h4, h5, hle, fun i j hi hj => ?_⟩
    have hij : i * sz + j < n * sz := Nat.lt_of_lt_of_le (show i * sz + j < (i + 1) * sz by rw [Nat.succ_mul]; omega) (Nat.mul_le_mul_right sz hi)
    rw [← slotsL_get hf n i j hi hj, ← h7, List.getElem?_take_of_lt hij]
    simp
end

end Go.Proofs.YtnjgkhgdgpahfaaGreat

namespace Go.Proofs.YtnjgkhgdgpahfaaGreat
open Go.RowKit
set_option linter.unusedVariables false
set_option linter.unusedSimpArgs false

theorem keeps_two (w : World) (B : Nat) (u v : Value) : Keeps (fun y => y = B) w ((w.setCell ⟨B, 0, none⟩ u).setCell ⟨B, 1, none⟩ v) :=
  Keeps.setCell (S := fun y => y = B) (p := ⟨B, 1, none⟩) (Keeps.setCell (S := fun y => y = B) (p := ⟨B, 0, none⟩) (Keeps.refl _ _) (.inl rfl) _) (.inl rfl) _
section
variable {w w' : World} {b r : Nat} {H : Hp}
end

end Go.Proofs.YtnjgkhgdgpahfaaGreat

namespace Go.Proofs.YtnjgkhgdgpahfaaGreat
open Go.RowKit
set_option linter.unusedVariables false
set_option linter.unusedSimpArgs false

section
variable {w w' : World} {b r : Nat} {H : Hp}
structure Trs (w W : World) (q v : Rf) : Prop where
  k : Keeps (fun _ => False) w W
  a : W.heap[w.heap.size]? = some (.cells #[.int .i64 q.s, .int .u32 q.g] 39)
  b : W.heap[w.heap.size + 1]? = some (.cells #[.int .i64 v.s, .int .u32 v.g] 39)
  c : W.heap[w.heap.size + 2]? = some (.cells #[.int .i64 0, .int .u32 0] 39)
theorem Trs.same {W W' : World} {q v : Rf} (h : Trs w W q v) (hk : Keeps (fun _ => False) W W') : Trs w W' q v :=
  ⟨h.k.trans hk, block_keep h.a hk (fun h => h), block_keep h.b hk (fun h => h), block_keep h.c hk (fun h => h)⟩
theorem Trs.mk0 (w : World) (q v : Rf) : Trs w (((w.alloc (.cells #[.int .i64 q.s, .int .u32 q.g] 39)).alloc (.cells #[.int .i64 v.s, .int .u32 v.g] 39)).alloc (.cells #[.int .i64 0, .int .u32 0] 39)) q v :=
  ⟨(((Keeps.refl _ _).alloc _).alloc _).alloc _, alloc_old (alloc_old alloc_new), alloc_old (alloc_new' (by simp)), alloc_new' (by simp)⟩
theorem Trs.fin {W : World} {q v : Rf} (h : Trs w W q v) (hR : R14 W b r H) (hb : b < w.heap.size) (hr : r ≠ w.heap.size + 2) (x y : Value) : R14 ((W.setCell ⟨w.heap.size + 2, 0, none⟩ x).setCell ⟨w.heap.size + 2, 1, none⟩ y) b r H :=
  hR.keeps (keeps_two _ _ _ _) (by omega) hr
theorem Trs.kfin {W : World} {q v : Rf} {S : Nat → Prop} (h : Keeps S w W) (x y : Value) : Keeps S w ((W.setCell ⟨w.heap.size + 2, 0, none⟩ x).setCell ⟨w.heap.size + 2, 1, none⟩ y) :=
  (h.setCell (p := ⟨w.heap.size + 2, 0, none⟩) (.inr (by simp)) _).setCell (p := ⟨w.heap.size + 2, 1, none⟩) (.inr (by simp)) _
theorem Trs.kb {W W' : World} {q v : Rf} (h : Trs w W q v) (hk : Keeps (fun y => y = b) W W') (hb : b < w.heap.size) : W'.heap[w.heap.size + 2]? = some (.cells #[.int .i64 0, .int .u32 0] 39) := block_keep h.c hk (by omega)
end

end Go.Proofs.YtnjgkhgdgpahfaaGreat

namespace Go.Proofs.YtnjgkhgdgpahfaaGreat
open Go.RowKit
set_option linter.unusedVariables false
set_option linter.unusedSimpArgs false

section
variable {w w' : World} {b r : Nat} {H : Hp}
set_option maxRecDepth 100000 in
set_option maxHeartbeats 1000000 in
theorem copy14 (h : R14 w b r H) :
    Calls Tryz.prog 119 #[.pointer (some ⟨b, 0, none⟩)] w fun e w' => ∃ b' r', e = .returned (.pointer (some ⟨b', 0, none⟩)) ∧ Keeps (fun _ => False) w w' ∧ w.heap.size ≤ b' ∧ w.heap.size ≤ r' ∧ R14 w' b' r' H := by
  obtain ⟨cap, m1, m2, hsl⟩ := h.sl
  obtain ⟨hlb, hlr⟩ := h.lt
  have n1 := h.n1; have n2 := h.n2
  obtain ⟨ri, hi1, hi2, hi3, hi4⟩ := slot_info
  have HM := hid h.made
  have HE := hid (And.intro h.n1 (And.intro h.n2 (And.intro h.good h.gn)))
  obtain ⟨n, hnn⟩ : ∃ n, H.T.n = n := ⟨_, rfl⟩
  have HNEWS := hid (fun W (hk : Keeps (fun _ => False) w W) => (h.keeps hk (fun h => h) (fun h => h)).news)
  rw [hnn] at hsl m1 n1 n2 HNEWS
  have HN := hid hnn
  have HOWN := hid (World.ownsRow_made (base := w.heap.size) (e := 161) (size := 13) w #[] 0 (by simp) (by simp) rfl)
  clear h hnn
  unfold maxLen at m2
  go_enter Tryz.func119, Tryz.ntmps119
  go_wp2_with (first
    | (go_at_call 120; refine (valid14 b _ HM.out).mono ?_; rintro e w' ⟨rfl, h'⟩; obtain rfl := h'.symm)
    | (at_builtin; refine wpList_append_lies _ rfl _ _ 156 rfl w.heap.size 161 ri (.agg (slotL false false 0 (Ob.new 0 false)).toArray) 13 88 Tryz.underlying156 hi1 hi2 hi3 hi4 rfl (by decide) (.slice (some ⟨w.heap.size, 0, none⟩) 0 0) 0 [] rfl HOWN.out ⟨r, 0, none⟩ n cap (slotsL H.slot n) rfl (by rw [slotsL_len (slot_len H)]) ?c1 ?c2 (by omega) ?c3 ?c4 ?c5 (w.heap.size + 1) (by simp) ?_)
    | fail)
  case c1 => exact HNEWS.out _ ((Keeps.refl _ _).alloc _)
  case c2 => exact slotsL_one (slot_one H) n
  case c3 => simp [maxLen]; omega
  case c4 => omega
  case c5 => simp
  intro g' cap' w3 hown3 hgr hat hlt
  have hgk := grown_keeps hgr
  have hg0 : w.heap.size ≤ g' := by
    rcases hat with h | h
    · simp [Value.ownBlock] at h; omega
    · omega
  have K3 : Keeps (fun _ => False) w w3 := Keeps.fresh (((Keeps.refl (fun y => w.heap.size ≤ y) w).alloc _).trans' hgk (fun _ _ h => h) (fun k hk h => by simp [Value.ownBlock] at h; omega))
  obtain ⟨cur, hcur, k1, k2, k3, k4⟩ := rowS_of (slot_len H) (show w3.ownsRow w.heap.size 161 13 (.slice (some ⟨g', 0, none⟩) n cap') n (slotsL H.slot n) by simpa using hown3)
  have HCUR := hid (And.intro hcur (And.intro k1 (And.intro k2 (And.intro k3 k4)))); have HK3 := hid K3
  clear hcur k1 k2 k3 k4 K3 hown3 hgr hgk hat
  go_wp2_with fail
  go_ret
  obtain ⟨hcur, k1, k2, k3, k4⟩ := HCUR.out
  obtain ⟨e1, e2, e3, e4⟩ := HE.out
  refine ⟨_, g', rfl, HK3.out.alloc _, HK3.out.size, hg0, ⟨cap', by rw [HN.out]; exact k1, k2, by rw [HN.out]; exact alloc_new⟩, ⟨cur, alloc_old hcur, fun i j hi hj => k4 i j (by rw [← HN.out]; exact hi) hj⟩, e1, e2, e3, e4⟩
set_option maxRecDepth 100000 in
set_option maxHeartbeats 2000000 in
theorem new14_ok (n : Nat) (g : Int) (h1 : 1 ≤ n) (h2 : n ≤ 256) (h3 : 1 ≤ g) (h4 : g ≤ 4294967295) :
    Calls Tryz.prog 24 #[.int .i64 n, .int .u32 g] w fun e w' => ∃ b' r', e = .returned (.tuple #[.pointer (some ⟨b', 0, none⟩), .int .i64 0]) ∧ Keeps (fun _ => False) w w' ∧ w.heap.size ≤ b' ∧ w.heap.size ≤ r' ∧ R14 w' b' r' (Hp.new n g) := by
  obtain ⟨ri, hi1, hi2, hi3, hi4⟩ := slot_info
  obtain ⟨sf, hsf⟩ : ∃ sf : Nat → List Value, (fun _ => slotL false false g (Ob.new 0 false)) = sf := ⟨_, rfl⟩
  have hfl : ∀ i, (sf i).length = 13 := fun i => by rw [← hsf]; rfl
  have HSF := hid hsf; have HFL := hid hfl
  clear hsf hfl
  have g1' : ¬ g < 1 := by omega
  have n1' : ¬ (n : Int) < 1 := by omega
  have n2' : ¬ 256 < (n : Int) := by omega
  go_enter Tryz.func24, Tryz.ntmps24
  go_wp2_with fail
  go_loopw [7] (fun ix wr => ∃ (k : Nat) (v : Value), k ≤ n ∧ ix = .int .i64 k ∧ Hid (wr.heap[w.heap.size]? = some (.cells #[.bool true, v] 158)) ∧ Hid (wr.ownsRow (w.heap.size + 1) 161 13 v k (slotsL sf k)) ∧ Hid (Keeps (fun _ => False) w wr)) (fun ix _ => n - (intOf ix).toNat)
  case atStart => exact ⟨0, .slice none 0 0, Nat.zero_le _, rfl, hid alloc_new, hid (World.ownsRow_nil _ _ _ _), hid ((Keeps.refl _ _).alloc _)⟩
  case round =>
    obtain ⟨k, v, hk, rfl, HB, HR, HK⟩ := hrel
    have hk0 : (0 : Int) ≤ k := by omega
    obtain ⟨b0, b1, bf, bl⟩ := cells2 HB.out
    have bf1 := bf 1
    by_cases hlt : k < n
    · have hlt' : (k : Int) < (n : Int) := by omega
      have hsz := HK.out.size
      have HV := hid (HR.out.alloc (.cells (slotA false false g (Ob.new 0 false)) 161))
      have HNW := hid (alloc_new (w := wr) (o := .cells (slotA false false g (Ob.new 0 false)) 161))
      clear bf
      simp only [slotA, Ob.new, Rf.no] at HV HNW
      go_wp2_with (first
        | (at_builtin; refine wpList_append_lies _ rfl _ _ 156 rfl (w.heap.size + 1) 161 ri (.agg (slotL false false 0 (Ob.new 0 false)).toArray) 13 88 Tryz.underlying156 hi1 hi2 hi3 hi4 rfl (by decide) v k (slotsL sf k) rfl HV.out ⟨wr.heap.size, 0, none⟩ 1 1 (slotL false false g (Ob.new 0 false)) rfl rfl ?c1 ?c2 (by omega) ?c3 ?c4 ?c5 (wr.heap.size + 1) (by simp) ?_)
        | fail)
      case c1 =>
        intro j u hj
        rw [Addr.add_mid, Nat.zero_add, cell_block HNW.out j]
        rw [← List.getElem?_toArray] at hj
        exact hj
      case c2 => exact slotL_one _ _ _ _
      case c3 => simp [maxLen]; omega
      case c4 => omega
      case c5 => simp; omega
      intro g' cap' w3 hown3 hgr hat hlt3
      have hgk := grown_keeps hgr
      have hvl := HV.out.lt
      have K3 : Keeps (fun _ => False) w w3 := Keeps.fresh ((((HK.out.up (T := fun y => w.heap.size ≤ y)).alloc _).trans' hgk (fun _ _ h => h) (fun y hy h => by have := (hvl y h).1; omega)))
      have qb := block_keep (alloc_old HB.out) hgk (fun h => by have := (hvl _ h).1; omega)
      obtain ⟨z0, z1, zf, zl⟩ := cells2 qb
      have zf1 := zf 1
      have hg1 : w.heap.size < g' := by
        rcases hat with h | h
        · have := (hvl _ h).1; omega
        · omega
      have HO := hid (show w3.ownsRow (w.heap.size + 1) 161 13 (.slice (some ⟨g', 0, none⟩) (k + 1) cap') (k + 1) (slotsL sf (k + 1)) by
        rw [slotsL_succ, ← HSF.out]
        rw [← HSF.out] at hown3
        exact hown3)
      have K3H := hid K3; have QB := hid qb
      clear hown3 hgr hgk hvl K3 qb zf hat b0 b1 bf1 bl
      go_wp2_with fail
      refine ⟨⟨k + 1, .slice (some ⟨g', 0, none⟩) (k + 1) cap', by omega, by go_num, hid (set_block QB.out 1 _), ?_, hid (Keeps.fresh ((K3H.out.up (T := fun y => w.heap.size ≤ y)).setCell (.inl (Nat.le_refl _)) _))⟩, by simp [intOf]; omega⟩
      obtain ⟨a1, a2⟩ := HO.out
      refine hid ⟨a1, ?_⟩
      rcases a2 with a2 | ⟨g2, cap2, cur2, e1, e2, e3, e4⟩
      · exact .inl a2
      · exact .inr ⟨g2, cap2, cur2, e1, e2, set_oth e3 (by show g2 ≠ w.heap.size; omega), e4⟩
    · obtain rfl : k = n := by omega
      have hlt' : ¬ (k : Int) < (k : Int) := by omega
      go_wp2_with fail
      go_ret2
      have hs : ∀ i, i < k → (Hp.new k g).slot i = sf i := fun i hi => by
        have e1 : (Hp.new k g).T.gn i = g := by show (if i < k then g else 0) = g; rw [if_pos hi]
        rw [← HSF.out]
        show slotL ((0 : Int) == 1) _ ((Hp.new k g).T.gn i) _ = _
        rw [e1]; rfl
      have hgn : ∀ i, i < k → 1 ≤ (Hp.new k g).T.gn i ∧ (Hp.new k g).T.gn i ≤ 4294967295 := fun i hi => by
        have e1 : (Hp.new k g).T.gn i = g := by show (if i < k then g else 0) = g; rw [if_pos hi]
        rw [e1]; exact ⟨h3, h4⟩
      obtain ⟨_, a2⟩ := HR.out
      rcases a2 with ⟨_, e⟩ | ⟨g2, cap2, cur2, rfl, e2, e3, e4⟩
      · omega
      · obtain ⟨cur, hcur, k1, k2, k3, k4⟩ := rowS_of HFL.out HR.out
        refine ⟨_, rfl, HK.out, Nat.le_refl _, g2, by omega, ⟨cap2, k1, k2, HB.out⟩, ⟨cur, hcur, fun i j hi hj => by rw [k4 i j hi hj, hs i hi]⟩, h1, h2, fun i => Ob.new_good ⟨by decide, by decide, fun h => by cases h⟩, hgn⟩
end

end Go.Proofs.YtnjgkhgdgpahfaaGreat
