/- Package quota: the contract of Ask. -/
import Derived.Test.YtmpfhfabmcpiaaaQtA
import Derived.Test.YtmpfhfabmcpiaaaQtC
namespace Go.Proofs.Ytmpfhfabmcpiaaa
open Go.RowKit

theorem quiet_of_same {P : Program} {f : FuncId} {args : Array Value} {w : World} {v : Value} (h : Calls P f args w fun e w' => e = .returned v ∧ w' = w) :
    Calls P f args w fun e w' => e = .returned v ∧ ∃ n, w' = w.drewN n := h.mono fun _ _ ⟨a, b⟩ => ⟨a, 0, b.trans rfl⟩

/-- what a call of Ask leaves: the boxes of its four parameters, and the first list of rules -/
structure Boxes (W : World) (B : Nat) (pv : Option Addr) (u g n : Int) : Prop where
  q : W.heap[B]? = some (.cells #[.pointer pv] 23)
  u : W.heap[B + 1]? = some (.cells #[.int .i64 u] 3)
  g : W.heap[B + 1 + 1]? = some (.cells #[.int .i64 g] 3)
  n : W.heap[B + 1 + 1 + 1]? = some (.cells #[.int .i64 n] 3)

theorem Boxes.keeps {W W' : World} {B : Nat} {pv : Option Addr} {u g n : Int} {S : Nat → Prop} (h : Boxes W B pv u g n) (hk : Keeps S W W') (hS : ∀ x, S x → x < B) : Boxes W' B pv u g n := by
  have k : ∀ x, x < W.heap.size → B ≤ x → W'.heap[x]? = W.heap[x]? := fun x hx hB => hk.block x hx (fun s => by have := hS x s; omega)
  exact ⟨by rw [k _ (lt_block h.q) (by omega)]; exact h.q, by rw [k _ (lt_block h.u) (by omega)]; exact h.u, by rw [k _ (lt_block h.g) (by omega)]; exact h.g, by rw [k _ (lt_block h.n) (by omega)]; exact h.n⟩

theorem boxes_mk (w : World) (pv : Option Addr) (u g n : Int) (o : Obj) :
    Boxes (((((w.alloc (.cells #[.pointer pv] 23)).alloc (.cells #[.int .i64 u] 3)).alloc (.cells #[.int .i64 g] 3)).alloc (.cells #[.int .i64 n] 3)).alloc o) w.heap.size pv u g n :=
  ⟨alloc_old (alloc_old (alloc_old (alloc_old alloc_new))), alloc_old (alloc_old (alloc_old (alloc_new' (by simp)))), alloc_old (alloc_old (alloc_new' (by simp))), alloc_old (alloc_new' (by simp))⟩

/-- the first list -/
theorem ask_first (W : World) (B : Nat) (pv : Option Addr) (r : Bool) (u g n : Int) (hm : Mk W pv r) (hB : Boxes W B pv u g n)
    (hb : W.heap[B + 1 + 1 + 1 + 1]? = some (.cells #[.func (.func 24) #[] #[.pointer (some ⟨B, 0, none⟩)], .int .i64 1, .func (.func 25) #[] #[.pointer (some ⟨B + 1, 0, none⟩), .pointer (some ⟨B + 1 + 1 + 1, 0, none⟩)], .int .i64 2,
      .func (.func 26) #[] #[.pointer (some ⟨B + 1 + 1, 0, none⟩), .pointer (some ⟨B + 1 + 1 + 1, 0, none⟩)], .int .i64 2] 56)) :
    Calls Try.prog 23 #[.slice (some ⟨B + 1 + 1 + 1 + 1, 0, none⟩) 3 3] W fun e w' => e = .returned (.int .i64 (first3V (!r) (bad2 u n) (bad3 g n) 1 2 2)) ∧ Keeps (fun _ => False) W w' := by
  refine first3 _ _ _ _ _ _ _ _ _ _ _ _ _ _ hb (fun _ => rfl) (fun _ => rfl) (fun _ => rfl) ?_ ?_ ?_
  · intro w hk
    have h := hB.keeps hk (fun _ h => h.elim)
    exact quiet_of_same (ask1_any _ pv r w (cell_block h.q 0) (hm.keeps hk))
  · intro w hk _
    have h := hB.keeps hk (fun _ h => h.elim)
    exact quiet_of_same (ask2_any _ _ u n w (cell_block h.u 0) (cell_block h.n 0))
  · intro w hk _ h2
    have h := hB.keeps hk (fun _ h => h.elim)
    simp [bad2] at h2
    exact quiet_of_same (ask3_any _ _ g n w (by omega) (by omega) (cell_block h.g 0) (cell_block h.n 0))

theorem ask_first0 (w : World) (pv : Option Addr) (r : Bool) (u g n : Int) (hm : Mk w pv r) :
    Calls Try.prog 23 #[.slice (some ⟨w.heap.size + 1 + 1 + 1 + 1, 0, none⟩) 3 3]
      (((((w.alloc (.cells #[.pointer pv] 23)).alloc (.cells #[.int .i64 u] 3)).alloc (.cells #[.int .i64 g] 3)).alloc (.cells #[.int .i64 n] 3)).alloc
        (.cells #[.func (.func 24) #[] #[.pointer (some ⟨w.heap.size, 0, none⟩)], .int .i64 1, .func (.func 25) #[] #[.pointer (some ⟨w.heap.size + 1, 0, none⟩), .pointer (some ⟨w.heap.size + 1 + 1 + 1, 0, none⟩)], .int .i64 2,
          .func (.func 26) #[] #[.pointer (some ⟨w.heap.size + 1 + 1, 0, none⟩), .pointer (some ⟨w.heap.size + 1 + 1 + 1, 0, none⟩)], .int .i64 2] 56))
      fun e w' => e = .returned (.int .i64 (first3V (!r) (bad2 u n) (bad3 g n) 1 2 2)) ∧ Keeps (fun _ => False) w w' ∧ Boxes w' w.heap.size pv u g n := by
  have hk0 : ∀ o, Keeps (fun _ => False) w (((((w.alloc (.cells #[.pointer pv] 23)).alloc (.cells #[.int .i64 u] 3)).alloc (.cells #[.int .i64 g] 3)).alloc (.cells #[.int .i64 n] 3)).alloc o) :=
    fun o => (((((Keeps.refl (fun _ => False) w).alloc _).alloc _).alloc _).alloc _).alloc _
  refine (ask_first _ w.heap.size pv r u g n (hm.keeps (hk0 _)) (boxes_mk w pv u g n _) (alloc_new' (by simp))).mono ?_
  rintro e w' ⟨rfl, hk⟩
  exact ⟨rfl, (hk0 _).trans hk, (boxes_mk w pv u g n _).keeps hk (fun _ h => h.elim)⟩

theorem ask_bad (pv : Option Addr) (r : Bool) (u g n : Int) (w : World) (hm : Mk w pv r) (x : Int) (hx : first3V (!r) (bad2 u n) (bad3 g n) 1 2 2 = x) (h0 : x = 1 ∨ x = 2) :
    Calls Try.prog 11 #[.pointer pv, .int .i64 u, .int .i64 g, .int .i64 n] w fun e w' => e = .returned (.int .i64 x) ∧ Keeps (fun _ => False) w w' := by
  have HF := hid (ask_first0 w pv r u g n hm)
  rw [hx] at HF
  have h1 : (x != 0) = true := by rcases h0 with rfl | rfl <;> rfl
  clear h0 hm hx
  go_enter Try.func11, Try.ntmps11
  go_wp2_with fail
  refine HF.out.mono ?_
  rintro e w' ⟨rfl, hk, _⟩
  have HK := hid hk; clear hk
  go_wp2
  go_ret
  exact ⟨rfl, HK.out⟩

theorem bad_none (u g n : Int) (h : first3V (!true) (bad2 u n) (bad3 g n) 1 2 2 = 0) : 0 ≤ u ∧ 0 ≤ n ∧ n ≤ 1099511627776 ∧ (g = n ∨ g = n + 1) := by
  rcases h2 : bad2 u n with _ | _
  · rcases h3 : bad3 g n with _ | _
    · simp [bad2] at h2
      simp [bad3] at h3
      omega
    · simp [first3V, h2, h3] at h
  · simp [first3V, h2] at h

/-- the second list's block -/
def rules2 (B : Nat) : Obj := .cells #[.func (.func 27) #[] #[.pointer (some ⟨B + 1, 0, none⟩), .pointer (some ⟨B, 0, none⟩)], .int .i64 0,
  .func (.func 28) #[] #[.pointer (some ⟨B, 0, none⟩), .pointer (some ⟨B + 1 + 1, 0, none⟩), .pointer (some ⟨B + 1 + 1 + 1, 0, none⟩)], .int .i64 13, .func (.func 30) #[] #[], .int .i64 12] 56

theorem ask6_any (w : World) : Calls Try.prog 30 #[] w fun e w' => e = .returned (.bool true) ∧ w' = w := by
  go_enter Try.func30, Try.ntmps30
  go_wp2
  go_ret
  exact ⟨rfl, rfl⟩

/-- what Ask answers where the numbers are possible -/
def askV (m u n : Int) (c : Option Int) : Int := if u < m then 0 else match c with | none => 13 | some k => if n < k then 13 else 12
def askC (m u g : Int) (c : Option Int) : Option Int := if u < m then none else match c with | none => some (g + 1) | some k => some k

theorem ask_second (w : World) (b B : Nat) (m u g n : Int) (c : Option Int) (g0 : 0 ≤ g) (g1 : g ≤ 1099511627777) (hB : Boxes w B (some ⟨b, 0, none⟩) u g n) (hq : QtAt w b m c) (hc : u < m → c = none) :
    Calls Try.prog 23 #[.slice (some ⟨w.heap.size, 0, none⟩) 3 3] (w.alloc (rules2 B)) fun e w' => e = .returned (.int .i64 (askV m u n c)) ∧ Keeps (· = b) w w' ∧ QtAt w' b m (askC m u g c) := by
  have hk0 : Keeps (fun _ => False) w (w.alloc (rules2 B)) := (Keeps.refl _ _).alloc _
  have up : ∀ {w w' : World}, Keeps (fun _ => False) w w' → Keeps (· = b) w w' := fun h => h.mono (fun _ _ h => h.elim)
  have h4 : ∀ w', Keeps (fun _ => False) (w.alloc (rules2 B)) w' → Calls Try.prog 27 #[.pointer (some ⟨B + 1, 0, none⟩), .pointer (some ⟨B, 0, none⟩)] w' fun e w'' => e = .returned (.bool (decide (u < m))) ∧ ∃ n, w'' = w'.drewN n := by
    intro w' hk
    have hB' := hB.keeps (hk0.trans hk) (fun _ h => h.elim)
    exact ask4_any _ _ b u m w' (cell_block hB'.u 0) (cell_block hB'.q 0) (hq.keeps (hk0.trans hk)).cell
  by_cases hu : u < m
  · obtain rfl := hc hu
    refine (first3 _ _ _ _ _ _ _ _ _ _ (decide (u < m)) true true _ alloc_new (fun _ => rfl) (fun _ => rfl) (fun _ => rfl) h4 ?_ ?_).mono ?_
    · intro _ _ h; simp [hu] at h
    · intro _ _ h; simp [hu] at h
    · rintro e w' ⟨rfl, hk⟩
      exact ⟨ret_int (by simp [first3V, hu, askV]), up (hk0.trans hk), by simpa [askC, hu] using hq.keeps (hk0.trans hk)⟩
  · rcases c with _ | k
    · refine (first3b _ b _ _ _ _ _ _ _ _ _ (fun w' => QtAt w' b m (some (g + 1))) _ (by have := hq.lt; simp; omega) alloc_new (fun _ => rfl) (fun _ => rfl) (fun _ => rfl) ?_ ?_).mono ?_
      · intro w' hk
        have := h4 w' hk
        simpa [hu] using this
      · intro w' hk
        have hB' := hB.keeps (hk0.trans hk) (fun _ h => h.elim)
        exact ask5_yes _ _ _ b g m w' g0 g1 (hq.keeps (hk0.trans hk)) (cell_block hB'.q 0) (cell_block hB'.g 0)
      · rintro e w' ⟨rfl, hk, hR⟩
        exact ⟨ret_int (by simp [askV, hu]), (up hk0).trans hk, by simpa [askC, hu] using hR⟩
    · refine (first3 _ _ _ _ _ _ _ _ _ _ (decide (u < m)) (decide (n < k)) true _ alloc_new (fun _ => rfl) (fun _ => rfl) (fun _ => rfl) h4 ?_ ?_).mono ?_
      · intro w' hk _
        have hB' := hB.keeps (hk0.trans hk) (fun _ h => h.elim)
        exact ask5_no _ _ _ b g m k n w' (hq.keeps (hk0.trans hk)) (cell_block hB'.q 0) (cell_block hB'.g 0) (cell_block hB'.n 0)
      · intro w' hk _ _
        exact quiet_of_same (ask6_any w')
      · rintro e w' ⟨rfl, hk⟩
        exact ⟨ret_int (by by_cases hn : n < k <;> simp [first3V, hu, askV, hn]), up (hk0.trans hk), by simpa [askC, hu] using hq.keeps (hk0.trans hk)⟩

theorem ask_ok (b : Nat) (m u g n : Int) (c : Option Int) (w : World) (h : QtAt w b m c) (hm : 0 < m) (h0 : first3V (!true) (bad2 u n) (bad3 g n) 1 2 2 = 0) :
    Calls Try.prog 11 #[.pointer (some ⟨b, 0, none⟩), .int .i64 u, .int .i64 g, .int .i64 n] w fun e w' => e = .returned (.int .i64 (askV m u n c)) ∧ Keeps (· = b) w w' ∧ QtAt w' b m (askC m u g c) := by
  obtain ⟨b1, b2, b3, b4⟩ := bad_none u g n h0
  have HF := hid (ask_first0 w _ true u g n (h.mk (by omega)))
  rw [h0] at HF
  have HQ := hid h; clear h h0
  have HM := hid hm; clear hm
  have B4 := hid b4; clear b4
  have HE : Hid (∀ w', QtAt w' b m c → Calls Try.prog 10 #[.pointer (some ⟨b, 0, none⟩), .int .i64 u] w' fun e w'' => e = .returned (.tuple #[]) ∧ Keeps (· = b) w' w'' ∧ ∃ c', QtAt w'' b m c' ∧ (u < m → c' = none) ∧ askV m u n c' = askV m u n c ∧ askC m u g c' = askC m u g c) := by
    intro w' hq
    by_cases hu : u < m
    · refine (eased_in b m u c w' hq b1 hu).mono ?_
      rintro e w'' ⟨rfl, hk, hq'⟩
      exact ⟨rfl, hk, none, hq', fun _ => rfl, by simp [askV, hu], by simp [askC, hu]⟩
    · refine (eased_out b m u c w' hq HM.out hu).mono ?_
      rintro e w'' ⟨rfl, rfl⟩
      exact ⟨rfl, Keeps.refl _ _, c, hq, fun h => absurd h hu, rfl, rfl⟩
  go_enter Try.func11, Try.ntmps11
  go_wp2_with fail
  refine HF.out.mono ?_
  rintro e w' ⟨rfl, hk, hB⟩
  have HK := hid hk
  have HB := hid hB
  have q1 := cell_at (i := 0) hB.q rfl
  have q2 := cell_at (i := 0) hB.u rfl
  clear hk hB
  go_wp2_with fail
  refine (HE.out w' (HQ.out.keeps HK.out)).mono ?_
  rintro e w2 ⟨rfl, hk2, c', hq2, hc', hv1, hv2⟩
  have hl := HQ.out.lt
  have HK2 := hid hk2
  have HS := hid (ask_second w2 b w.heap.size m u g n c' (by have := B4.out; omega) (by have := B4.out; omega) (HB.out.keeps hk2 (fun x hx => by omega)) hq2 hc')
  rw [hv1, hv2] at HS
  unfold rules2 at HS
  clear hk2 hq2 hc' hv1 hv2
  go_wp2_with fail
  refine HS.out.mono ?_
  rintro e w3 ⟨rfl, hk3, hq3⟩
  go_wp2
  go_ret
  exact ⟨rfl, ((HK.out.mono (fun _ _ h => h.elim)).trans HK2.out).trans hk3, hq3⟩

end Go.Proofs.Ytmpfhfabmcpiaaa
