/- Package audit: Spaced, whole; the question that AuditBegins asks. -/
import Derived.Test.YtcagogkgnnckaaaGreatDoorAuX
namespace Go.Proofs.YtcagogkgnnckaaaGreatDoor
open Go.RowKit
set_option linter.unusedVariables false
set_option linter.unusedSimpArgs false

theorem ck_ok {l : List At} (h : ckL l = 0) : l.length ≤ 10000 ∧ ∀ a ∈ l, a.ok = true := by
  unfold ckL at h
  split at h
  · cases h
  · rename_i h1
    refine ⟨by omega, ?_⟩
    cases hc : l.all At.ok with
    | false => rw [hc] at h; cases h
    | true => exact fun a ha => List.all_eq_true.1 hc a ha
set_option maxRecDepth 100000 in
set_option maxHeartbeats 1000000 in
theorem aspaced (o mu st bu qu qt ba base cap fi E : Int) (v : Value) (l : List At) (w : World) (hv : AtRow w v l)
    (hmc : ∀ W, Calls Tryz.prog 20 #[.agg #[.int .i64 o, .int .i64 mu, .int .i64 st, .int .i64 bu, .int .i64 qu, .int .i64 qt, .int .i64 ba, .int .i64 base, .int .i64 cap, .int .u32 fi]] W fun e w' => e = .returned (.int .i64 E) ∧ Keeps (fun _ => False) W w') :
    Calls Tryz.prog 11 #[.agg #[.int .i64 o, .int .i64 mu, .int .i64 st, .int .i64 bu, .int .i64 qu, .int .i64 qt, .int .i64 ba, .int .i64 base, .int .i64 cap, .int .u32 fi], v] w fun e w' =>
      e = .returned (if E = 0 then ansV (ckL l) (runs (spacedF base cap) (fun _ => ⟨0, 0, false⟩) l 0) else .tuple #[.bool false, .int .i64 0, .int .i64 E]) ∧ Keeps (fun _ => False) w w' := by
  have HV := hid hv
  have HM := hid hmc
  clear hv hmc
  have hmm := @run_makeMap Tryz.prog
  by_cases hE : E = 0
  · subst hE
    rw [if_pos rfl]
    go_enter Tryz.func11, Tryz.ntmps11
    go_wp2_with fail
    refine (HM.out _).mono ?_
    rintro e w1 ⟨rfl, k1⟩
    have hb := block_keep (alloc_new (w := w)) k1 (fun h => h)
    have kk : Keeps (fun _ => False) w w1 := (Keeps.r (a := w)).trans k1
    have HB := hid hb
    have HK := hid kk
    clear k1 hb kk
    go_wp2_with fail
    have hlt := lt_block HB.out
    have HI := hid (show SpI (w1.heap.size + 1) w.heap.size w1.heap.size base cap (fun _ => ⟨0, 0, false⟩) ((w1.alloc (.map #[] 0)).alloc (.cells #[.map (some w1.heap.size)] 58)) from
      ⟨alloc_new' (by simp), ⟨_, alloc_old (alloc_old HB.out), rfl, rfl⟩, ⟨_, (OM.made w1).keeps (Keeps.r (S := fun _ => False)) (fun h => h), fun _ => rfl⟩, by omega, by omega⟩)
    refine (afirst (spacedF base cap) (fun _ => ⟨0, 0, false⟩) 21 #[.pointer (some ⟨w1.heap.size + 1, 0, none⟩), .pointer (some ⟨w.heap.size, 0, none⟩)] v l _ (fun y => y = w1.heap.size) (SpI (w1.heap.size + 1) w.heap.size w1.heap.size base cap) (enters_of Tryz.func21 (by kernel_rfl) rfl)
      (fun j a W hj hc hI hk => by
        obtain ⟨hlen, hok⟩ := ck_ok hc
        have hm := List.mem_of_getElem? hj
        have hsm := spaced_small base cap (l.take j) (fun a ha => hok a (List.mem_of_mem_take ha)) a.o
        have : ((l.take j).length : Int) ≤ 10000 := by simp; omega
        exact spaced1 _ _ _ base cap _ a (HV.out.wf a hm) (hok a hm) W hI ⟨hsm.1, hsm.2.1, hsm.2.2.1, by omega⟩) (fun s W W' h hk => h.keeps hk)
      (fun W hk => HV.out.keeps ((HK.out.up.trans (Keeps.r (S := fun y => y = w1.heap.size) (a := w1))).trans hk) (fun k hk h => by have := HK.out.size; omega)) HI.out).mono ?_
    rintro e w2 ⟨rfl, k2⟩
    have K2 := hid (show Keeps (fun _ => False) w w2 from (HK.out.up.trans ((Keeps.r (a := w1) (S := fun y => y = w1.heap.size)).trans k2)).mono fun y hy h => by have := HK.out.size; omega)
    obtain ⟨x, y, z, hxyz⟩ := ansV_shape (ckL l) (runs (spacedF base cap) (fun _ => ⟨0, 0, false⟩) l 0)
    rw [hxyz]
    have HZ := hid hxyz
    clear k2 HI hxyz
    go_wp2_with fail
    go_ret3
    exact ⟨congrArg Ending.returned HZ.out.symm, K2.out⟩
  · rw [if_neg hE]
    go_enter Tryz.func11, Tryz.ntmps11
    go_wp2_with fail
    refine (HM.out _).mono ?_
    rintro e w1 ⟨rfl, k1⟩
    have HK := hid (show Keeps (fun _ => False) w w1 from (Keeps.r (a := w)).trans k1)
    clear k1
    go_wp2_with fail
    go_ret3
    exact ⟨rfl, HK.out⟩

/-- the four questions, by number -/
def askN (n : Nat) (l : List At) : Option Nat := match n with
  | 0 => runs onceF (fun _ => false) l 0
  | 1 => runs endF (fun _ => false) l 0
  | 2 => runs steadyF (fun _ => none, 0) l 0
  | _ => runs (spacedF 2 8) (fun _ => ⟨0, 0, false⟩) l 0
theorem askN_take (n : Nat) (l : List At) (k : Nat) : askN n (l.take k) = (match askN n l with | some j => if j < k then some j else none | none => none) := by
  match n with
  | 0 => exact runs_take _ _ _ _
  | 1 => exact runs_take _ _ _ _
  | 2 => exact runs_take _ _ _ _
  | n + 3 => exact runs_take _ _ _ _
theorem askN_lt {n : Nat} {l : List At} {j : Nat} (h : askN n l = some j) : j < l.length := by
  match n, h with
  | 0, h => have := runs_le _ _ _ _ _ h; omega
  | 1, h => have := runs_le _ _ _ _ _ h; omega
  | 2, h => have := runs_le _ _ _ _ _ h; omega
  | n + 3, h => have := runs_le _ _ _ _ _ h; omega
def rtI (r : Option Nat) : Int := match r with | some j => j | none => 0
theorem ans0 (r : Option Nat) : ansV 0 r = .tuple #[.bool r.isNone, .int .i64 (rtI r), .int .i64 0] := by cases r <;> rfl
set_option maxRecDepth 100000 in
set_option maxHeartbeats 1000000 in
theorem ask_ok (n : Nat) (hn : n < 4) (b p : Nat) (v : Value) (l : List At) (w : World) (hb : w.heap[b]? = some (.cells #[.int .i64 n] 3))
    (hp : w.heap[p]? = some (.cells #[.int .i64 8, .int .i64 1, .int .i64 4, .int .i64 4, .int .i64 4, .int .i64 2, .int .i64 4, .int .i64 2, .int .i64 8, .int .u32 1] 28)) (hv : AtRow w v l) (hok : ckL l = 0)
    (hmc : ∀ W, Calls Tryz.prog 20 #[.agg #[.int .i64 8, .int .i64 1, .int .i64 4, .int .i64 4, .int .i64 4, .int .i64 2, .int .i64 4, .int .i64 2, .int .i64 8, .int .u32 1]] W fun e w' => e = .returned (.int .i64 0) ∧ Keeps (fun _ => False) W w') :
    Calls Tryz.prog 7 #[v, .pointer (some ⟨b, 0, none⟩), .pointer (some ⟨p, 0, none⟩)] w fun e w' => e = .returned (.tuple #[.bool (askN n l).isNone, .int .i64 (rtI (askN n l))]) ∧ Keeps (fun _ => False) w w' := by
  have c0 := cell_at (i := 0) hb rfl
  have p0 := cell_at (i := 0) hp rfl
  have p1 := cell_at (i := 1) hp rfl
  have p2 := cell_at (i := 2) hp rfl
  have p3 := cell_at (i := 3) hp rfl
  have p4 := cell_at (i := 4) hp rfl
  have p5 := cell_at (i := 5) hp rfl
  have p6 := cell_at (i := 6) hp rfl
  have p7 := cell_at (i := 7) hp rfl
  have p8 := cell_at (i := 8) hp rfl
  have p9 := cell_at (i := 9) hp rfl
  have HV := hid hv
  have HL := hid hok
  have HM := hid hmc
  clear hb hp hv hok hmc
  match n, hn with
  | 0, _ =>
    have HR := hid (aonce v l w HV.out)
    rw [HL.out, ans0] at HR
    show Calls _ _ _ _ fun e w' => e = .returned (.tuple #[.bool (runs onceF (fun _ => false) l 0).isNone, .int .i64 (rtI (runs onceF (fun _ => false) l 0))]) ∧ _
    generalize (runs onceF (fun _ => false) l 0).isNone = x at HR ⊢
    generalize rtI (runs onceF (fun _ => false) l 0) = y at HR ⊢
    go_enter Tryz.func7, Tryz.ntmps7
    go_wp2_with fail
    refine HR.out.mono ?_
    rintro e w1 ⟨rfl, k1⟩
    have K1 := hid k1
    clear k1
    go_wp2_with fail
    go_ret2
    exact ⟨rfl, K1.out⟩
  | 1, _ =>
    have HR := hid (aended v l w HV.out)
    rw [HL.out, ans0] at HR
    show Calls _ _ _ _ fun e w' => e = .returned (.tuple #[.bool (runs endF (fun _ => false) l 0).isNone, .int .i64 (rtI (runs endF (fun _ => false) l 0))]) ∧ _
    generalize (runs endF (fun _ => false) l 0).isNone = x at HR ⊢
    generalize rtI (runs endF (fun _ => false) l 0) = y at HR ⊢
    go_enter Tryz.func7, Tryz.ntmps7
    go_wp2_with fail
    refine HR.out.mono ?_
    rintro e w1 ⟨rfl, k1⟩
    have K1 := hid k1
    clear k1
    go_wp2_with fail
    go_ret2
    exact ⟨rfl, K1.out⟩
  | 2, _ =>
    have HR := hid (asteady v l w HV.out)
    rw [HL.out, ans0] at HR
    show Calls _ _ _ _ fun e w' => e = .returned (.tuple #[.bool (runs steadyF (fun _ => none, 0) l 0).isNone, .int .i64 (rtI (runs steadyF (fun _ => none, 0) l 0))]) ∧ _
    generalize (runs steadyF (fun _ => none, 0) l 0).isNone = x at HR ⊢
    generalize rtI (runs steadyF (fun _ => none, 0) l 0) = y at HR ⊢
    go_enter Tryz.func7, Tryz.ntmps7
    go_wp2_with fail
    refine HR.out.mono ?_
    rintro e w1 ⟨rfl, k1⟩
    have K1 := hid k1
    clear k1
    go_wp2_with fail
    go_ret2
    exact ⟨rfl, K1.out⟩
  | 3, _ =>
    have HR := hid (aspaced 8 1 4 4 4 2 4 2 8 1 0 v l w HV.out HM.out)
    rw [if_pos rfl, HL.out, ans0] at HR
    show Calls _ _ _ _ fun e w' => e = .returned (.tuple #[.bool (runs (spacedF 2 8) (fun _ => ⟨0, 0, false⟩) l 0).isNone, .int .i64 (rtI (runs (spacedF 2 8) (fun _ => ⟨0, 0, false⟩) l 0))]) ∧ _
    generalize (runs (spacedF 2 8) (fun _ => ⟨0, 0, false⟩) l 0).isNone = x at HR ⊢
    generalize rtI (runs (spacedF 2 8) (fun _ => ⟨0, 0, false⟩) l 0) = y at HR ⊢
    go_enter Tryz.func7, Tryz.ntmps7
    go_wp2_with fail
    refine HR.out.mono ?_
    rintro e w1 ⟨rfl, k1⟩
    have K1 := hid k1
    clear k1
    go_wp2_with fail
    go_ret2
    exact ⟨rfl, K1.out⟩
end Go.Proofs.YtcagogkgnnckaaaGreatDoor
