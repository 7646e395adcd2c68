/- estraylaw19: origins; what lists there are of any arena. -/
import Derived.Test.YtcpljmonmchloaaGreatRcN
import Derived.Test.YtcpljmonmchloaaGreatRcO
namespace Go.Proofs.YtcpljmonmchloaaGreat
open Go.RowKit
set_option linter.unusedVariables false
set_option linter.unusedSimpArgs false

theorem hlen_ok (b t : Nat) (H : Hp) (w : World) (h : HpAt w b t H) :
    Calls Tryz.prog 31 #[.pointer (some ⟨b, 0, none⟩)] w fun e w' => e = .returned (.int .i64 H.T.tk.length) ∧ Keeps (fun _ => False) w w' := by
  have HA := hid (hall_ok b t H w h)
  have hl := Nat.le_trans (tk_len H.T) h.tab.n12.2
  clear h
  obtain ⟨n, hn⟩ : ∃ n, H.T.tk.length = n := ⟨_, rfl⟩
  have HN := hid hn
  rw [hn] at hl ⊢
  clear hn
  go_enter Tryz.func31, Tryz.ntmps31
  go_wp2_with fail
  refine HA.out.mono ?_
  rintro e w1 ⟨v, rfl, hr, hk⟩
  obtain ⟨p, c, hv⟩ := own_shape hr
  obtain rfl := hv
  rw [HN.out]
  have HK := hid hk
  clear hr hk
  go_wp2_with fail
  go_ret
  exact ⟨rfl, HK.out⟩
set_option maxRecDepth 100000 in
theorem origins19 {N : Nat} {w0 : World} (a : Nat) (L : ArL) (A : Ar) (w : World) (h : Ay N w0 w a L A) (hm : A.many = 2) :
    Calls Tryz.prog 28 #[.pointer (some ⟨a, 0, none⟩)] w fun e w' => ∃ v, e = .returned v ∧ Row w' w.heap.size v (A.glL ++ A.stks A.many) ∧ (A.glL ++ A.stks A.many).length ≤ 72 ∧ Keeps (fun _ => False) w w' := by
  have HA := hid (fun W (hk : Keeps (fun _ => False) w W) => (h.quiet hk).ar)
  have HOK := hid h.ok
  have HAG := hid (aglobals_row a L A w h.ar)
  have HM := hid hm
  rw [hm]
  clear h hm
  go_enter Tryz.func28, Tryz.ntmps28
  go_wp2_with fail
  refine HAG.out.mono ?_
  rintro e w3 ⟨v0, rfl, hr3, k3⟩
  have HR3 := hid hr3; have K3 := hid k3
  clear hr3 k3
  go_wp2_with fail
  go_loopw [3, 9] (fun s5 ix wr => ∃ (k : Nat) (l : List Rf) (c : Nat) (p : Option Addr), k ≤ 2 ∧ ix = .int .i64 k ∧ s5 = .slice p l.length c ∧ Hid (Row wr w.heap.size (.slice p l.length c) l) ∧ Hid (l = A.glL ++ A.stks k) ∧ l.length ≤ 8 + 32 * k ∧ Hid (Keeps (fun _ => False) w wr)) (fun _ ix _ => 2 - (intOf ix).toNat)
  case atStart =>
    obtain ⟨p, c, rfl⟩ := HR3.out.refs.slice
    exact ⟨0, A.glL, c, p, Nat.zero_le _, rfl, rfl, HR3, hid (by simp [Ar.stks]), by have := glL_len A; omega, K3⟩
  case round =>
    obtain ⟨k, l, c, p, hk, rfl, rfl, HRl, HGl, hll, HKr⟩ := hrel
    have hk0 : (0 : Int) ≤ k := by omega
    by_cases hlt : k < 2
    · have hlt' : (k : Int) < 2 := by omega
      have hrn := (HOK.out.rt k (by rw [HM.out]; exact hlt)).1
      go_wp2_with fail
      refine (astackall_ok a L A k wr (HA.out _ HKr.out) (by rw [HM.out]; exact hlt)).mono ?_
      rintro e w5 ⟨v7, rfl, hr7, k5⟩
      have HR5 := hid (HRl.out.keeps k5 (fun _ _ _ _ h => h)); have HR7 := hid hr7.refs; have HK5 := hid (HKr.out.trans k5)
      have hlr : (A.rt k).l.length = (A.rt k).n := rt_len A k
      clear hr7 k5
      go_wp2_with (first
        | (at_builtin; refine wpList_append_refs _ rfl _ _ rfl w.heap.size _ _ l (A.rt k).l rfl rfl HR5.out HR7.out (by omega) HK5.out.size ?_; intro v9 w9 hr9 hk9 ho9)
        | fail)
      obtain ⟨p9, c9, rfl⟩ := hr9.refs.slice
      refine ⟨⟨k + 1, l ++ (A.rt k).l, c9, p9, by omega, by go_num, rfl, hid hr9, hid (by rw [stks_succ, HGl.out, List.append_assoc]), by rw [List.length_append]; omega, ?_⟩, by simp [intOf]; omega⟩
      exact hid (HK5.out.trans' hk9 (fun _ _ h => h) (fun y hy hz => by have := (HR5.out.lt y hz).1; omega))
    · have hlt' : ¬ (k : Int) < 2 := by omega
      obtain rfl : k = 2 := by omega
      go_wp2_with fail
      go_ret
      refine ⟨_, rfl, ?_, ?_, HKr.out⟩
      · exact (show ∀ m, l = m → Row wr w.heap.size (.slice p l.length c) m from fun m e => by subst e; exact HRl.out) _ HGl.out
      · have e := congrArg List.length HGl.out
        rw [List.length_append] at e
        first | omega | (rw [List.length_append]; omega)
/-! plain -/
theorem filter_both {α : Type} (p : α → Bool) : ∀ l : List α, (l.filter p).length + (l.filter (fun x => !p x)).length = l.length
  | [] => rfl
  | x :: l => by
    have := filter_both p l
    by_cases h : p x = true
    · simp [List.filter_cons, h]; omega
    · simp [List.filter_cons, h]; omega
theorem all_lost_len (A : Ar) : (srt A.rq.keys).length + A.lostL.length = A.H.T.tk.length := by
  rw [(srt_perm _).length_eq]
  have hp : (A.H.T.tk.filter (fun r => decide (r ∈ A.rq.keys))).Perm A.rq.keys := (List.perm_ext_iff_of_nodup ((tk_nd _).filter _) (rq_nd A)).2 fun q => by
    rw [List.mem_filter, decide_eq_true_eq]
    exact ⟨fun h => h.2, fun h => ⟨(tk_iff rfl).2 (rq_there h), h⟩⟩
  rw [← hp.length_eq]
  exact filter_both _ _
theorem has_all {A : Ar} {r : Rf} (h : r ∈ A.glL ++ A.stks A.many) : (ckV A.H.T r.s r.g == 0) = decide (r ∈ srt A.rq.keys) := by
  by_cases ht : There A.H r
  · rw [show ckV A.H.T r.s r.g = 0 from ht]
    have : r ∈ A.rq.keys := (explQ_mem orig_there).2 (.base (mem_hres.2 ⟨h, ht⟩))
    rw [decide_eq_true (mem_srt.2 this)]
    rfl
  · have h1 : ckV A.H.T r.s r.g ≠ 0 := ht
    rw [decide_eq_false (fun hm => ht (rq_there (mem_srt.1 hm)))]
    simpa using h1
theorem free_stale {A : Ar} {r : Rf} (h : There A.H r) : ckV (A.freeR r).1.H.T r.s r.g = 7 := by
  have h1 : ckV (A.freeR r).1.H.T r.s r.g ≠ 0 := fun e => ((free_there h).1 e).2 rfl
  obtain ⟨h2, h3, _⟩ := h.lt
  have hn := (Ar.freeR_n A r).1
  unfold ckV at h1 ⊢
  rw [if_neg (by rw [hn]; omega)] at h1 ⊢
  split at h1
  · exact absurd rfl h1
  · rename_i hc; rw [if_neg hc]
theorem far_ck {T : Tb} (hn : T.n = 40) {s g : Int} (h : s < 0 ∨ 40 ≤ s) : ckV T s g = 3 := by
  unfold ckV
  rw [if_pos (by rw [hn]; omega)]
theorem thr_one {H : Hp} {r : Rf} (hz : r.nz = true) : thrE H [r] = ckV H.T r.s r.g := by
  by_cases h : ckV H.T r.s r.g = 0 <;> simp [thrE, hz, h]
theorem thr_two {H : Hp} {r : Rf} (hz : r.nz = true) : thrE H [⟨0, 0⟩, r] = ckV H.T r.s r.g := by
  have z : (⟨0, 0⟩ : Rf).nz = false := rfl
  show (if (⟨0, 0⟩ : Rf).nz = false then thrE H [r] else _) = _
  rw [if_pos z]
  exact thr_one hz
theorem mo19_n (x : Mo) (s : Sys) : (x.doR s).A.H.T.n = s.A.H.T.n := by
  cases x with
  | make k n hd => exact (s.A.makeR_n k n hd).1
  | load k i f => exact (s.A.loadR_n k i f).1
  | store k i f j => exact (s.A.storeR_n k i f j).1
  | drop k i => exact (s.A.dropR_n k i).1
  | put k i g => exact (s.A.putR_n k i g).1
  | get k g => exact (s.A.getR_n k g).1
theorem moved_n (l : List Mv) (s : Sys) : (moved s l).A.H.T.n = s.A.H.T.n := by
  induction l generalizing s with
  | nil => rfl
  | cons x l ih => exact (ih _).trans (mo19_n _ _)
theorem pl19_n (l : List Mv) : (Sys.pl19 l).A.H.T.n = 40 := moved_n _ _
end Go.Proofs.YtcpljmonmchloaaGreat
