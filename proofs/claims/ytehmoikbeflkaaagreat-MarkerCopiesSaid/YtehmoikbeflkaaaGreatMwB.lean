/- estraylaw24: systems: made, turn, collect (while a handshake goes on). -/
import Derived.Test.YtehmoikbeflkaaaGreatMwD
import Derived.Test.YtehmoikbeflkaaaGreatMgP
import Derived.Test.YtehmoikbeflkaaaGreatMgO
import Derived.Test.YtehmoikbeflkaaaGreatCgA
namespace Go.Proofs.YtehmoikbeflkaaaGreat
open Go.RowKit Go.ChangeShapes Go.WideShapes Go.ChangeAt Go.Deep
set_option linter.unusedVariables false
set_option linter.unusedSimpArgs false
set_option linter.unusedSectionVars false

def Sys.new4 (n k s q : Nat) : Sys := ⟨Ar.new n k 1, Mk.new n k s q⟩
set_option maxRecDepth 100000 in
set_option maxHeartbeats 2000000 in
theorem smade (x y z u : Nat) (w : World) (hx : x < 256) (hy : y < 256) (hz : z < 256) (hu : u < 256) :
    Calls Tryz.prog 43 #[.agg #[.int .u8 x, .int .u8 y, .int .u8 z, .int .u8 u]] w fun e w' => ∃ p w0 a m LA LM, e = .returned (.pointer (some ⟨p, 0, none⟩)) ∧ Keeps (fun _ => False) w w0 ∧ Sy w0 w' p a m LA LM (Sys.new4 (1 + x % 16) (1 + y % 4) (1 + z % 8) (1 + u % 4)) (.slice none 0 0) := by
  obtain ⟨n, hn⟩ : ∃ n, 1 + x % 16 = n := ⟨_, rfl⟩
  obtain ⟨k, hk⟩ : ∃ k, 1 + y % 4 = k := ⟨_, rfl⟩
  obtain ⟨s, hs⟩ : ∃ s, 1 + z % 8 = s := ⟨_, rfl⟩
  obtain ⟨q, hq⟩ : ∃ q, 1 + u % 4 = q := ⟨_, rfl⟩
  have HI1 := hid (show 1 + (x : Int) % 16 = (n : Int) by omega)
  have HI2 := hid (show 1 + (y : Int) % 4 = (k : Int) by omega)
  have HI3 := hid (show 1 + (z : Int) % 8 = (s : Int) by omega)
  have HI4 := hid (show 1 + (u : Int) % 4 = (q : Int) by omega)
  rw [hn, hk, hs, hq]
  have HAN := hid (fun W => anew_ok n k 1 W (by omega) (by omega) (by omega) (by omega) (by omega) (by omega))
  have HMN := hid (fun W => mnew_ok n k s q W (by omega) (by omega) (by omega) (by omega) (by omega) (by omega) (by omega) (by omega))
  obtain ⟨wA, hwA⟩ : ∃ wA, w.alloc (.cells #[.int .u8 x, .int .u8 y, .int .u8 z, .int .u8 u] 69) = wA := ⟨_, rfl⟩
  have kA : Keeps (fun _ => False) w wA := by rw [← hwA]; exact (Keeps.refl _ _).alloc _
  have qA : wA.heap[w.heap.size]? = some (.cells #[.int .u8 x, .int .u8 y, .int .u8 z, .int .u8 u] 69) := by rw [← hwA]; exact alloc_new
  have HKA := hid kA; have HQA := hid qA; have HW := hid hwA
  obtain ⟨b0, b1, b2, b3, bl⟩ := cells4 qA
  clear kA qA hwA hn hk hs hq
  go_enter Tryz.func43, Tryz.ntmps43
  go_upto_region 1 with (fail)
  rw [HW.out]
  go_quiet (fail)
  rw [HI1.out, HI2.out]
  obtain ⟨wB, hwB⟩ : ∃ wB, wA.drewN nq = wB := ⟨_, rfl⟩
  rw [hwB]
  have kB : Keeps (fun _ => False) wA wB := by rw [← hwB]; exact (Keeps.refl _ _).drewN _
  have HKB := hid kB
  clear hwB kB b0 b1 b2 b3 bl
  go_wp2_with fail
  refine (HAN.out _).mono ?_
  rintro e w1 ⟨a, rfl, k1, ha⟩
  rw [Int.toNat_natCast] at ha
  have HK1 := hid k1; have HA1 := hid ha
  obtain ⟨b0, b1, b2, b3, bl⟩ := cells4 (block_keep HQA.out (HKB.out.trans k1) (fun h => h))
  clear k1 ha
  go_wp2_with fail
  rw [HI3.out, HI4.out]
  refine (HMN.out _).mono ?_
  rintro e w2 ⟨rfl, k2, LM, hm, hb⟩
  have HK2 := hid k2; have HM2 := hid hm; have HB2 := hid hb
  clear k2 hm hb b0 b1 b2 b3 bl
  go_wp2_with fail
  obtain ⟨LA, hd⟩ := Duo.new (w0 := wB) (A := Ar.new n k 1) (M := Mk.new n k s q) HK1.out HA1.out HK2.out HM2.out HB2.out
  have hz0 := HKA.out.size; have hz1 := HK1.out.size; have hz2 := HK2.out.size; have hzB := HKB.out.size
  refine bodyPost_ret_by (v := .pointer (some ⟨w2.heap.size, 0, none⟩)) (by simp [results, Tryz.results43, go_sem, *]) rfl ⟨w2.heap.size, wB, a, w1.heap.size, LA, LM, rfl, HKA.out.trans HKB.out, ⟨Duo.same hd ((Keeps.refl _ _).alloc _), alloc_new, by omega⟩⟩
variable {w0 w w' : World} {p a m : Nat} {LA : ArL} {LM : MkL} {s : Sys} {lv : Value}

theorem Sy.ack (h : Sy w0 w p a m LA LM s lv) (hok : s.Ok) (i : Int) : Calls Tryz.prog 50 #[.pointer (some ⟨m, 0, none⟩), .pointer (some ⟨a, 0, none⟩), .int .i64 i] w
    fun e w' => (∃ u v, e = .returned (.tuple #[.bool u, .int .i64 v])) ∧ Sy w0 w' p a m LA LM ⟨s.A, (s.M.ackR s.A i).M⟩ lv ∧ Keeps (foot2 LA LM s) w w' :=
  (duo_ack_any h.both hok.n hok.k i).mono fun e w' ⟨h1, h2⟩ => ⟨⟨_, _, h1⟩, h.mark h2 (Sys.ack_next hok i).2.2.2.1⟩
theorem Sy.stepM (h : Sy w0 w p a m LA LM s lv) (hok : s.Ok) (hcy : s.M.K.cy < 4611686018427387904) : Calls Tryz.prog 132 #[.pointer (some ⟨m, 0, none⟩), .pointer (some ⟨a, 0, none⟩)] w
    fun e w' => e = .returned (.int .i64 0) ∧ Sy w0 w' p a m LA LM s.step lv ∧ Keeps (foot2 LA LM s) w w' :=
  (duo_step_any h.both hok.m hok.n hok.k hcy).mono fun e w' ⟨h1, h2⟩ => ⟨h1, h.mark h2 (Sys.step_next hok).2.1⟩
theorem Sy.beginM (h : Sy w0 w p a m LA LM s lv) : Calls Tryz.prog 131 #[.pointer (some ⟨m, 0, none⟩)] w
    fun e w' => e = .returned (.int .i64 s.M.beginR.2) ∧ Sy w0 w' p a m LA LM s.begun lv ∧ Keeps (foot2 LA LM s) w w' :=
  (duo_begin_any h.both).mono fun e w' ⟨h1, h2⟩ => ⟨h1, h.mark h2 (by unfold Mk.beginR; split <;> rfl)⟩
set_option maxRecDepth 100000 in
set_option maxHeartbeats 2000000 in
theorem scollect1 (h : Sy w0 w p a m LA LM s lv) (hok : s.Ok) (hcy : s.M.K.cy < 4611686018427387904) (hp : s.M.K.ph = 1) :
    Calls Tryz.prog 51 #[.pointer (some ⟨p, 0, none⟩)] w fun e w' => e = .returned (.tuple #[]) ∧ Sy w0 w' p a m LA LM s.step lv ∧ Keeps (foot2 LA LM s) w w' := by
  have HPH := hid (show Calls Tryz.prog 49 #[.pointer (some ⟨m, 0, none⟩)] w (fun e w' => e = .returned (.int .i64 1) ∧ w' = w) from by
    have h1 := mphase m LM s.M w h.both.mm; rw [hp] at h1; exact h1)
  have HST := hid (fun W (hk : Keeps (fun _ => False) w W) => (h.same hk).stepM hok hcy)
  obtain ⟨x0, x1, x2, x3, xl⟩ := cells4 h.own
  clear h hok hcy hp
  go_enter Tryz.func51, Tryz.ntmps51
  go_wp2_with fail
  refine (HPH.out).mono ?_
  rintro e w' ⟨rfl, h'⟩
  obtain rfl := h'.symm
  go_wp2_with fail
  go_region_held3 (fun W => W.cell? ⟨p, 1, none⟩ = some (.pointer (some ⟨m, 0, none⟩)) ∧ W.cell? ⟨p, 0, none⟩ = some (.pointer (some ⟨a, 0, none⟩)))
    ((first | exact ⟨x1, x0⟩ | exact ⟨(cells4 hs3.own).2.1, (cells4 hs3.own).1⟩))
    (first | (go_at_call 132; refine (HST.out _ (Keeps.refl _ _).drew).mono ?_; rintro e w3 ⟨rfl, hs3, hk3⟩))
  all_goals
    go_wp2_with fail
    go_end0
    exact ⟨rfl, hs3, Keeps.trans (Keeps.refl _ _).drew hk3⟩
structure Wt (q : Nat) (s : Sys) : Prop where
  ok : s.Ok
  ph : s.M.K.ph = 1
  cy : s.M.K.cy = 0
  lt : q < s.M.K.many
  seen : s.M.K.seen q = false
  sn : ∀ i, s.M.K.seen i = true → i < s.M.K.many
theorem Wt.mo {q : Nat} {s : Sys} (h : Wt q s) (x : Mo) : Wt q (x.doR s) := by
  have hn := x.next h.ok
  refine ⟨hn.ok, ?_, ?_, ?_, ?_, ?_⟩
  · rw [hn.K]; exact h.ph
  · rw [hn.K]; exact h.cy
  · rw [hn.K]; exact h.lt
  · rw [hn.K]; exact h.seen
  · rw [hn.K]; exact h.sn
theorem Wt.ack {q i : Nat} {s : Sys} (h : Wt q s) (hi : i ≠ q) : Wt q ⟨s.A, (s.M.ackR s.A i).M⟩ := by
  obtain ⟨a1, a2, a3, a4, _, _⟩ := Sys.ack_next h.ok i
  refine ⟨a1, a2.trans h.ph, a3.trans h.cy, by dsimp only; rw [a4]; exact h.lt, ?_, ackR_sn s.A i h.sn⟩
  dsimp only
  have key : (s.M.K.ack (i : Int).toNat).seen q = false := by
    rw [show (s.M.K.ack (i : Int).toNat).seen q = s.M.K.seen q from updf_ne _ _ (by simp; omega)]; exact h.seen
  unfold Mk.ackR
  split
  · exact h.seen
  split
  · exact h.seen
  split
  · exact key
  · exact key
theorem Wt.step {q : Nat} {s : Sys} (h : Wt q s) : s.step = s := by
  have hs4 := h.ok.m.k4
  have hnr : s.M.K.ready = false := by
    have ha : s.M.K.all = false := by
      have h0 := h.lt; have h1 := h.seen
      unfold Ck.all
      obtain rfl | rfl | rfl | rfl : q = 0 ∨ q = 1 ∨ q = 2 ∨ q = 3 := by omega
      · rw [h1]; simp [h0]
      · rw [h1]; simp [h0]
      · rw [h1]; simp [h0]
      · rw [h1]; simp [h0]
    unfold Ck.ready
    rw [ha, Bool.and_false]
  have e : s.M.stepR s.A = s.M := by
    unfold Mk.stepR
    rw [if_pos h.ph, if_neg (by rw [hnr]; decide)]
  show Sys.mk s.A (s.M.stepR s.A) = s
  rw [e]
theorem Wt.begin {n k st q : Nat} (n1 : 1 ≤ n) (n2 : n ≤ 256) (k1 : 1 ≤ k) (k4 : k ≤ 4) {b : Nat} (hq : q < k) : Wt q (Sys.new4 n k st b).begun ∧ (Sys.new4 n k st b).M.beginR.2 = 0 ∧ (Sys.new4 n k st b).begun.M.K.many = k := by
  have hs : (Sys.new4 n k st b).Ok := ⟨Ar.Ok.new n1 n2 k1 k4 (by omega) (by omega), Mk.Ok.new n1 n2 k1 k4, rfl, rfl, ⟨fun _ h => absurd h (Nat.not_lt_zero _), fun _ _ h => absurd h (Nat.not_lt_zero _)⟩⟩
  have e : (Sys.new4 n k st b).M.beginR = ({ (Sys.new4 n k st b).M with K := (Sys.new4 n k st b).M.K.to 1 }, 0) := by unfold Mk.beginR; exact if_pos rfl
  have hK : (Sys.new4 n k st b).begun.M.K = (Sys.new4 n k st b).M.K.to 1 := by show (Sys.new4 n k st b).M.beginR.1.K = _; rw [e]
  refine ⟨⟨hs.begun, ?_, ?_, ?_, ?_, fun i hi => ?_⟩, by rw [e], ?_⟩
  · rw [hK]; rfl
  · rw [hK]; rfl
  · rw [hK]; exact hq
  · rw [hK]; rfl
  · rw [hK] at hi; exact (Bool.false_ne_true hi).elim
  · rw [hK]; rfl
theorem Wt.all {q : Nat} {s : Sys} (h : Wt q s) : (s.acks s.M.K.many).step.M.K.ph = 2 := by
  obtain ⟨h1, h2, h3, h4, h5, h6, h7⟩ := Sys.acks_next h.ok s.M.K.many
  have hall : (s.acks s.M.K.many).M.K.all = true := by
    refine Ck.all_of (fun i => ?_)
    rw [Sys.acks_seen (.inl h.ph) h.ok _ (Nat.le_refl _), h5]
    have := h.sn i
    cases e : s.M.K.seen i
    · simp
    · have := this e
      simp [this]
  have hp : (s.acks s.M.K.many).M.K.ph = 1 := h3.trans h.ph
  show ((s.acks s.M.K.many).M.stepR (s.acks s.M.K.many).A).K.ph = 2
  unfold Mk.stepR
  rw [if_pos hp, if_pos (by unfold Ck.ready; rw [hall, hp]; rfl)]
  show ((s.acks s.M.K.many).M.K.ph + 1) % 6 = 2
  rw [hp]
end Go.Proofs.YtehmoikbeflkaaaGreat

/- estraylaw24.MarkerWaits: turn, and the walk. -/
namespace Go.Proofs.YtehmoikbeflkaaaGreat
open Go.RowKit Go.ChangeShapes Go.WideShapes Go.ChangeAt Go.Deep
set_option linter.unusedVariables false
set_option linter.unusedSimpArgs false
set_option linter.unusedSectionVars false

section
variable {w0 w w' : World} {p a m : Nat} {LA : ArL} {LM : MkL} {s : Sys} {lv : Value}

set_option maxRecDepth 100000 in
set_option maxHeartbeats 2000000 in
theorem sturn_mu (x : Tv) (h : Sy w0 w p a m LA LM s lv) (hok : s.Ok) (hx : x.Byte) (hk : x.kind < 160) :
    Calls Tryz.prog 45 #[.pointer (some ⟨p, 0, none⟩), x.val] w fun e w' => e = .returned (.tuple #[]) ∧ Sy w0 w' p a m LA LM ((x.mo s).doR s) lv ∧ Keeps (foot2 LA LM s) w w' := by
  have HMU := hid (fun W (hk : Keeps (fun _ => False) w W) => mutate_ok x (h.same hk) hok hx)
  have hki : (x.kind : Int) < 160 := by omega
  obtain ⟨wA, hwA⟩ : ∃ wA, w.alloc (.cells #[.int .u8 x.kind, .int .u8 x.m, .int .u8 x.a, .int .u8 x.b] 78) = wA := ⟨_, rfl⟩
  have kA : Keeps (fun _ => False) w wA := by rw [← hwA]; exact (Keeps.refl _ _).alloc _
  have qA : wA.heap[w.heap.size]? = some (.cells #[.int .u8 x.kind, .int .u8 x.m, .int .u8 x.a, .int .u8 x.b] 78) := by rw [← hwA]; exact alloc_new
  have HKA := hid kA; have HWA := hid hwA; have HSA := hid (h.same kA)
  have hfl := h.both.footlt
  have HCF := hid (fun W (hk : Keeps (foot2 LA LM s) wA W) => And.intro (cells4 (block_keep qA hk (fun hf => by have := hfl _ hf; omega))) (cells4 (block_keep (block_keep h.own kA (fun h => h)) hk h.pfoot)))
  obtain ⟨b0, b1, b2, b3, bl⟩ := cells4 qA
  obtain ⟨x0, x1, x2, x3, xl⟩ := cells4 (h.same kA).own
  unfold Tv.val
  clear h hok hx hk hwA kA qA hfl
  go_enter Tryz.func45, Tryz.ntmps45
  go_upto_region 2 with (fail)
  rw [HWA.out]
  go_wp2_with fail
  refine (HMU.out _ HKA.out).mono ?_
  rintro e w3 ⟨rfl, hs3, hk3⟩
  have HS3 := hid hs3; have HK3 := hid (HKA.out.up.trans hk3)
  clear hs3 hk3
  go_wp2_with fail
  go_end0
  exact ⟨rfl, HS3.out, HK3.out⟩
set_option maxRecDepth 100000 in
set_option maxHeartbeats 2000000 in
theorem sturn_ack (x : Tv) (h : Sy w0 w p a m LA LM s lv) (hok : s.Ok) (hx : x.Byte) (hk1 : 160 ≤ x.kind) (hk2 : x.kind < 200) :
    Calls Tryz.prog 45 #[.pointer (some ⟨p, 0, none⟩), x.val] w fun e w' => e = .returned (.tuple #[]) ∧ Sy w0 w' p a m LA LM ⟨s.A, (s.M.ackR s.A (x.m % s.M.K.many : Nat)).M⟩ lv ∧ Keeps (foot2 LA LM s) w w' := by
  have hmany := hok.m.k1
  have hx1 := hx.2.1
  have hki1 : ¬ (x.kind : Int) < 160 := by omega
  have hki2 : (x.kind : Int) < 200 := by omega
  have hz : ¬ (s.M.K.many : Int) = 0 := by omega
  obtain ⟨mk, hmk⟩ : ∃ mk, x.m % s.M.K.many = mk := ⟨_, rfl⟩
  have hwm : IntKind.i64.wrap (x.m : Int) = (x.m : Int) := IntWalk.i64_in _ (by omega)
  have hm1 : (x.m : Int) % (s.M.K.many : Int) = (mk : Int) := by rw [← hmk]; simp
  have hm2 : (x.m : Int).tmod (s.M.K.many : Int) = (mk : Int) := by rw [Int.tmod_eq_emod_of_nonneg (by omega)]; exact hm1
  have hwk : IntKind.i64.wrap (mk : Int) = (mk : Int) := IntWalk.i64_in _ (by have := Nat.mod_lt x.m (show s.M.K.many > 0 by omega); have := hok.m.k4; omega)
  have hzn : ¬ s.M.K.many = 0 := by omega
  rw [hmk]
  have HAK := hid (fun W (hk : Keeps (fun _ => False) w W) => (h.same hk).ack hok mk)
  obtain ⟨wA, hwA⟩ : ∃ wA, w.alloc (.cells #[.int .u8 x.kind, .int .u8 x.m, .int .u8 x.a, .int .u8 x.b] 78) = wA := ⟨_, rfl⟩
  have kA : Keeps (fun _ => False) w wA := by rw [← hwA]; exact (Keeps.refl _ _).alloc _
  have qA : wA.heap[w.heap.size]? = some (.cells #[.int .u8 x.kind, .int .u8 x.m, .int .u8 x.a, .int .u8 x.b] 78) := by rw [← hwA]; exact alloc_new
  have HKA := hid kA; have HWA := hid hwA; have HSA := hid (h.same kA)
  have hfl := h.both.footlt
  have HCF := hid (fun W (hk : Keeps (foot2 LA LM s) wA W) => And.intro (cells4 (block_keep qA hk (fun hf => by have := hfl _ hf; omega))) (cells4 (block_keep (block_keep h.own kA (fun h => h)) hk h.pfoot)))
  obtain ⟨b0, b1, b2, b3, bl⟩ := cells4 qA
  obtain ⟨x0, x1, x2, x3, xl⟩ := cells4 (h.same kA).own
  unfold Tv.val
  have HPS := hid (fun W (hk : Keeps (foot2 LA LM s) wA W) => And.intro (HCF.out W hk).2.2.1 (And.intro (HCF.out W hk).2.1 (And.intro (HCF.out W hk).2.2.2.1 (HCF.out W hk).1.2.1)))
  clear h hok hx hk1 hk2 hwA kA qA hfl hmk
  go_enter Tryz.func45, Tryz.ntmps45
  go_upto_region 2 with (fail)
  rw [HWA.out]
  go_wp2_with fail
  clear b0 b1 b2 b3 bl x0 x1 x2 x3 xl
  go_region_held3 (fun W => W.cell? ⟨p, 1, none⟩ = some (.pointer (some ⟨m, 0, none⟩)) ∧ W.cell? ⟨p, 0, none⟩ = some (.pointer (some ⟨a, 0, none⟩)) ∧ W.cell? ⟨p, 2, none⟩ = some (.int .i64 s.M.K.many) ∧ W.cell? ⟨w.heap.size, 1, none⟩ = some (.int .u8 x.m))
    ((refine HPS.out _ ?_; (repeat (first | with_reducible exact Keeps.refl _ _ | with_reducible refine Keeps.drewN ?_ _ | with_reducible refine Keeps.drew ?_ | with_reducible refine Keeps.trans ?_ hk3))))
    (first | (go_at_call 50; refine (HAK.out _ HKA.out.drew).mono ?_; rintro e w3 ⟨⟨u3, v3, rfl⟩, hs3, hk3⟩))
  all_goals
    have hk4 : Keeps (foot2 LA LM s) w w3 := Keeps.trans (Keeps.up HKA.out.drew) hk3
    have HS3 := hid hs3; have HK3 := hid hk4
    clear hs3 hk3 hk4
    go_wp2_with fail
    go_end0
    exact ⟨rfl, HS3.out, HK3.out⟩
end

end Go.Proofs.YtehmoikbeflkaaaGreat

/- estraylaw24.MarkerWaits: the walk. -/
namespace Go.Proofs.YtehmoikbeflkaaaGreat
open Go.RowKit Go.ChangeShapes Go.WideShapes Go.ChangeAt Go.Deep
set_option linter.unusedVariables false
set_option linter.unusedSimpArgs false

set_option maxRecDepth 100000 in
theorem agg_flat {H : Type} {enc : TypeId × Value → H} {P : Program} {w : World} {base : Nat} {spare : Nat → Bool} {held : Bool} {t : TypeId} {fs : Array Field} {ks : List Flat} {r : Reach} {b0 : Nat} {v : Value} {d : DataW H} {p : List MemPlace} (ht : P.underlying t = some (.struct fs)) (hfl : flat P 8 t = some ks) (hC : P.cellsOf t = ks.length)
    (hv : Value.okWide P w r b0 t v) (h : DataW.Trod enc P w base spare held t v d p) : ∃ cs, v = .agg cs ∧ cs.size = ks.length ∧ ∀ (i : Nat) (k : Flat), ks[i]? = some k → ∃ u, cs[i]? = some u ∧ k.Ok u := by
  obtain ⟨cs, rfl, hs⟩ := okWide_struct ht hv
  obtain ⟨fuel, hf⟩ := h
  refine ⟨cs, rfl, hs.trans hC, fun i k hk => ?_⟩
  obtain ⟨u, hu, hok⟩ := flat_at 8 t ks hfl _ _ _ hf i k hk
  refine ⟨u, ?_, hok⟩
  simpa [Value.cells] using hu
set_option maxRecDepth 100000 in
theorem agg4_of {H : Type} {enc : TypeId × Value → H} {w : World} {base : Nat} {spare : Nat → Bool} {held : Bool} {t : TypeId} {fs : Array Field} {r : Reach} {b0 : Nat} {v : Value} {d : DataW H} {p : List MemPlace} (ht : Tryz.prog.underlying t = some (.struct fs)) (hfl : flat Tryz.prog 8 t = some ks4) (hC : Tryz.prog.cellsOf t = 4)
    (hv : Value.okWide Tryz.prog w r b0 t v) (h : DataW.Trod enc Tryz.prog w base spare held t v d p) : ∃ x y z u : Nat, v = .agg #[.int .u8 x, .int .u8 y, .int .u8 z, .int .u8 u] ∧ x < 256 ∧ y < 256 ∧ z < 256 ∧ u < 256 := by
  obtain ⟨cs, rfl, hs, hc⟩ := agg_flat ht hfl hC hv h
  obtain ⟨u0, h0, k0⟩ := hc 0 _ rfl
  obtain ⟨u1, h1, k1⟩ := hc 1 _ rfl
  obtain ⟨u2, h2, k2⟩ := hc 2 _ rfl
  obtain ⟨u3, h3, k3⟩ := hc 3 _ rfl
  obtain ⟨n0, rfl, l0⟩ := byte_of k0
  obtain ⟨n1, rfl, l1⟩ := byte_of k1
  obtain ⟨n2, rfl, l2⟩ := byte_of k2
  obtain ⟨n3, rfl, l3⟩ := byte_of k3
  refine ⟨n0, n1, n2, n3, ?_, l0, l1, l2, l3⟩
  congr 1
  apply Array.ext_getElem?
  intro i
  match i with
  | 0 => rw [h0]; rfl
  | 1 => rw [h1]; rfl
  | 2 => rw [h2]; rfl
  | 3 => rw [h3]; rfl
  | i + 4 => rw [Array.getElem?_eq_none (by rw [hs]; simp [ks4]), Array.getElem?_eq_none (by simp)]
set_option maxRecDepth 100000 in
theorem u8_nat24 {x : Int} (h : (Lit.int .u8 x).wf = true) : ∃ k : Nat, x = k ∧ k < 256 := by
  have e1 : IntKind.u8.min = 0 := by decide
  have e2 : IntKind.u8.max = 255 := by decide
  simp [Lit.wf, e1, e2] at h
  exact ⟨x.toNat, by omega, by omega⟩
end Go.Proofs.YtehmoikbeflkaaaGreat
