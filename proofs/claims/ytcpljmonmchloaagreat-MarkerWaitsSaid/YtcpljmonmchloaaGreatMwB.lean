/- estraylaw24: systems: made, turn, collect (while a handshake goes on). -/
import Derived.Test.YtcpljmonmchloaaGreatMwD
import Derived.Test.YtcpljmonmchloaaGreatMgP
import Derived.Test.YtcpljmonmchloaaGreatMgO
namespace Go.Proofs.YtcpljmonmchloaaGreat
open Go.RowKit Go.ChangeShapes Go.WideShapes Go.ChangeAt Go.Deep
set_option linter.unusedVariables false
set_option linter.unusedSimpArgs false
set_option linter.unusedSectionVars false

def Sys.new4 (n k s q : Nat) : Sys := ⟨Ar.new n k 1, Mk.new n k s q⟩
set_option maxRecDepth 100000 in
set_option maxHeartbeats 2000000 in
theorem smade (x y z u : Nat) (w : World) (hx : x < 256) (hy : y < 256) (hz : z < 256) (hu : u < 256) :
    Calls Tryz.prog 54 #[.agg #[.int .u8 x, .int .u8 y, .int .u8 z, .int .u8 u]] w fun e w' => ∃ p w0 a m LA LM, e = .returned (.pointer (some ⟨p, 0, none⟩)) ∧ Keeps (fun _ => False) w w0 ∧ Sy w0 w' p a m LA LM (Sys.new4 (1 + x % 16) (1 + y % 4) (1 + z % 8) (1 + u % 4)) (.slice none 0 0) := by
  obtain ⟨n, hn⟩ : ∃ n, 1 + x % 16 = n := ⟨_, rfl⟩
  obtain ⟨k, hk⟩ : ∃ k, 1 + y % 4 = k := ⟨_, rfl⟩
  obtain ⟨s, hs⟩ : ∃ s, 1 + z % 8 = s := ⟨_, rfl⟩
  obtain ⟨q, hq⟩ : ∃ q, 1 + u % 4 = q := ⟨_, rfl⟩
  have HI1 := hid (show 1 + (x : Int) % 16 = (n : Int) by omega)
  have HI2 := hid (show 1 + (y : Int) % 4 = (k : Int) by omega)
  have HI3 := hid (show 1 + (z : Int) % 8 = (s : Int) by omega)
  have HI4 := hid (show 1 + (u : Int) % 4 = (q : Int) by omega)
  rw [hn, hk, hs, hq]
  have HAN := hid (fun W => anew_ok n k 1 W (by omega) (by omega) (by omega) (by omega) (by omega) (by omega))
  have HMN := hid (fun W => mnew_ok n k s q W (by omega) (by omega) (by omega) (by omega) (by omega) (by omega) (by omega) (by omega))
  obtain ⟨wA, hwA⟩ : ∃ wA, w.alloc (.cells #[.int .u8 x, .int .u8 y, .int .u8 z, .int .u8 u] 100) = wA := ⟨_, rfl⟩
  have kA : Keeps (fun _ => False) w wA := by rw [← hwA]; exact (Keeps.refl _ _).alloc _
  have qA : wA.heap[w.heap.size]? = some (.cells #[.int .u8 x, .int .u8 y, .int .u8 z, .int .u8 u] 100) := by rw [← hwA]; exact alloc_new
  have HKA := hid kA; have HQA := hid qA; have HW := hid hwA
  obtain ⟨b0, b1, b2, b3, bl⟩ := cells4 qA
  clear kA qA hwA hn hk hs hq
  go_enter Tryz.func54, Tryz.ntmps54
  go_upto_region 1 with (fail)
  rw [HW.out]
  go_quiet (fail)
  rw [HI1.out, HI2.out]
  obtain ⟨wB, hwB⟩ : ∃ wB, wA.drewN nq = wB := ⟨_, rfl⟩
  rw [hwB]
  have kB : Keeps (fun _ => False) wA wB := by rw [← hwB]; exact (Keeps.refl _ _).drewN _
  have HKB := hid kB
  clear hwB kB b0 b1 b2 b3 bl
  go_wp2_with fail
  refine (HAN.out _).mono ?_
  rintro e w1 ⟨a, rfl, k1, ha⟩
  rw [Int.toNat_natCast] at ha
  have HK1 := hid k1; have HA1 := hid ha
  obtain ⟨b0, b1, b2, b3, bl⟩ := cells4 (block_keep HQA.out (HKB.out.trans k1) (fun h => h))
  clear k1 ha
  go_wp2_with fail
  rw [HI3.out, HI4.out]
  refine (HMN.out _).mono ?_
  rintro e w2 ⟨rfl, k2, LM, hm, hb⟩
  have HK2 := hid k2; have HM2 := hid hm; have HB2 := hid hb
  clear k2 hm hb b0 b1 b2 b3 bl
  go_wp2_with fail
  obtain ⟨LA, hd⟩ := Duo.new (w0 := wB) (A := Ar.new n k 1) (M := Mk.new n k s q) HK1.out HA1.out HK2.out HM2.out HB2.out
  have hz0 := HKA.out.size; have hz1 := HK1.out.size; have hz2 := HK2.out.size; have hzB := HKB.out.size
  refine bodyPost_ret_by (v := .pointer (some ⟨w2.heap.size, 0, none⟩)) (by simp [results, Tryz.results54, go_sem, *]) rfl ⟨w2.heap.size, wB, a, w1.heap.size, LA, LM, rfl, HKA.out.trans HKB.out, ⟨Duo.same hd ((Keeps.refl _ _).alloc _), alloc_new, by omega⟩⟩
theorem cell_keep24 {w w' : World} {b k : Nat} {u : Value} (h : w.cell? ⟨b, k, none⟩ = some u) (hb : b < w.heap.size) (hk : Keeps (fun _ => False) w w') : w'.cell? ⟨b, k, none⟩ = some u :=
  (World.cell?_of_block (w := w) (w' := w') (a := ⟨b, k, none⟩) (hk.block b hb (fun h => h))).trans h
variable {w0 w w' : World} {p a m : Nat} {LA : ArL} {LM : MkL} {s : Sys} {lv : Value}

theorem Sy.ack (h : Sy w0 w p a m LA LM s lv) (hok : s.Ok) (i : Int) : Calls Tryz.prog 61 #[.pointer (some ⟨m, 0, none⟩), .pointer (some ⟨a, 0, none⟩), .int .i64 i] w
    fun e w' => (∃ u v, e = .returned (.tuple #[.bool u, .int .i64 v])) ∧ Sy w0 w' p a m LA LM ⟨s.A, (s.M.ackR s.A i).M⟩ lv ∧ Keeps (foot2 LA LM s) w w' :=
  (duo_ack_any h.both hok.n hok.k i).mono fun e w' ⟨h1, h2⟩ => ⟨⟨_, _, h1⟩, h.mark h2 (Sys.ack_next hok i).2.2.2.1⟩
theorem Sy.stepM (h : Sy w0 w p a m LA LM s lv) (hok : s.Ok) (hcy : s.M.K.cy < 4611686018427387904) : Calls Tryz.prog 62 #[.pointer (some ⟨m, 0, none⟩), .pointer (some ⟨a, 0, none⟩)] w
    fun e w' => e = .returned (.int .i64 0) ∧ Sy w0 w' p a m LA LM s.step lv ∧ Keeps (foot2 LA LM s) w w' :=
  (duo_step_any h.both hok.m hok.n hok.k hcy).mono fun e w' ⟨h1, h2⟩ => ⟨h1, h.mark h2 (Sys.step_next hok).2.1⟩
theorem Sy.beginM (h : Sy w0 w p a m LA LM s lv) : Calls Tryz.prog 58 #[.pointer (some ⟨m, 0, none⟩)] w
    fun e w' => e = .returned (.int .i64 s.M.beginR.2) ∧ Sy w0 w' p a m LA LM s.begun lv ∧ Keeps (foot2 LA LM s) w w' :=
  (duo_begin_any h.both).mono fun e w' ⟨h1, h2⟩ => ⟨h1, h.mark h2 (by unfold Mk.beginR; split <;> rfl)⟩
set_option maxRecDepth 100000 in
set_option maxHeartbeats 2000000 in
theorem scollect1 (h : Sy w0 w p a m LA LM s lv) (hok : s.Ok) (hcy : s.M.K.cy < 4611686018427387904) (hp : s.M.K.ph = 1) :
    Calls Tryz.prog 64 #[.pointer (some ⟨p, 0, none⟩)] w fun e w' => e = .returned (.tuple #[]) ∧ Sy w0 w' p a m LA LM s.step lv ∧ Keeps (foot2 LA LM s) w w' := by
  have HPH := hid (show Calls Tryz.prog 59 #[.pointer (some ⟨m, 0, none⟩)] w (fun e w' => e = .returned (.int .i64 1) ∧ w' = w) from by
    have h1 := mphase m LM s.M w h.both.mm; rw [hp] at h1; exact h1)
  have HST := hid (fun W (hk : Keeps (fun _ => False) w W) => (h.same hk).stepM hok hcy)
  obtain ⟨x0, x1, x2, x3, xl⟩ := cells4 h.own
  clear h hok hcy hp
  go_enter Tryz.func64, Tryz.ntmps64
  go_wp2_with fail
  refine (HPH.out).mono ?_
  rintro e w' ⟨rfl, h'⟩
  obtain rfl := h'.symm
  go_wp2_with fail
  go_region_held3 (fun W => W.cell? ⟨p, 1, none⟩ = some (.pointer (some ⟨m, 0, none⟩)) ∧ W.cell? ⟨p, 0, none⟩ = some (.pointer (some ⟨a, 0, none⟩)))
    ((first | exact ⟨x1, x0⟩ | exact ⟨(cells4 hs3.own).2.1, (cells4 hs3.own).1⟩))
    (first | (go_at_call 62; refine (HST.out _ (Keeps.refl _ _).drew).mono ?_; rintro e w3 ⟨rfl, hs3, hk3⟩))
  all_goals
    go_wp2_with fail
    go_end0
    exact ⟨rfl, hs3, Keeps.trans (Keeps.refl _ _).drew hk3⟩
structure Wt (q : Nat) (s : Sys) : Prop where
  ok : s.Ok
  ph : s.M.K.ph = 1
  cy : s.M.K.cy = 0
  lt : q < s.M.K.many
  seen : s.M.K.seen q = false
  sn : ∀ i, s.M.K.seen i = true → i < s.M.K.many
theorem Wt.mo {q : Nat} {s : Sys} (h : Wt q s) (x : Mo) : Wt q (x.doR s) := by
  have hn := x.next h.ok
  refine ⟨hn.ok, ?_, ?_, ?_, ?_, ?_⟩
  · rw [hn.K]; exact h.ph
  · rw [hn.K]; exact h.cy
  · rw [hn.K]; exact h.lt
  · rw [hn.K]; exact h.seen
  · rw [hn.K]; exact h.sn
theorem Wt.ack {q i : Nat} {s : Sys} (h : Wt q s) (hi : i ≠ q) : Wt q ⟨s.A, (s.M.ackR s.A i).M⟩ := by
  obtain ⟨a1, a2, a3, a4, _, _⟩ := Sys.ack_next h.ok i
  refine ⟨a1, a2.trans h.ph, a3.trans h.cy, by dsimp only; rw [a4]; exact h.lt, ?_, ackR_sn s.A i h.sn⟩
  dsimp only
  have key : (s.M.K.ack (i : Int).toNat).seen q = false := by
    rw [show (s.M.K.ack (i : Int).toNat).seen q = s.M.K.seen q from updf_ne _ _ (by simp; omega)]; exact h.seen
  unfold Mk.ackR
  split
  · exact h.seen
  split
  · exact h.seen
  split
  · exact key
  · exact key
theorem Wt.step {q : Nat} {s : Sys} (h : Wt q s) : s.step = s := by
  have hs4 := h.ok.m.k4
  have hnr : s.M.K.ready = false := by
    have ha : s.M.K.all = false := by
      have h0 := h.lt; have h1 := h.seen
      unfold Ck.all
      obtain rfl | rfl | rfl | rfl : q = 0 ∨ q = 1 ∨ q = 2 ∨ q = 3 := by omega
      · rw [h1]; simp [h0]
      · rw [h1]; simp [h0]
      · rw [h1]; simp [h0]
      · rw [h1]; simp [h0]
    unfold Ck.ready
    rw [ha, Bool.and_false]
  have e : s.M.stepR s.A = s.M := by
    unfold Mk.stepR
    rw [if_pos h.ph, if_neg (by rw [hnr]; decide)]
  show Sys.mk s.A (s.M.stepR s.A) = s
  rw [e]
theorem Wt.begin {n k st q : Nat} (n1 : 1 ≤ n) (n2 : n ≤ 256) (k1 : 1 ≤ k) (k4 : k ≤ 4) {b : Nat} (hq : q < k) : Wt q (Sys.new4 n k st b).begun ∧ (Sys.new4 n k st b).M.beginR.2 = 0 ∧ (Sys.new4 n k st b).begun.M.K.many = k := by
  have hs : (Sys.new4 n k st b).Ok := ⟨Ar.Ok.new n1 n2 k1 k4 (by omega) (by omega), Mk.Ok.new n1 n2 k1 k4, rfl, rfl, ⟨fun _ h => absurd h (Nat.not_lt_zero _), fun _ _ h => absurd h (Nat.not_lt_zero _)⟩⟩
  have e : (Sys.new4 n k st b).M.beginR = ({ (Sys.new4 n k st b).M with K := (Sys.new4 n k st b).M.K.to 1 }, 0) := by unfold Mk.beginR; exact if_pos rfl
  have hK : (Sys.new4 n k st b).begun.M.K = (Sys.new4 n k st b).M.K.to 1 := by show (Sys.new4 n k st b).M.beginR.1.K = _; rw [e]
  refine ⟨⟨hs.begun, ?_, ?_, ?_, ?_, fun i hi => ?_⟩, by rw [e], ?_⟩
  · rw [hK]; rfl
  · rw [hK]; rfl
  · rw [hK]; exact hq
  · rw [hK]; rfl
  · rw [hK] at hi; exact (Bool.false_ne_true hi).elim
  · rw [hK]; rfl
theorem Wt.all {q : Nat} {s : Sys} (h : Wt q s) : (s.acks s.M.K.many).step.M.K.ph = 2 := by
  obtain ⟨h1, h2, h3, h4, h5, h6, h7⟩ := Sys.acks_next h.ok s.M.K.many
  have hall : (s.acks s.M.K.many).M.K.all = true := by
    refine Ck.all_of (fun i => ?_)
    rw [Sys.acks_seen (.inl h.ph) h.ok _ (Nat.le_refl _), h5]
    have := h.sn i
    cases e : s.M.K.seen i
    · simp
    · have := this e
      simp [this]
  have hp : (s.acks s.M.K.many).M.K.ph = 1 := h3.trans h.ph
  show ((s.acks s.M.K.many).M.stepR (s.acks s.M.K.many).A).K.ph = 2
  unfold Mk.stepR
  rw [if_pos hp, if_pos (by unfold Ck.ready; rw [hall, hp]; rfl)]
  show ((s.acks s.M.K.many).M.K.ph + 1) % 6 = 2
  rw [hp]
end Go.Proofs.YtcpljmonmchloaaGreat
