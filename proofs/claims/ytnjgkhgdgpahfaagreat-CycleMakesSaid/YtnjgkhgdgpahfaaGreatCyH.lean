/- estraylaw26: a turn of a pair. -/
import Derived.Test.YtnjgkhgdgpahfaaGreatCyE
import Derived.Test.YtnjgkhgdgpahfaaGreatCyA
namespace Go.Proofs.YtnjgkhgdgpahfaaGreat
open Go.RowKit
set_option linter.unusedVariables false
set_option linter.unusedSimpArgs false
set_option linter.unusedSectionVars false

def idx (x n : Nat) : Nat := if n = 0 then 0 else x % n
def Mv.mo26 (x : Mv) (s : Sys) : Mo :=
  let k := x.m % s.M.K.many
  let n := (s.A.rt k).n
  match x.kind % 16 with
  | 0 => .make k (x.a % 5 : Nat) false
  | 1 => .make k 0 true
  | 2 => .load k (idx x.a n : Nat) (x.b % 4 : Nat)
  | 3 => .store k (idx x.a n : Nat) (x.b % 4 : Nat) (idx x.c n : Nat)
  | 4 => .store k (idx x.a n : Nat) (x.b % 4 : Nat) (idx x.c n : Nat)
  | 5 => .store k (idx x.a n : Nat) (x.b % 4 : Nat) (-1)
  | 6 => .drop k (idx x.a n : Nat)
  | 7 => .put k (idx x.a n : Nat) (x.b % 8 : Nat)
  | 8 => .put k (-1) (x.b % 8 : Nat)
  | _ => .get k (x.b % 8 : Nat)
theorem Mv.mo26_who (x : Mv) (s : Sys) : (x.mo26 s).who = x.m % s.M.K.many := by
  unfold Mv.mo26
  dsimp only
  split <;> rfl
def Col.steps (room : Bool) (k : Col) (f : List Rf) : Nat → Col × List Rf
  | 0 => (k, f)
  | i + 1 => (((Col.steps room k f i).1.stepR room).c, ((Col.steps room k f i).1.stepR room).more (Col.steps room k f i).2)
def Mv.turn26 (x : Mv) (k : Col) (f : List Rf) : Col × List Rf :=
  if x.kind % 16 < 10 then (⟨(x.mo26 k.s).doR k.s, k.C⟩, f)
  else if x.kind % 16 < 12 then (⟨⟨k.s.A, (k.s.M.ackR k.s.A (x.m % k.s.M.K.many : Nat)).M⟩, k.C⟩, f)
  else if x.kind % 16 = 12 then (k.askR.1, f)
  else Col.steps (decide (64 ≤ x.b)) k f (x.a % 8 + 1)
theorem index26 (x n : Nat) (w : World) (hx : x < 256) :
    Calls Tryz.prog 92 #[.int .u8 x, .int .i64 n] w fun e w' => e = .returned (.int .i64 (idx x n : Nat)) ∧ w' = w := by
  by_cases hn : n = 0
  · have h0 : idx x n = 0 := by unfold idx; rw [if_pos hn]
    have hb : ((n : Int) == 0) = true := by simpa using hn
    rw [h0]
    clear hn h0
    go_enter Tryz.func92, Tryz.ntmps92
    go_wp2_with fail
    go_ret
    exact ⟨rfl, rfl⟩
  · have h0 : idx x n = x % n := by unfold idx; rw [if_neg hn]
    have hb : ((n : Int) == 0) = false := by simpa using hn
    have hz : ¬ (n : Int) = 0 := by omega
    have hm : ((x % n : Nat) : Int) = (x : Int) % (n : Int) := by simp
    rw [h0, hm]
    clear h0 hm hn
    go_enter Tryz.func92, Tryz.ntmps92
    go_wp2_with fail
    go_ret
    exact ⟨rfl, rfl⟩
variable {w0 w w' : World} {p a m b c : Nat} {LA : ArL} {LM : MkL} {k : Col} {f : List Rf}

theorem cells5 {w : World} {b : Nat} {v0 v1 v2 v3 v4 : Value} {t : TypeId} (h : w.heap[b]? = some (.cells #[v0, v1, v2, v3, v4] t)) :
    w.cell? ⟨b, 0, none⟩ = some v0 ∧ w.cell? ⟨b, 1, none⟩ = some v1 ∧ w.cell? ⟨b, 2, none⟩ = some v2 ∧ w.cell? ⟨b, 3, none⟩ = some v3 ∧ w.cell? ⟨b, 4, none⟩ = some v4 ∧ b < w.heap.size :=
  ⟨cell_at h rfl, cell_at h rfl, cell_at h rfl, cell_at h rfl, cell_at h rfl, lt_block h⟩
theorem Quad.arF {A' : Ar} (h : Quad w0 w a m b c LA LM k) (hk : Keeps (fun y => LA.foot k.s.A.many y) w w') (ha : ArIn w' a LA A') (hm : A'.many = k.s.A.many) : Quad w0 w' a m b c LA LM ⟨⟨A', k.s.M⟩, k.C⟩ ∧ Keeps (foot3 LA LM b c k.s) w w' :=
  ⟨h.both (s' := ⟨A', k.s.M⟩) (hk.mono (fun _ _ h => .inl h)) (Duo.arenaF h.tr.both hk ha hm) rfl rfl, hk.mono (fun _ _ h => .inr (.inr (.inl h)))⟩
theorem Quad.mkF {M' : Mk} (h : Quad w0 w a m b c LA LM k) (hd : Duo.To w0 w w' a m LA LM k.s.A k.s.M M') (hn : M'.P.n = k.s.M.P.n) (hm : M'.K.many = k.s.M.K.many) : Quad w0 w' a m b c LA LM ⟨⟨k.s.A, M'⟩, k.C⟩ ∧ Keeps (foot3 LA LM b c k.s) w w' :=
  ⟨h.both (s' := ⟨k.s.A, M'⟩) (hd.2.mono (fun _ _ h => .inr h)) hd.1 hn hm, hd.2.mono (fun _ _ h => .inr (.inr (.inr h)))⟩
theorem Pair.fin {d : Col} (h : Pair w0 w p a m b c LA LM k f) (hk : Keeps (foot3 LA LM b c k.s) w w') (hd : Quad w0 w' a m b c LA LM d) : Pair w0 w' p a m b c LA LM d f ∧ PKeep w w' p (foot3 LA LM b c k.s) := by
  obtain ⟨v, h1, _⟩ := h.ex
  exact ⟨h.quad hk hd, h.keep0 hk (h.q.pairfoot h1)⟩
set_option maxRecDepth 100000 in
set_option maxHeartbeats 2000000 in
theorem turn_drop (x : Mv) (h : Pair w0 w p a m b c LA LM k f) (hok : k.Ok) (hx : x.Byte) (hk : x.kind % 16 = 6) :
    Calls Tryz.prog 43 #[.pointer (some ⟨p, 0, none⟩), x.val] w fun e w' => e = .returned (.tuple #[]) ∧ Pair w0 w' p a m b c LA LM ⟨(x.mo26 k.s).doR k.s, k.C⟩ f ∧ PKeep w w' p (foot3 LA LM b c k.s) := by
  have hki : (x.kind : Int) % 16 = 6 := by omega
  have hmany := hok.s.m.k1; have hm4 := hok.s.m.k4
  obtain ⟨hb0, hb1, hb2, hb3, hb4⟩ := hx
  have hz : ¬ (k.s.M.K.many : Int) = 0 := by omega
  obtain ⟨mk, hmk⟩ : ∃ mk, x.m % k.s.M.K.many = mk := ⟨_, rfl⟩
  have hmkl : mk < k.s.M.K.many := by rw [← hmk]; exact Nat.mod_lt _ (by omega)
  have HMOD := hid (show (x.m : Int) % (k.s.M.K.many : Int) = (mk : Int) by rw [← hmk]; simp)
  obtain ⟨n, hn⟩ : ∃ n, (k.s.A.rt mk).l.length = n := ⟨_, rfl⟩
  have hn2 : (k.s.A.rt mk).n = n := by rw [← hn]; simp [Sk.l]
  obtain ⟨wA, hwA⟩ : ∃ wA, w.alloc (.cells #[.int .u8 x.kind, .int .u8 x.m, .int .u8 x.a, .int .u8 x.b, .int .u8 x.c] 100) = wA := ⟨_, rfl⟩
  have kA : Keeps (fun _ => False) w wA := by rw [← hwA]; exact (Keeps.refl _ _).alloc _
  have qA : wA.heap[w.heap.size]? = some (.cells #[.int .u8 x.kind, .int .u8 x.m, .int .u8 x.a, .int .u8 x.b, .int .u8 x.c] 100) := by rw [← hwA]; exact alloc_new
  obtain ⟨v, hown, hrow⟩ := h.ex
  have hfl := h.q.footlt
  have HCF := hid (fun W (hk : Keeps (foot3 LA LM b c k.s) wA W) => And.intro (cells5 (block_keep qA hk (fun hf => by have := hfl _ hf; omega))) (cells4 (block_keep (block_keep hown kA (fun h => h)) hk (h.q.pairfoot hown))))
  have HSZ := hid (fun W (hk : Keeps (fun _ => False) w W) => asizes_ok a LA k.s.A W (h.q.same hk).tr.both.ar)
  have HSA := hid (fun W (hk : Keeps (fun _ => False) w W) => astackall_ok a LA k.s.A mk W (h.q.same hk).tr.both.ar (by rw [hok.s.k]; exact hmkl))
  rw [hok.s.k] at HSZ
  have HQU := hid (fun W (hk : Keeps (fun _ => False) w W) => h.q.same hk)
  have HFIN := hid (fun W d (hk : Keeps (foot3 LA LM b c k.s) w W) (hd : Quad w0 W a m b c LA LM d) => h.fin hk hd)
  have HFT := hid hfl
  have HPC := hid (fun W (hk : Keeps (foot3 LA LM b c k.s) w W) => let q := cells4 (block_keep hown hk (h.q.pairfoot hown)); And.intro q.2.1 q.1)
  have HI := hid (fun (y : Nat) (hy : y < 256) W => index26 y n W hy)
  have hw0 := lt_block qA
  have HKA := hid kA; have HWA := hid hwA; have HN := hid hn; have HOK := hid hok; have HMK := hid hmk; have HN2 := hid hn2; have HMKL := hid hmkl
  obtain ⟨⟨y0, y1, y2, y3, y4, yl⟩, ⟨x0, x1, x2, x3, xl⟩⟩ := HCF.out wA (Keeps.refl _ _)
  clear hn hn2 hmk kA hwA qA hown hrow hfl h hok hmkl hmany
  have hmo : (x.mo26 k.s).doR k.s = ⟨(k.s.A.dropR mk (idx x.a n : Nat)).A, k.s.M⟩ := by
    have : x.mo26 k.s = .drop mk (idx x.a n : Nat) := by unfold Mv.mo26; dsimp only; rw [hk, HMK.out, HN2.out]; rfl
    rw [this]; rfl
  rw [hmo]
  have HA := hid (fun W (hk : Keeps (fun _ => False) w W) => (adrop_any a LA k.s.A mk (idx x.a n : Nat) W (HQU.out W hk).tr.both.ar).mono (fun e w' ⟨h1, h2, h3⟩ => And.intro h1 ((HQU.out W hk).arF h2 h3 (Ar.dropR_n _ _ _).2)))
  clear hk hmo
  unfold Mv.val
  go_enter Tryz.func43, Tryz.ntmps43
  go_upto_region 1 with (fail)
  rw [HWA.out]
  go_wp2_with fail
  refine (HSZ.out _ HKA.out).mono ?_
  rintro e w1 ⟨rfl, k1⟩
  have HK1 := hid (HKA.out.trans k1)
  obtain ⟨⟨z0, z1, z2, z3, z4, zl⟩, ⟨u0, u1, u2, u3, ul⟩⟩ := HCF.out w1 k1.up
  have HK1A := hid k1
  clear k1 y0 y1 y2 y3 y4 yl x0 x1 x2 x3 xl
  go_wp2_with fail
  rw [HMOD.out]
  refine (HSA.out _ HK1.out).mono ?_
  rintro e w2 ⟨v5, rfl, hr5, k2⟩
  have hsh := own_shape hr5
  obtain ⟨p5, c5, hv5⟩ := hsh
  obtain rfl := hv5
  have HK2 := hid (HK1.out.trans k2)
  obtain ⟨⟨y0, y1, y2, y3, y4, yl⟩, ⟨x0, x1, x2, x3, xl⟩⟩ := HCF.out w2 (HK1A.out.trans k2).up
  have HK2A := hid (HK1A.out.trans k2)
  clear k2 hr5 z0 z1 z2 z3 z4 zl u0 u1 u2 u3 ul
  rw [HN.out]
  go_wp2_with fail
  go_quiet (first | (go_at_call 92; refine (HI.out _ (by assumption) _).mono ?_; rintro e w' ⟨rfl, rfl⟩; exact ⟨rfl, _, rfl⟩))
  obtain ⟨wq, hwq⟩ : ∃ wq, w2.drewN nq = wq := ⟨_, rfl⟩
  rw [hwq]
  have kq : Keeps (fun _ => False) w2 wq := by rw [← hwq]; exact (Keeps.refl _ _).drewN _
  obtain ⟨⟨z0, z1, z2, z3, z4, zl⟩, ⟨u0, u1, u2, u3, ul⟩⟩ := HCF.out wq (HK2A.out.trans kq).up
  have HKQ := hid (HK2.out.trans kq)
  have HKQA := hid (HK2A.out.trans kq)
  clear hwq kq y0 y1 y2 y3 y4 yl x0 x1 x2 x3 xl HK2 HK2A
  go_wp2_with fail
  go_quiet (fail)
  obtain ⟨wz, hwz⟩ : ∃ wz, wq.drewN nq = wz := ⟨_, rfl⟩
  rw [hwz]
  have kq : Keeps (fun _ => False) wq wz := by rw [← hwz]; exact (Keeps.refl _ _).drewN _
  obtain ⟨⟨y0, y1, y2, y3, y4, yl⟩, ⟨x0, x1, x2, x3, xl⟩⟩ := HCF.out wz (HKQA.out.trans kq).up
  have HK2 := hid (HKQ.out.trans kq)
  have HK2A := hid (HKQA.out.trans kq)
  clear hwz kq z0 z1 z2 z3 z4 zl u0 u1 u2 u3 ul HKQ HKQA
  go_wp2_with fail
  refine (HA.out _ (by (repeat (first | with_reducible exact HK2.out | with_reducible refine Keeps.drewN ?_ _ | with_reducible refine Keeps.drew ?_)))).mono ?_
  rintro e w3 ⟨rfl, hq3, hk3⟩
  have HQ3 := hid hq3
  have HK3 := hid (show Keeps (foot3 LA LM b c k.s) w w3 from Keeps.trans (Keeps.up (by (repeat (first | with_reducible exact HK2.out | with_reducible refine Keeps.drewN ?_ _ | with_reducible refine Keeps.drew ?_)))) hk3)
  clear hq3 hk3
  go_wp2_with fail
  go_end0
  exact ⟨rfl, HFIN.out _ _ HK3.out HQ3.out⟩
set_option maxRecDepth 100000 in
set_option maxHeartbeats 2000000 in
theorem turn_load (x : Mv) (h : Pair w0 w p a m b c LA LM k f) (hok : k.Ok) (hx : x.Byte) (hk : x.kind % 16 = 2) :
    Calls Tryz.prog 43 #[.pointer (some ⟨p, 0, none⟩), x.val] w fun e w' => e = .returned (.tuple #[]) ∧ Pair w0 w' p a m b c LA LM ⟨(x.mo26 k.s).doR k.s, k.C⟩ f ∧ PKeep w w' p (foot3 LA LM b c k.s) := by
  have hki : (x.kind : Int) % 16 = 2 := by omega
  have hmany := hok.s.m.k1; have hm4 := hok.s.m.k4
  obtain ⟨hb0, hb1, hb2, hb3, hb4⟩ := hx
  have hz : ¬ (k.s.M.K.many : Int) = 0 := by omega
  obtain ⟨mk, hmk⟩ : ∃ mk, x.m % k.s.M.K.many = mk := ⟨_, rfl⟩
  have hmkl : mk < k.s.M.K.many := by rw [← hmk]; exact Nat.mod_lt _ (by omega)
  have HMOD := hid (show (x.m : Int) % (k.s.M.K.many : Int) = (mk : Int) by rw [← hmk]; simp)
  obtain ⟨n, hn⟩ : ∃ n, (k.s.A.rt mk).l.length = n := ⟨_, rfl⟩
  have hn2 : (k.s.A.rt mk).n = n := by rw [← hn]; simp [Sk.l]
  obtain ⟨wA, hwA⟩ : ∃ wA, w.alloc (.cells #[.int .u8 x.kind, .int .u8 x.m, .int .u8 x.a, .int .u8 x.b, .int .u8 x.c] 100) = wA := ⟨_, rfl⟩
  have kA : Keeps (fun _ => False) w wA := by rw [← hwA]; exact (Keeps.refl _ _).alloc _
  have qA : wA.heap[w.heap.size]? = some (.cells #[.int .u8 x.kind, .int .u8 x.m, .int .u8 x.a, .int .u8 x.b, .int .u8 x.c] 100) := by rw [← hwA]; exact alloc_new
  obtain ⟨v, hown, hrow⟩ := h.ex
  have hfl := h.q.footlt
  have HCF := hid (fun W (hk : Keeps (foot3 LA LM b c k.s) wA W) => And.intro (cells5 (block_keep qA hk (fun hf => by have := hfl _ hf; omega))) (cells4 (block_keep (block_keep hown kA (fun h => h)) hk (h.q.pairfoot hown))))
  have HSZ := hid (fun W (hk : Keeps (fun _ => False) w W) => asizes_ok a LA k.s.A W (h.q.same hk).tr.both.ar)
  have HSA := hid (fun W (hk : Keeps (fun _ => False) w W) => astackall_ok a LA k.s.A mk W (h.q.same hk).tr.both.ar (by rw [hok.s.k]; exact hmkl))
  rw [hok.s.k] at HSZ
  have HQU := hid (fun W (hk : Keeps (fun _ => False) w W) => h.q.same hk)
  have HFIN := hid (fun W d (hk : Keeps (foot3 LA LM b c k.s) w W) (hd : Quad w0 W a m b c LA LM d) => h.fin hk hd)
  have HFT := hid hfl
  have HPC := hid (fun W (hk : Keeps (foot3 LA LM b c k.s) w W) => let q := cells4 (block_keep hown hk (h.q.pairfoot hown)); And.intro q.2.1 q.1)
  have HI := hid (fun (y : Nat) (hy : y < 256) W => index26 y n W hy)
  have hw0 := lt_block qA
  have HKA := hid kA; have HWA := hid hwA; have HN := hid hn; have HOK := hid hok; have HMK := hid hmk; have HN2 := hid hn2; have HMKL := hid hmkl
  obtain ⟨⟨y0, y1, y2, y3, y4, yl⟩, ⟨x0, x1, x2, x3, xl⟩⟩ := HCF.out wA (Keeps.refl _ _)
  clear hn hn2 hmk kA hwA qA hown hrow hfl h hok hmkl hmany
  have hmo : (x.mo26 k.s).doR k.s = ⟨(k.s.A.loadR mk (idx x.a n : Nat) (x.b % 4 : Nat)).A, k.s.M⟩ := by
    have : x.mo26 k.s = .load mk (idx x.a n : Nat) (x.b % 4 : Nat) := by unfold Mv.mo26; dsimp only; rw [hk, HMK.out, HN2.out]; rfl
    rw [this]; rfl
  rw [hmo]
  have HA := hid (fun W (hk : Keeps (fun _ => False) w W) => (aload_any a LA k.s.A mk (idx x.a n : Nat) (x.b % 4 : Nat) W (HQU.out W hk).tr.both.ar HOK.out.s.a).mono (fun e w' ⟨h1, h2, h3⟩ => And.intro h1 ((HQU.out W hk).arF h2 h3 (Ar.loadR_n _ _ _ _).2)))
  clear hk hmo
  unfold Mv.val
  go_enter Tryz.func43, Tryz.ntmps43
  go_upto_region 1 with (fail)
  rw [HWA.out]
  go_wp2_with fail
  refine (HSZ.out _ HKA.out).mono ?_
  rintro e w1 ⟨rfl, k1⟩
  have HK1 := hid (HKA.out.trans k1)
  obtain ⟨⟨z0, z1, z2, z3, z4, zl⟩, ⟨u0, u1, u2, u3, ul⟩⟩ := HCF.out w1 k1.up
  have HK1A := hid k1
  clear k1 y0 y1 y2 y3 y4 yl x0 x1 x2 x3 xl
  go_wp2_with fail
  rw [HMOD.out]
  refine (HSA.out _ HK1.out).mono ?_
  rintro e w2 ⟨v5, rfl, hr5, k2⟩
  have hsh := own_shape hr5
  obtain ⟨p5, c5, hv5⟩ := hsh
  obtain rfl := hv5
  have HK2 := hid (HK1.out.trans k2)
  obtain ⟨⟨y0, y1, y2, y3, y4, yl⟩, ⟨x0, x1, x2, x3, xl⟩⟩ := HCF.out w2 (HK1A.out.trans k2).up
  have HK2A := hid (HK1A.out.trans k2)
  clear k2 hr5 z0 z1 z2 z3 z4 zl u0 u1 u2 u3 ul
  rw [HN.out]
  go_wp2_with fail
  go_quiet (first | (go_at_call 92; refine (HI.out _ (by assumption) _).mono ?_; rintro e w' ⟨rfl, rfl⟩; exact ⟨rfl, _, rfl⟩))
  obtain ⟨wq, hwq⟩ : ∃ wq, w2.drewN nq = wq := ⟨_, rfl⟩
  rw [hwq]
  have kq : Keeps (fun _ => False) w2 wq := by rw [← hwq]; exact (Keeps.refl _ _).drewN _
  obtain ⟨⟨z0, z1, z2, z3, z4, zl⟩, ⟨u0, u1, u2, u3, ul⟩⟩ := HCF.out wq (HK2A.out.trans kq).up
  have HKQ := hid (HK2.out.trans kq)
  have HKQA := hid (HK2A.out.trans kq)
  clear hwq kq y0 y1 y2 y3 y4 yl x0 x1 x2 x3 xl HK2 HK2A
  go_wp2_with fail
  go_quiet (fail)
  obtain ⟨wz, hwz⟩ : ∃ wz, wq.drewN nq = wz := ⟨_, rfl⟩
  rw [hwz]
  have kq : Keeps (fun _ => False) wq wz := by rw [← hwz]; exact (Keeps.refl _ _).drewN _
  obtain ⟨⟨y0, y1, y2, y3, y4, yl⟩, ⟨x0, x1, x2, x3, xl⟩⟩ := HCF.out wz (HKQA.out.trans kq).up
  have HK2 := hid (HKQ.out.trans kq)
  have HK2A := hid (HKQA.out.trans kq)
  clear hwz kq z0 z1 z2 z3 z4 zl u0 u1 u2 u3 ul HKQ HKQA
  go_wp2_with fail
  refine (HA.out _ (by (repeat (first | with_reducible exact HK2.out | with_reducible refine Keeps.drewN ?_ _ | with_reducible refine Keeps.drew ?_)))).mono ?_
  rintro e w3 ⟨rfl, hq3, hk3⟩
  have HQ3 := hid hq3
  have HK3 := hid (show Keeps (foot3 LA LM b c k.s) w w3 from Keeps.trans (Keeps.up (by (repeat (first | with_reducible exact HK2.out | with_reducible refine Keeps.drewN ?_ _ | with_reducible refine Keeps.drew ?_)))) hk3)
  clear hq3 hk3
  go_wp2_with fail
  go_end0
  exact ⟨rfl, HFIN.out _ _ HK3.out HQ3.out⟩
set_option maxRecDepth 100000 in
set_option maxHeartbeats 2000000 in
theorem turn_get (x : Mv) (h : Pair w0 w p a m b c LA LM k f) (hok : k.Ok) (hx : x.Byte) (hk : x.kind % 16 = 9) :
    Calls Tryz.prog 43 #[.pointer (some ⟨p, 0, none⟩), x.val] w fun e w' => e = .returned (.tuple #[]) ∧ Pair w0 w' p a m b c LA LM ⟨(x.mo26 k.s).doR k.s, k.C⟩ f ∧ PKeep w w' p (foot3 LA LM b c k.s) := by
  have hki : (x.kind : Int) % 16 = 9 := by omega
  have hmany := hok.s.m.k1; have hm4 := hok.s.m.k4
  obtain ⟨hb0, hb1, hb2, hb3, hb4⟩ := hx
  have hz : ¬ (k.s.M.K.many : Int) = 0 := by omega
  obtain ⟨mk, hmk⟩ : ∃ mk, x.m % k.s.M.K.many = mk := ⟨_, rfl⟩
  have hmkl : mk < k.s.M.K.many := by rw [← hmk]; exact Nat.mod_lt _ (by omega)
  have HMOD := hid (show (x.m : Int) % (k.s.M.K.many : Int) = (mk : Int) by rw [← hmk]; simp)
  obtain ⟨n, hn⟩ : ∃ n, (k.s.A.rt mk).l.length = n := ⟨_, rfl⟩
  have hn2 : (k.s.A.rt mk).n = n := by rw [← hn]; simp [Sk.l]
  obtain ⟨wA, hwA⟩ : ∃ wA, w.alloc (.cells #[.int .u8 x.kind, .int .u8 x.m, .int .u8 x.a, .int .u8 x.b, .int .u8 x.c] 100) = wA := ⟨_, rfl⟩
  have kA : Keeps (fun _ => False) w wA := by rw [← hwA]; exact (Keeps.refl _ _).alloc _
  have qA : wA.heap[w.heap.size]? = some (.cells #[.int .u8 x.kind, .int .u8 x.m, .int .u8 x.a, .int .u8 x.b, .int .u8 x.c] 100) := by rw [← hwA]; exact alloc_new
  obtain ⟨v, hown, hrow⟩ := h.ex
  have hfl := h.q.footlt
  have HCF := hid (fun W (hk : Keeps (foot3 LA LM b c k.s) wA W) => And.intro (cells5 (block_keep qA hk (fun hf => by have := hfl _ hf; omega))) (cells4 (block_keep (block_keep hown kA (fun h => h)) hk (h.q.pairfoot hown))))
  have HSZ := hid (fun W (hk : Keeps (fun _ => False) w W) => asizes_ok a LA k.s.A W (h.q.same hk).tr.both.ar)
  have HSA := hid (fun W (hk : Keeps (fun _ => False) w W) => astackall_ok a LA k.s.A mk W (h.q.same hk).tr.both.ar (by rw [hok.s.k]; exact hmkl))
  rw [hok.s.k] at HSZ
  have HQU := hid (fun W (hk : Keeps (fun _ => False) w W) => h.q.same hk)
  have HFIN := hid (fun W d (hk : Keeps (foot3 LA LM b c k.s) w W) (hd : Quad w0 W a m b c LA LM d) => h.fin hk hd)
  have HFT := hid hfl
  have HPC := hid (fun W (hk : Keeps (foot3 LA LM b c k.s) w W) => let q := cells4 (block_keep hown hk (h.q.pairfoot hown)); And.intro q.2.1 q.1)
  have HI := hid (fun (y : Nat) (hy : y < 256) W => index26 y n W hy)
  have hw0 := lt_block qA
  have HKA := hid kA; have HWA := hid hwA; have HN := hid hn; have HOK := hid hok; have HMK := hid hmk; have HN2 := hid hn2; have HMKL := hid hmkl
  obtain ⟨⟨y0, y1, y2, y3, y4, yl⟩, ⟨x0, x1, x2, x3, xl⟩⟩ := HCF.out wA (Keeps.refl _ _)
  clear hn hn2 hmk kA hwA qA hown hrow hfl h hok hmkl hmany
  have hmo : (x.mo26 k.s).doR k.s = ⟨(k.s.A.getR mk (x.b % 8 : Nat)).A, k.s.M⟩ := by
    have : x.mo26 k.s = .get mk (x.b % 8 : Nat) := by unfold Mv.mo26; dsimp only; rw [hk, HMK.out, HN2.out]; rfl
    rw [this]; rfl
  rw [hmo]
  have HA := hid (fun W (hk : Keeps (fun _ => False) w W) => (aget_any a LA k.s.A mk (x.b % 8 : Nat) W (HQU.out W hk).tr.both.ar HOK.out.s.a).mono (fun e w' ⟨h1, h2, h3⟩ => And.intro h1 ((HQU.out W hk).arF h2 h3 (Ar.getR_n _ _ _).2)))
  clear hk hmo
  unfold Mv.val
  go_enter Tryz.func43, Tryz.ntmps43
  go_upto_region 1 with (fail)
  rw [HWA.out]
  go_wp2_with fail
  refine (HSZ.out _ HKA.out).mono ?_
  rintro e w1 ⟨rfl, k1⟩
  have HK1 := hid (HKA.out.trans k1)
  obtain ⟨⟨z0, z1, z2, z3, z4, zl⟩, ⟨u0, u1, u2, u3, ul⟩⟩ := HCF.out w1 k1.up
  have HK1A := hid k1
  clear k1 y0 y1 y2 y3 y4 yl x0 x1 x2 x3 xl
  go_wp2_with fail
  rw [HMOD.out]
  refine (HSA.out _ HK1.out).mono ?_
  rintro e w2 ⟨v5, rfl, hr5, k2⟩
  have hsh := own_shape hr5
  obtain ⟨p5, c5, hv5⟩ := hsh
  obtain rfl := hv5
  have HK2 := hid (HK1.out.trans k2)
  obtain ⟨⟨y0, y1, y2, y3, y4, yl⟩, ⟨x0, x1, x2, x3, xl⟩⟩ := HCF.out w2 (HK1A.out.trans k2).up
  have HK2A := hid (HK1A.out.trans k2)
  clear k2 hr5 z0 z1 z2 z3 z4 zl u0 u1 u2 u3 ul
  rw [HN.out]
  go_wp2_with fail
  go_quiet (first | (go_at_call 92; refine (HI.out _ (by assumption) _).mono ?_; rintro e w' ⟨rfl, rfl⟩; exact ⟨rfl, _, rfl⟩))
  obtain ⟨wq, hwq⟩ : ∃ wq, w2.drewN nq = wq := ⟨_, rfl⟩
  rw [hwq]
  have kq : Keeps (fun _ => False) w2 wq := by rw [← hwq]; exact (Keeps.refl _ _).drewN _
  obtain ⟨⟨z0, z1, z2, z3, z4, zl⟩, ⟨u0, u1, u2, u3, ul⟩⟩ := HCF.out wq (HK2A.out.trans kq).up
  have HKQ := hid (HK2.out.trans kq)
  have HKQA := hid (HK2A.out.trans kq)
  clear hwq kq y0 y1 y2 y3 y4 yl x0 x1 x2 x3 xl HK2 HK2A
  go_wp2_with fail
  go_quiet (fail)
  obtain ⟨wz, hwz⟩ : ∃ wz, wq.drewN nq = wz := ⟨_, rfl⟩
  rw [hwz]
  have kq : Keeps (fun _ => False) wq wz := by rw [← hwz]; exact (Keeps.refl _ _).drewN _
  obtain ⟨⟨y0, y1, y2, y3, y4, yl⟩, ⟨x0, x1, x2, x3, xl⟩⟩ := HCF.out wz (HKQA.out.trans kq).up
  have HK2 := hid (HKQ.out.trans kq)
  have HK2A := hid (HKQA.out.trans kq)
  clear hwz kq z0 z1 z2 z3 z4 zl u0 u1 u2 u3 ul HKQ HKQA
  go_wp2_with fail
  refine (HA.out _ (by (repeat (first | with_reducible exact HK2.out | with_reducible refine Keeps.drewN ?_ _ | with_reducible refine Keeps.drew ?_)))).mono ?_
  rintro e w3 ⟨rfl, hq3, hk3⟩
  have HQ3 := hid hq3
  have HK3 := hid (show Keeps (foot3 LA LM b c k.s) w w3 from Keeps.trans (Keeps.up (by (repeat (first | with_reducible exact HK2.out | with_reducible refine Keeps.drewN ?_ _ | with_reducible refine Keeps.drew ?_)))) hk3)
  clear hq3 hk3
  go_wp2_with fail
  go_end0
  exact ⟨rfl, HFIN.out _ _ HK3.out HQ3.out⟩
set_option maxRecDepth 100000 in
set_option maxHeartbeats 2000000 in
theorem turn_ack (x : Mv) (h : Pair w0 w p a m b c LA LM k f) (hok : k.Ok) (hx : x.Byte) (hk : (x.kind : Int) % 16 = 10 ∨ (x.kind : Int) % 16 = 11) :
    Calls Tryz.prog 43 #[.pointer (some ⟨p, 0, none⟩), x.val] w fun e w' => e = .returned (.tuple #[]) ∧ Pair w0 w' p a m b c LA LM ⟨⟨k.s.A, (k.s.M.ackR k.s.A (x.m % k.s.M.K.many : Nat)).M⟩, k.C⟩ f ∧ PKeep w w' p (foot3 LA LM b c k.s) := by
  have hmany := hok.s.m.k1; have hm4 := hok.s.m.k4
  obtain ⟨hb0, hb1, hb2, hb3, hb4⟩ := hx
  have hz : ¬ (k.s.M.K.many : Int) = 0 := by omega
  obtain ⟨mk, hmk⟩ : ∃ mk, x.m % k.s.M.K.many = mk := ⟨_, rfl⟩
  have hmkl : mk < k.s.M.K.many := by rw [← hmk]; exact Nat.mod_lt _ (by omega)
  have HMOD := hid (show (x.m : Int) % (k.s.M.K.many : Int) = (mk : Int) by rw [← hmk]; simp)
  obtain ⟨n, hn⟩ : ∃ n, (k.s.A.rt mk).l.length = n := ⟨_, rfl⟩
  have hn2 : (k.s.A.rt mk).n = n := by rw [← hn]; simp [Sk.l]
  obtain ⟨wA, hwA⟩ : ∃ wA, w.alloc (.cells #[.int .u8 x.kind, .int .u8 x.m, .int .u8 x.a, .int .u8 x.b, .int .u8 x.c] 100) = wA := ⟨_, rfl⟩
  have kA : Keeps (fun _ => False) w wA := by rw [← hwA]; exact (Keeps.refl _ _).alloc _
  have qA : wA.heap[w.heap.size]? = some (.cells #[.int .u8 x.kind, .int .u8 x.m, .int .u8 x.a, .int .u8 x.b, .int .u8 x.c] 100) := by rw [← hwA]; exact alloc_new
  obtain ⟨v, hown, hrow⟩ := h.ex
  have hfl := h.q.footlt
  have HCF := hid (fun W (hk : Keeps (foot3 LA LM b c k.s) wA W) => And.intro (cells5 (block_keep qA hk (fun hf => by have := hfl _ hf; omega))) (cells4 (block_keep (block_keep hown kA (fun h => h)) hk (h.q.pairfoot hown))))
  have HSZ := hid (fun W (hk : Keeps (fun _ => False) w W) => asizes_ok a LA k.s.A W (h.q.same hk).tr.both.ar)
  have HSA := hid (fun W (hk : Keeps (fun _ => False) w W) => astackall_ok a LA k.s.A mk W (h.q.same hk).tr.both.ar (by rw [hok.s.k]; exact hmkl))
  rw [hok.s.k] at HSZ
  have HQU := hid (fun W (hk : Keeps (fun _ => False) w W) => h.q.same hk)
  have HFIN := hid (fun W d (hk : Keeps (foot3 LA LM b c k.s) w W) (hd : Quad w0 W a m b c LA LM d) => h.fin hk hd)
  have HFT := hid hfl
  have HPC := hid (fun W (hk : Keeps (foot3 LA LM b c k.s) w W) => let q := cells4 (block_keep hown hk (h.q.pairfoot hown)); And.intro q.2.1 q.1)
  have HI := hid (fun (y : Nat) (hy : y < 256) W => index26 y n W hy)
  have hw0 := lt_block qA
  have HKA := hid kA; have HWA := hid hwA; have HN := hid hn; have HOK := hid hok; have HMK := hid hmk; have HN2 := hid hn2; have HMKL := hid hmkl
  obtain ⟨⟨y0, y1, y2, y3, y4, yl⟩, ⟨x0, x1, x2, x3, xl⟩⟩ := HCF.out wA (Keeps.refl _ _)
  clear hn hn2 hmk kA hwA qA hown hrow hfl h hok hmkl hmany
  rw [HMK.out]
  have HA := hid (fun W (hk : Keeps (fun _ => False) w W) => cyack (HQU.out W hk) HOK.out mk)
  obtain ⟨R, hR⟩ : ∃ R, k.s.M.ackR k.s.A mk = R := ⟨_, rfl⟩
  rw [hR] at HA ⊢
  clear hR
  rcases hk with hki | hki
  all_goals
    unfold Mv.val
    go_enter Tryz.func43, Tryz.ntmps43
    go_upto_region 1 with (fail)
    rw [HWA.out]
    go_wp2_with fail
    refine (HSZ.out _ HKA.out).mono ?_
    rintro e w1 ⟨rfl, k1⟩
    have HK1 := hid (HKA.out.trans k1)
    obtain ⟨⟨z0, z1, z2, z3, z4, zl⟩, ⟨u0, u1, u2, u3, ul⟩⟩ := HCF.out w1 k1.up
    have HK1A := hid k1
    clear k1 y0 y1 y2 y3 y4 yl x0 x1 x2 x3 xl
    go_wp2_with fail
    rw [HMOD.out]
    refine (HSA.out _ HK1.out).mono ?_
    rintro e w2 ⟨v5, rfl, hr5, k2⟩
    have hsh := own_shape hr5
    obtain ⟨p5, c5, hv5⟩ := hsh
    obtain rfl := hv5
    have HK2 := hid (HK1.out.trans k2)
    obtain ⟨⟨y0, y1, y2, y3, y4, yl⟩, ⟨x0, x1, x2, x3, xl⟩⟩ := HCF.out w2 (HK1A.out.trans k2).up
    have HK2A := hid (HK1A.out.trans k2)
    clear k2 hr5 z0 z1 z2 z3 z4 zl u0 u1 u2 u3 ul
    rw [HN.out]
    go_wp2_with fail
    go_quiet (first | (go_at_call 92; refine (HI.out _ (by assumption) _).mono ?_; rintro e w' ⟨rfl, rfl⟩; exact ⟨rfl, _, rfl⟩))
    obtain ⟨wq, hwq⟩ : ∃ wq, w2.drewN nq = wq := ⟨_, rfl⟩
    rw [hwq]
    have kq : Keeps (fun _ => False) w2 wq := by rw [← hwq]; exact (Keeps.refl _ _).drewN _
    obtain ⟨⟨z0, z1, z2, z3, z4, zl⟩, ⟨u0, u1, u2, u3, ul⟩⟩ := HCF.out wq (HK2A.out.trans kq).up
    have HKQ := hid (HK2.out.trans kq)
    have HKQA := hid (HK2A.out.trans kq)
    clear hwq kq y0 y1 y2 y3 y4 yl x0 x1 x2 x3 xl HK2 HK2A
    go_wp2_with fail
    go_quiet (fail)
    obtain ⟨wz, hwz⟩ : ∃ wz, wq.drewN nq = wz := ⟨_, rfl⟩
    rw [hwz]
    have kq : Keeps (fun _ => False) wq wz := by rw [← hwz]; exact (Keeps.refl _ _).drewN _
    obtain ⟨⟨y0, y1, y2, y3, y4, yl⟩, ⟨x0, x1, x2, x3, xl⟩⟩ := HCF.out wz (HKQA.out.trans kq).up
    have HK2 := hid (HKQ.out.trans kq)
    have HK2A := hid (HKQA.out.trans kq)
    clear hwz kq z0 z1 z2 z3 z4 zl u0 u1 u2 u3 ul HKQ HKQA
    go_wp2_with fail
    go_region_held3 (fun W => W.cell? ⟨p, 1, none⟩ = some (.pointer (some ⟨c, 0, none⟩)) ∧ W.cell? ⟨p, 0, none⟩ = some (.pointer (some ⟨a, 0, none⟩)))
      ((refine HPC.out _ ?_; (repeat (first | with_reducible exact HK2.out.up | with_reducible refine Keeps.drewN ?_ _ | with_reducible refine Keeps.drew ?_ | with_reducible refine Keeps.trans ?_ (by with_reducible assumption)))))
      (first | (go_at_call 10; refine (HA.out _ (by (repeat (first | with_reducible exact HK2.out | with_reducible refine Keeps.drewN ?_ _ | with_reducible refine Keeps.drew ?_)))).mono ?_; rintro e w3 ⟨rfl, hq3, hk3⟩))
    have HQ3 := hid hq3
    have HK3 := hid (show Keeps (foot3 LA LM b c k.s) w w3 from Keeps.trans (Keeps.up (by (repeat (first | with_reducible exact HK2.out | with_reducible refine Keeps.drewN ?_ _ | with_reducible refine Keeps.drew ?_)))) hk3)
    clear hq3 hk3
    go_wp2_with fail
    go_end0
    exact ⟨rfl, HFIN.out _ _ HK3.out HQ3.out⟩
set_option maxRecDepth 100000 in
set_option maxHeartbeats 2000000 in
theorem turn_ask (x : Mv) (h : Pair w0 w p a m b c LA LM k f) (hok : k.Ok) (hx : x.Byte) (hki : (x.kind : Int) % 16 = 12) (hb : k.C.begun < 4611686018427387904) :
    Calls Tryz.prog 43 #[.pointer (some ⟨p, 0, none⟩), x.val] w fun e w' => e = .returned (.tuple #[]) ∧ Pair w0 w' p a m b c LA LM k.askR.1 f ∧ PKeep w w' p (foot3 LA LM b c k.s) := by
  have hmany := hok.s.m.k1; have hm4 := hok.s.m.k4
  obtain ⟨hb0, hb1, hb2, hb3, hb4⟩ := hx
  have hz : ¬ (k.s.M.K.many : Int) = 0 := by omega
  obtain ⟨mk, hmk⟩ : ∃ mk, x.m % k.s.M.K.many = mk := ⟨_, rfl⟩
  have hmkl : mk < k.s.M.K.many := by rw [← hmk]; exact Nat.mod_lt _ (by omega)
  have HMOD := hid (show (x.m : Int) % (k.s.M.K.many : Int) = (mk : Int) by rw [← hmk]; simp)
  obtain ⟨n, hn⟩ : ∃ n, (k.s.A.rt mk).l.length = n := ⟨_, rfl⟩
  have hn2 : (k.s.A.rt mk).n = n := by rw [← hn]; simp [Sk.l]
  obtain ⟨wA, hwA⟩ : ∃ wA, w.alloc (.cells #[.int .u8 x.kind, .int .u8 x.m, .int .u8 x.a, .int .u8 x.b, .int .u8 x.c] 100) = wA := ⟨_, rfl⟩
  have kA : Keeps (fun _ => False) w wA := by rw [← hwA]; exact (Keeps.refl _ _).alloc _
  have qA : wA.heap[w.heap.size]? = some (.cells #[.int .u8 x.kind, .int .u8 x.m, .int .u8 x.a, .int .u8 x.b, .int .u8 x.c] 100) := by rw [← hwA]; exact alloc_new
  obtain ⟨v, hown, hrow⟩ := h.ex
  have hfl := h.q.footlt
  have HCF := hid (fun W (hk : Keeps (foot3 LA LM b c k.s) wA W) => And.intro (cells5 (block_keep qA hk (fun hf => by have := hfl _ hf; omega))) (cells4 (block_keep (block_keep hown kA (fun h => h)) hk (h.q.pairfoot hown))))
  have HSZ := hid (fun W (hk : Keeps (fun _ => False) w W) => asizes_ok a LA k.s.A W (h.q.same hk).tr.both.ar)
  have HSA := hid (fun W (hk : Keeps (fun _ => False) w W) => astackall_ok a LA k.s.A mk W (h.q.same hk).tr.both.ar (by rw [hok.s.k]; exact hmkl))
  rw [hok.s.k] at HSZ
  have HQU := hid (fun W (hk : Keeps (fun _ => False) w W) => h.q.same hk)
  have HFIN := hid (fun W d (hk : Keeps (foot3 LA LM b c k.s) w W) (hd : Quad w0 W a m b c LA LM d) => h.fin hk hd)
  have HFT := hid hfl
  have HPC := hid (fun W (hk : Keeps (foot3 LA LM b c k.s) w W) => let q := cells4 (block_keep hown hk (h.q.pairfoot hown)); And.intro q.2.1 q.1)
  have HI := hid (fun (y : Nat) (hy : y < 256) W => index26 y n W hy)
  have hw0 := lt_block qA
  have HKA := hid kA; have HWA := hid hwA; have HN := hid hn; have HOK := hid hok; have HMK := hid hmk; have HN2 := hid hn2; have HMKL := hid hmkl
  obtain ⟨⟨y0, y1, y2, y3, y4, yl⟩, ⟨x0, x1, x2, x3, xl⟩⟩ := HCF.out wA (Keeps.refl _ _)
  clear hn hn2 hmk kA hwA qA hown hrow hfl h hok hmkl hmany
  have HA := hid (fun W (hk : Keeps (fun _ => False) w W) => cyask (HQU.out W hk) hb)
  obtain ⟨R, hR⟩ : ∃ R, k.askR = R := ⟨_, rfl⟩
  rw [hR] at HA ⊢
  clear hR hb
  unfold Mv.val
  go_enter Tryz.func43, Tryz.ntmps43
  go_upto_region 1 with (fail)
  rw [HWA.out]
  go_wp2_with fail
  refine (HSZ.out _ HKA.out).mono ?_
  rintro e w1 ⟨rfl, k1⟩
  have HK1 := hid (HKA.out.trans k1)
  obtain ⟨⟨z0, z1, z2, z3, z4, zl⟩, ⟨u0, u1, u2, u3, ul⟩⟩ := HCF.out w1 k1.up
  have HK1A := hid k1
  clear k1 y0 y1 y2 y3 y4 yl x0 x1 x2 x3 xl
  go_wp2_with fail
  rw [HMOD.out]
  refine (HSA.out _ HK1.out).mono ?_
  rintro e w2 ⟨v5, rfl, hr5, k2⟩
  have hsh := own_shape hr5
  obtain ⟨p5, c5, hv5⟩ := hsh
  obtain rfl := hv5
  have HK2 := hid (HK1.out.trans k2)
  obtain ⟨⟨y0, y1, y2, y3, y4, yl⟩, ⟨x0, x1, x2, x3, xl⟩⟩ := HCF.out w2 (HK1A.out.trans k2).up
  have HK2A := hid (HK1A.out.trans k2)
  clear k2 hr5 z0 z1 z2 z3 z4 zl u0 u1 u2 u3 ul
  rw [HN.out]
  go_wp2_with fail
  go_quiet (first | (go_at_call 92; refine (HI.out _ (by assumption) _).mono ?_; rintro e w' ⟨rfl, rfl⟩; exact ⟨rfl, _, rfl⟩))
  obtain ⟨wq, hwq⟩ : ∃ wq, w2.drewN nq = wq := ⟨_, rfl⟩
  rw [hwq]
  have kq : Keeps (fun _ => False) w2 wq := by rw [← hwq]; exact (Keeps.refl _ _).drewN _
  obtain ⟨⟨z0, z1, z2, z3, z4, zl⟩, ⟨u0, u1, u2, u3, ul⟩⟩ := HCF.out wq (HK2A.out.trans kq).up
  have HKQ := hid (HK2.out.trans kq)
  have HKQA := hid (HK2A.out.trans kq)
  clear hwq kq y0 y1 y2 y3 y4 yl x0 x1 x2 x3 xl HK2 HK2A
  go_wp2_with fail
  go_quiet (fail)
  obtain ⟨wz, hwz⟩ : ∃ wz, wq.drewN nq = wz := ⟨_, rfl⟩
  rw [hwz]
  have kq : Keeps (fun _ => False) wq wz := by rw [← hwz]; exact (Keeps.refl _ _).drewN _
  obtain ⟨⟨y0, y1, y2, y3, y4, yl⟩, ⟨x0, x1, x2, x3, xl⟩⟩ := HCF.out wz (HKQA.out.trans kq).up
  have HK2 := hid (HKQ.out.trans kq)
  have HK2A := hid (HKQA.out.trans kq)
  clear hwz kq z0 z1 z2 z3 z4 zl u0 u1 u2 u3 ul HKQ HKQA
  go_wp2_with fail
  refine (HA.out _ (by (repeat (first | with_reducible exact HK2.out | with_reducible refine Keeps.drewN ?_ _ | with_reducible refine Keeps.drew ?_)))).mono ?_
  rintro e w3 ⟨rfl, hq3, hk3⟩
  have HQ3 := hid hq3
  have HK3 := hid (show Keeps (foot3 LA LM b c k.s) w w3 from Keeps.trans (Keeps.up (by (repeat (first | with_reducible exact HK2.out | with_reducible refine Keeps.drewN ?_ _ | with_reducible refine Keeps.drew ?_)))) hk3)
  clear hq3 hk3
  go_wp2_with fail
  go_end0
  exact ⟨rfl, HFIN.out _ _ HK3.out HQ3.out⟩
end Go.Proofs.YtnjgkhgdgpahfaaGreat
