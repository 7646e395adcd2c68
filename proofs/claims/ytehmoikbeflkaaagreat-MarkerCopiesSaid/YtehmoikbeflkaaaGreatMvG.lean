/- estraylaw24.MarkerCopies: systems side by side, and the walk. -/
import Derived.Test.YtehmoikbeflkaaaGreatMvC
import Derived.Test.YtehmoikbeflkaaaGreatCpA
import Derived.Deep.CutBlock
import Derived.StillTailTactics
namespace Go.Proofs.YtehmoikbeflkaaaGreat
open Go.RowKit Go.ChangeShapes Go.WideShapes Go.ChangeAt Go.Deep
set_option linter.unusedVariables false
set_option linter.unusedSimpArgs false
set_option linter.unusedSectionVars false

section
variable {w0 w w' : World} {N Z p a m : Nat} {LA : ArL} {LM : MkL} {s : Sys} {lv : Value} {d : List Rf}

structure SyIn (w0 w : World) (N Z p a m : Nat) (LA : ArL) (LM : MkL) (s : Sys) (d : List Rf) : Prop where
  sx : Sx w0 w p a m LA LM s d
  la : LA.Btw a s.A.many N Z
  lm : LM.Btw m s.M.K.many N Z
  p1 : N ≤ p
  p2 : p < Z
  n0 : w0.heap.size ≤ N
theorem SyIn.foot (h : SyIn w0 w N Z p a m LA LM s d) (y : Nat) (hy : footS p LA LM s y) : N ≤ y ∧ y < Z := by
  have h1 := h.p1; have h2 := h.p2
  obtain ⟨_, p2, p3, p4, p5, p6⟩ := h.la
  obtain ⟨_, q2, q3, q4, q5, q6⟩ := h.lm
  rcases hy with rfl | (hy | hy)
  · exact ⟨h1, h2⟩
  · rcases hy with rfl | rfl | rfl | ⟨k, hk, rfl⟩
    · exact p3
    · exact p4
    · exact p5
    · exact p6 k hk
  · rcases hy with rfl | rfl | rfl | ⟨k, hk, rfl⟩
    · exact q2
    · exact q3
    · exact q4
    · exact q6 k hk
def KeepsR (F : Nat → Prop) (w w' : World) : Prop := Keeps F w w' ∧ ∀ v l, Refs w v l → Refs w' v l
theorem KeepsR.quiet (hk : Keeps (fun _ => False) w w') : KeepsR (fun _ => False) w w' := ⟨hk, fun v l h => h.keeps hk (fun _ _ h => h)⟩
theorem SyIn.other {F : Nat → Prop} (h : SyIn w0 w N Z p a m LA LM s d) (hk : KeepsR F w w') (hF : ∀ y, F y → y < N ∨ Z ≤ y) (hF0 : ∀ y, F y → w0.heap.size ≤ y) : SyIn w0 w' N Z p a m LA LM s d := by
  have nf : ∀ y, N ≤ y ∧ y < Z → ¬ F y := fun y hy hf => by have := hF y hf; omega
  obtain ⟨hk, hR⟩ := hk
  obtain ⟨⟨lv, ⟨⟨ha, hm, hkp, hsep⟩, hown, hp⟩, hd⟩, la, lm, p1, p2, n0⟩ := h
  refine ⟨⟨lv, ⟨⟨ha.keeps hk (nf _ la.a) (nf _ la.o) (nf _ la.b) (nf _ la.t) (nf _ la.g) (fun k hk => nf _ (la.ss k hk)), hm.keeps hk (nf _ lm.m) (nf _ lm.c) (nf _ lm.p) (nf _ lm.s) (nf _ lm.rb) (fun k hk => nf _ (lm.bb k hk)), ?_, hsep⟩, block_keep hown hk (nf _ ⟨p1, p2⟩), hp⟩, hR _ _ hd⟩, la, lm, p1, p2, n0⟩
  exact hkp.trans' hk (fun _ _ h => h) (fun y hy hf => by have := hF0 y hf; omega)
theorem SyIn.quiet (h : SyIn w0 w N Z p a m LA LM s d) (hk : Keeps (fun _ => False) w w') : SyIn w0 w' N Z p a m LA LM s d := h.other (KeepsR.quiet hk) (fun _ h => h.elim) (fun _ h => h.elim)
theorem SyIn.turn {n k i : Nat} (t : Tv) (h : SyIn w0 w N Z p a m LA LM s d) (hg : G24 n k i s) (hi : i < 4611686018427387904) (hx : t.Byte) :
    Calls Tryz.prog 45 #[.pointer (some ⟨p, 0, none⟩), t.val] w fun e w' => e = .returned (.tuple #[]) ∧ SyIn w0 w' N Z p a m LA LM (t.turn s) (t.lost s d) ∧ KeepsR (fun y => N ≤ y ∧ y < Z) w w' := by
  refine (sturn t h.sx hg hi hx).mono ?_
  rintro e w' ⟨rfl, h1, h2⟩
  have ht := hg.turn t
  obtain ⟨lv, hsy, _⟩ := h.sx
  refine ⟨rfl, ⟨h1, ?_, ?_, h.p1, h.p2, h.n0⟩, h2.mono (fun y _ hy => h.foot y hy), fun v l hv => hsy.refs hv h2⟩
  · have e1 : (t.turn s).A.many = s.A.many := ht.ok.k.trans (ht.k.trans (hg.k.symm.trans hg.ok.k.symm))
    rw [e1]; exact h.la
  · have e2 : (t.turn s).M.K.many = s.M.K.many := ht.k.trans hg.k.symm
    rw [e2]; exact h.lm
theorem SyIn.of {w1 : World} (h : Sy w1 w' p a m LA LM s lv) (hd : Refs w' lv d) (hk : Keeps (fun _ => False) w0 w) (hk1 : Keeps (fun _ => False) w w1) : SyIn w0 w' w.heap.size w'.heap.size p a m LA LM s d := by
  have hz := hk1.size
  have hz0 := hk.size
  obtain ⟨⟨ha, hm, hkp, l1, h1, l2, h2, g1, g2, g3, ba, bm⟩, hown, hp⟩ := h
  have ha2 := ha.btw; have hm2 := hm.btw
  refine ⟨⟨lv, ⟨⟨ha, hm, (hk.trans hk1).trans hkp, l1, h1, l2, h2, by omega, by omega, g3, ba, bm⟩, hown, by omega⟩, hd⟩, ⟨?_, ?_, ?_, ?_, ?_, fun k hk => ?_⟩, ⟨?_, ?_, ?_, ?_, ?_, fun k hk => ?_⟩, by omega, lt_block hown, hz0⟩
  · exact ⟨by have := ba.a.1; omega, ha2.a.2⟩
  · exact ⟨by have := ba.o.1; omega, ha2.o.2⟩
  · exact ⟨by have := ba.b.1; omega, ha2.b.2⟩
  · exact ⟨by have := ba.t.1; omega, ha2.t.2⟩
  · exact ⟨by have := ba.g.1; omega, ha2.g.2⟩
  · exact ⟨by have := (ba.ss k hk).1; omega, (ha2.ss k hk).2⟩
  · exact ⟨by have := bm.m.1; omega, hm2.m.2⟩
  · exact ⟨by have := bm.c.1; omega, hm2.c.2⟩
  · exact ⟨by have := bm.p.1; omega, hm2.p.2⟩
  · exact ⟨by have := bm.s.1; omega, hm2.s.2⟩
  · exact ⟨by have := bm.rb.1; omega, hm2.rb.2⟩
  · exact ⟨by have := (bm.bb k hk).1; omega, (hm2.bb k hk).2⟩
theorem SyIn.mk' {W : World} {l1 h1 l2 h2 : Nat} (ha : ArIn W a LA s.A) (hm : MkIn W m LM s.M) (hown : W.heap[p]? = some (.cells #[.pointer (some ⟨a, 0, none⟩), .pointer (some ⟨m, 0, none⟩), .int .i64 s.M.K.many, .slice none 0 0] 75)) (hk : Keeps (fun _ => False) w0 W)
    (la : LA.Btw a s.A.many l1 h1) (lm : LM.Btw m s.M.K.many l2 h2) (hd : h1 ≤ l2 ∨ h2 ≤ l1) (n1 : N ≤ l1) (n2 : N ≤ l2) (z1 : h1 ≤ Z) (z2 : h2 ≤ Z) (b1 : N ≤ p) (b2 : p < Z) (h0 : w0.heap.size ≤ N) : SyIn w0 W N Z p a m LA LM s [] := by
  have ua : ∀ x, l1 ≤ x ∧ x < h1 → N ≤ x ∧ x < Z := fun x hx => by omega
  have um : ∀ x, l2 ≤ x ∧ x < h2 → N ≤ x ∧ x < Z := fun x hx => by omega
  exact ⟨⟨_, ⟨⟨ha, hm, hk, l1, h1, l2, h2, Nat.le_trans h0 n1, Nat.le_trans h0 n2, hd, la, lm⟩, hown, Nat.le_trans h0 b1⟩, (Row.nil W 0).refs⟩, ⟨ua _ la.a, ua _ la.o, ua _ la.b, ua _ la.t, ua _ la.g, fun k hk => ua _ (la.ss k hk)⟩, ⟨um _ lm.m, um _ lm.c, um _ lm.p, um _ lm.s, um _ lm.rb, fun k hk => um _ (lm.bb k hk)⟩, b1, b2, h0⟩
theorem SyIn.cells (h : SyIn w0 w N Z p a m LA LM s d) : w.cell? ⟨p, 0, none⟩ = some (.pointer (some ⟨a, 0, none⟩)) ∧ w.cell? ⟨p, 1, none⟩ = some (.pointer (some ⟨m, 0, none⟩)) ∧ w.cell? ⟨p, 2, none⟩ = some (.int .i64 s.M.K.many) ∧ p < w.heap.size := by
  obtain ⟨lv, hsy, _⟩ := h.sx
  obtain ⟨x0, x1, x2, _, xl⟩ := cells4 hsy.own
  exact ⟨x0, x1, x2, xl⟩
theorem SyIn.kp (h : SyIn w0 w N Z p a m LA LM s d) : Keeps (fun _ => False) w0 w := h.sx.kp
theorem SyIn.ar (h : SyIn w0 w N Z p a m LA LM s d) : ArIn w a LA s.A := by obtain ⟨lv, hsy, _⟩ := h.sx; exact hsy.both.ar
theorem SyIn.mm (h : SyIn w0 w N Z p a m LA LM s d) : MkIn w m LM s.M := by obtain ⟨lv, hsy, _⟩ := h.sx; exact hsy.both.mm
theorem SyIn.marked (h : SyIn w0 w N Z p a m LA LM s d) (i : Int) : Calls Tryz.prog 46 #[.pointer (some ⟨m, 0, none⟩), .int .i64 i] w
    fun e w' => e = .returned (.tuple #[.bool (s.M.markedR i).1, .int .i64 (s.M.markedR i).2]) ∧ Keeps (fun _ => False) w w' := by
  obtain ⟨lv, hsy, _⟩ := h.sx; exact hsy.markedM i
end

end Go.Proofs.YtehmoikbeflkaaaGreat

/- estraylaw24.MarkerCopies: the walk. -/
namespace Go.Proofs.YtehmoikbeflkaaaGreat
open Go.RowKit Go.ChangeShapes Go.WideShapes Go.ChangeAt Go.Deep
set_option linter.unusedVariables false
set_option linter.unusedSimpArgs false
set_option linter.unusedSectionVars false

structure Pl where
  N : Nat
  Z : Nat
  p : Nat
  a : Nat
  m : Nat
  LA : ArL
  LM : MkL
abbrev SyP (w0 w : World) (x : Pl) (s : Sys) (d : List Rf) : Prop := SyIn w0 w x.N x.Z x.p x.a x.m x.LA x.LM s d
structure Tws (w0 w : World) (lo hi : Nat) (x y : Pl) (s t : Sys) (d e : List Rf) : Prop where
  l : SyP w0 w x s d
  r : SyP w0 w y t e
  sep : x.Z ≤ y.N ∨ y.Z ≤ x.N
  xl : lo ≤ x.N ∧ x.Z ≤ hi
  yl : lo ≤ y.N ∧ y.Z ≤ hi
section
variable {w0 w w' : World} {lo hi : Nat} {x y : Pl} {s t : Sys} {d e : List Rf}
theorem Tws.other {F : Nat → Prop} (h : Tws w0 w lo hi x y s t d e) (hk : KeepsR F w w') (hF : ∀ y, F y → y < lo ∨ hi ≤ y) (hF0 : ∀ y, F y → w0.heap.size ≤ y) : Tws w0 w' lo hi x y s t d e := by
  have h1 := h.xl; have h2 := h.yl
  exact ⟨h.l.other hk (fun y hy => by have := hF y hy; omega) hF0, h.r.other hk (fun y hy => by have := hF y hy; omega) hF0, h.sep, h.xl, h.yl⟩
theorem Tws.quiet (h : Tws w0 w lo hi x y s t d e) (hk : Keeps (fun _ => False) w w') : Tws w0 w' lo hi x y s t d e := h.other (KeepsR.quiet hk) (fun _ h => h.elim) (fun _ h => h.elim)
theorem Tws.turnl {n k i : Nat} (z : Tv) (h : Tws w0 w lo hi x y s t d e) (hg : G24 n k i s) (hi4 : i < 4611686018427387904) (hz : z.Byte) :
    Calls Tryz.prog 45 #[.pointer (some ⟨x.p, 0, none⟩), z.val] w fun r w' => r = .returned (.tuple #[]) ∧ Tws w0 w' lo hi x y (z.turn s) t (z.lost s d) e ∧ KeepsR (fun y => lo ≤ y ∧ y < hi) w w' := by
  refine (h.l.turn z hg hi4 hz).mono ?_
  rintro r w' ⟨rfl, h1, h2⟩
  have hx := h.xl; have hs := h.sep; have hn := h.l.n0
  exact ⟨rfl, ⟨h1, h.r.other h2 (fun y hy => by omega) (fun y hy => by omega), h.sep, h.xl, h.yl⟩, h2.1.mono (fun y _ hy => by omega), h2.2⟩
theorem Tws.turnr {n k i : Nat} (z : Tv) (h : Tws w0 w lo hi x y s t d e) (hg : G24 n k i t) (hi4 : i < 4611686018427387904) (hz : z.Byte) :
    Calls Tryz.prog 45 #[.pointer (some ⟨y.p, 0, none⟩), z.val] w fun r w' => r = .returned (.tuple #[]) ∧ Tws w0 w' lo hi x y s (z.turn t) d (z.lost t e) ∧ KeepsR (fun y => lo ≤ y ∧ y < hi) w w' := by
  refine (h.r.turn z hg hi4 hz).mono ?_
  rintro r w' ⟨rfl, h1, h2⟩
  have hx := h.yl; have hs := h.sep; have hn := h.r.n0
  exact ⟨rfl, ⟨h.l.other h2 (fun y hy => by omega) (fun y hy => by omega), h1, h.sep, h.xl, h.yl⟩, h2.1.mono (fun y _ hy => by omega), h2.2⟩
end

set_option maxRecDepth 100000 in
set_option maxHeartbeats 8000000 in
theorem markerCopies_walk (x y z u : Nat) (l more : List Tv) (v v2 : Value) (w : World) (hx : x < 256) (hy : y < 256) (hz : z < 256) (hu : u < 256) (hm : TvRow w v l) (hmo : TvRow w v2 more) :
    Calls Tryz.prog 9 #[.agg #[.int .u8 x, .int .u8 y, .int .u8 z, .int .u8 u], v, v2] w fun e w' => e = .returned (.bool true) ∧ Keeps (fun _ => False) w w' := by
  obtain ⟨am, cm, rfl, _, hmc2, hmr⟩ := hm
  obtain ⟨N, hN⟩ : ∃ N, (l).length = N := ⟨_, rfl⟩
  have HROW := hid (show ∀ (i : Nat) (z : Tv), (l)[i]? = some z → ∃ b2 o2, am = some ⟨b2, o2, none⟩ ∧ b2 < w.heap.size ∧ TvCell w b2 (o2 + i * 4) z from fun i z hz => by
    rcases hmr with rfl | ⟨b2, o2, e, hb, hc⟩
    · cases hz
    · exact ⟨b2, o2, e, hb, hc i z hz⟩)
  have HN := hid hN
  rw [hN]
  clear hmr hmc2 hN
  obtain ⟨am2, cm2, rfl, _, hmc2, hmr⟩ := hmo
  obtain ⟨N2, hN⟩ : ∃ N, (more).length = N := ⟨_, rfl⟩
  have HROW2 := hid (show ∀ (i : Nat) (z : Tv), (more)[i]? = some z → ∃ b2 o2, am2 = some ⟨b2, o2, none⟩ ∧ b2 < w.heap.size ∧ TvCell w b2 (o2 + i * 4) z from fun i z hz => by
    rcases hmr with rfl | ⟨b2, o2, e, hb, hc⟩
    · cases hz
    · exact ⟨b2, o2, e, hb, hc i z hz⟩)
  have HN2 := hid hN
  rw [hN]
  clear hmr hmc2 hN
  by_cases h100 : 100 < N
  · have h100' : (100 : Int) < (N : Int) := by omega
    go_enter Tryz.func9, Tryz.ntmps9
    go_wp2_with fail
    refine (works24 _).mono ?_
    rintro e w1 ⟨rfl, k1⟩
    go_wp2_with fail
    go_ret
    exact ⟨rfl, ((Keeps.refl _ _).alloc _).trans k1⟩
  have h100' : ¬ (100 : Int) < (N : Int) := by omega
  by_cases h40 : 40 < N2
  · have h40' : (40 : Int) < (N2 : Int) := by omega
    go_enter Tryz.func9, Tryz.ntmps9
    go_wp2_with fail
    refine (works24 _).mono ?_
    rintro e w1 ⟨rfl, k1⟩
    go_wp2_with fail
    go_ret
    exact ⟨rfl, ((Keeps.refl _ _).alloc _).trans k1⟩
  have h40' : ¬ (40 : Int) < (N2 : Int) := by omega
  have HMD := hid (fun W => smade x y z u W hx hy hz hu)
  obtain ⟨n, hn⟩ : ∃ n, 1 + x % 16 = n := ⟨_, rfl⟩
  obtain ⟨ms, hms⟩ : ∃ ms, 1 + y % 4 = ms := ⟨_, rfl⟩
  obtain ⟨st, hst⟩ : ∃ st, 1 + z % 8 = st := ⟨_, rfl⟩
  obtain ⟨bu, hbu⟩ : ∃ bu, 1 + u % 4 = bu := ⟨_, rfl⟩
  have hn1 : 1 ≤ n ∧ n ≤ 16 := by omega
  have hm1 : 1 ≤ ms ∧ ms ≤ 4 := by omega
  rw [hn, hms, hst, hbu] at HMD
  have hg0 : G24 n ms 0 (Sys.new4 n ms st bu) := G24.new (by omega) (by omega) (by omega) (by omega) st bu
  obtain ⟨S0, hS0⟩ : ∃ S0, Sys.new4 n ms st bu = S0 := ⟨_, rfl⟩
  rw [hS0] at HMD hg0
  have HG0 := hid hg0
  clear hg0 hS0 hn hms hst hbu
  obtain ⟨wA, hwA⟩ : ∃ wA, w.alloc (.cells #[.int .u8 x, .int .u8 y, .int .u8 z, .int .u8 u] 69) = wA := ⟨_, rfl⟩
  have kA : Keeps (fun _ => False) w wA := by rw [← hwA]; exact (Keeps.refl _ _).alloc _
  have qA : wA.heap[w.heap.size]? = some (.cells #[.int .u8 x, .int .u8 y, .int .u8 z, .int .u8 u] 69) := by rw [← hwA]; exact alloc_new
  have HKA := hid kA; have HWA := hid hwA
  obtain ⟨B, hB⟩ : ∃ B, w.heap.size = B := ⟨_, rfl⟩
  have HPA := hid (fun W (hk : Keeps (fun _ => False) wA W) => (show W.cell? ⟨B, 0, none⟩ = some (.int .u8 x) ∧ W.cell? ⟨B, 1, none⟩ = some (.int .u8 y) ∧ W.cell? ⟨B, 2, none⟩ = some (.int .u8 z) ∧ W.cell? ⟨B, 3, none⟩ = some (.int .u8 u) from by
    obtain ⟨b0, b1, b2, b3, _⟩ := cells4 (block_keep qA hk (fun h => h))
    rw [← hB]
    exact ⟨b0, b1, b2, b3⟩))
  have HB := hid hB
  clear hwA kA qA hB
  go_enter Tryz.func9, Tryz.ntmps9
  go_upto_region 3 with (fail)
  rw [HWA.out]
  try rw [HB.out]
  go_cut [7, 8] (fun s7 s8 wx => ∃ X Y : Pl, s7 = .pointer (some ⟨X.p, 0, none⟩) ∧ s8 = .pointer (some ⟨Y.p, 0, none⟩) ∧ Hid (Tws wA wx wA.heap.size wx.heap.size X Y S0 S0 [] []))
  case first =>
    go_region_held3 (fun W => W.cell? ⟨B, 0, none⟩ = some (.int .u8 x) ∧ W.cell? ⟨B, 1, none⟩ = some (.int .u8 y) ∧ W.cell? ⟨B, 2, none⟩ = some (.int .u8 z) ∧ W.cell? ⟨B, 3, none⟩ = some (.int .u8 u))
      ((refine HPA.out _ ?_; (repeat (first | with_reducible exact Keeps.refl _ _ | with_reducible refine Keeps.drewN ?_ _ | with_reducible refine Keeps.drew ?_ | with_reducible refine Keeps.alloc ?_ _ | with_reducible refine Keeps.trans ?_ kk2 | with_reducible refine Keeps.trans ?_ kk1))))
      (first
        | (have hz9 := kk1; go_at_call 43; refine (HMD.out _).mono ?_; rintro e w2 ⟨p2, w02, a2, m2, LA2, LM2, rfl, k02, hs2⟩; have kk2 := k02.trans hs2.both.kp; have j2 := SyIn.of hs2 (Row.nil w2 0).refs (show Keeps (fun _ => False) wA _ from by (repeat (first | with_reducible exact Keeps.refl _ _ | with_reducible refine Keeps.drewN ?_ _ | with_reducible refine Keeps.drew ?_ | with_reducible refine Keeps.alloc ?_ _ | with_reducible refine Keeps.trans ?_ kk2 | with_reducible refine Keeps.trans ?_ kk1))) k02)
        | (go_at_call 43; refine (HMD.out _).mono ?_; rintro e w1 ⟨p1, w01, a1, m1, LA1, LM1, rfl, k01, hs1⟩; have kk1 := k01.trans hs1.both.kp; have j1 := SyIn.of hs1 (Row.nil w1 0).refs (show Keeps (fun _ => False) wA _ from by (repeat (first | with_reducible exact Keeps.refl _ _ | with_reducible refine Keeps.drewN ?_ _ | with_reducible refine Keeps.drew ?_ | with_reducible refine Keeps.alloc ?_ _ | with_reducible refine Keeps.trans ?_ kk2 | with_reducible refine Keeps.trans ?_ kk1))) k01))
    all_goals
      go_wp2_with fail
      go_meet
      have z1 := kk1.size; have z2 := kk2.size
      first
        | exact ⟨⟨_, _, p1, a1, m1, LA1, LM1⟩, ⟨_, _, p2, a2, m2, LA2, LM2⟩, rfl, rfl, hid ⟨j1.quiet (by (repeat (first | with_reducible exact Keeps.refl _ _ | with_reducible refine Keeps.drewN ?_ _ | with_reducible refine Keeps.drew ?_ | with_reducible refine Keeps.alloc ?_ _ | with_reducible refine Keeps.trans ?_ kk2 | with_reducible refine Keeps.trans ?_ kk1))), j2.quiet (by (repeat (first | with_reducible exact Keeps.refl _ _ | with_reducible refine Keeps.drewN ?_ _ | with_reducible refine Keeps.drew ?_ | with_reducible refine Keeps.alloc ?_ _ | with_reducible refine Keeps.trans ?_ kk2 | with_reducible refine Keeps.trans ?_ kk1))), .inl (Keeps.size (S := fun _ => False) (by (repeat (first | with_reducible exact Keeps.refl _ _ | with_reducible refine Keeps.drewN ?_ _ | with_reducible refine Keeps.drew ?_ | with_reducible refine Keeps.alloc ?_ _ | with_reducible refine Keeps.trans ?_ kk2 | with_reducible refine Keeps.trans ?_ kk1)))), ⟨Keeps.size (S := fun _ => False) (by (repeat (first | with_reducible exact Keeps.refl _ _ | with_reducible refine Keeps.drewN ?_ _ | with_reducible refine Keeps.drew ?_ | with_reducible refine Keeps.alloc ?_ _ | with_reducible refine Keeps.trans ?_ kk2 | with_reducible refine Keeps.trans ?_ kk1))), Keeps.size (S := fun _ => False) (by (repeat (first | with_reducible exact Keeps.refl _ _ | with_reducible refine Keeps.drewN ?_ _ | with_reducible refine Keeps.drew ?_ | with_reducible refine Keeps.alloc ?_ _ | with_reducible refine Keeps.trans ?_ kk2 | with_reducible refine Keeps.trans ?_ kk1)))⟩, ⟨Keeps.size (S := fun _ => False) (by (repeat (first | with_reducible exact Keeps.refl _ _ | with_reducible refine Keeps.drewN ?_ _ | with_reducible refine Keeps.drew ?_ | with_reducible refine Keeps.alloc ?_ _ | with_reducible refine Keeps.trans ?_ kk2 | with_reducible refine Keeps.trans ?_ kk1))), Keeps.size (S := fun _ => False) (by (repeat (first | with_reducible exact Keeps.refl _ _ | with_reducible refine Keeps.drewN ?_ _ | with_reducible refine Keeps.drew ?_ | with_reducible refine Keeps.alloc ?_ _ | with_reducible refine Keeps.trans ?_ kk2 | with_reducible refine Keeps.trans ?_ kk1)))⟩⟩⟩
        | exact ⟨⟨_, _, p2, a2, m2, LA2, LM2⟩, ⟨_, _, p1, a1, m1, LA1, LM1⟩, rfl, rfl, hid ⟨j2.quiet (by (repeat (first | with_reducible exact Keeps.refl _ _ | with_reducible refine Keeps.drewN ?_ _ | with_reducible refine Keeps.drew ?_ | with_reducible refine Keeps.alloc ?_ _ | with_reducible refine Keeps.trans ?_ kk2 | with_reducible refine Keeps.trans ?_ kk1))), j1.quiet (by (repeat (first | with_reducible exact Keeps.refl _ _ | with_reducible refine Keeps.drewN ?_ _ | with_reducible refine Keeps.drew ?_ | with_reducible refine Keeps.alloc ?_ _ | with_reducible refine Keeps.trans ?_ kk2 | with_reducible refine Keeps.trans ?_ kk1))), .inr (Keeps.size (S := fun _ => False) (by (repeat (first | with_reducible exact Keeps.refl _ _ | with_reducible refine Keeps.drewN ?_ _ | with_reducible refine Keeps.drew ?_ | with_reducible refine Keeps.alloc ?_ _ | with_reducible refine Keeps.trans ?_ kk2 | with_reducible refine Keeps.trans ?_ kk1)))), ⟨Keeps.size (S := fun _ => False) (by (repeat (first | with_reducible exact Keeps.refl _ _ | with_reducible refine Keeps.drewN ?_ _ | with_reducible refine Keeps.drew ?_ | with_reducible refine Keeps.alloc ?_ _ | with_reducible refine Keeps.trans ?_ kk2 | with_reducible refine Keeps.trans ?_ kk1))), Keeps.size (S := fun _ => False) (by (repeat (first | with_reducible exact Keeps.refl _ _ | with_reducible refine Keeps.drewN ?_ _ | with_reducible refine Keeps.drew ?_ | with_reducible refine Keeps.alloc ?_ _ | with_reducible refine Keeps.trans ?_ kk2 | with_reducible refine Keeps.trans ?_ kk1)))⟩, ⟨Keeps.size (S := fun _ => False) (by (repeat (first | with_reducible exact Keeps.refl _ _ | with_reducible refine Keeps.drewN ?_ _ | with_reducible refine Keeps.drew ?_ | with_reducible refine Keeps.alloc ?_ _ | with_reducible refine Keeps.trans ?_ kk2 | with_reducible refine Keeps.trans ?_ kk1))), Keeps.size (S := fun _ => False) (by (repeat (first | with_reducible exact Keeps.refl _ _ | with_reducible refine Keeps.drewN ?_ _ | with_reducible refine Keeps.drew ?_ | with_reducible refine Keeps.alloc ?_ _ | with_reducible refine Keeps.trans ?_ kk2 | with_reducible refine Keeps.trans ?_ kk1)))⟩⟩⟩
  case rest =>
  obtain ⟨X, Y, rfl, rfl, HT⟩ := hcut
  obtain ⟨wB, hwB⟩ : ∃ wB, wc = wB := ⟨_, rfl⟩
  rw [hwB] at HT ⊢
  have HZA := hid HT.out.l.kp.size
  clear hwB HPA HWA HB HMD hx hy hz hu
  go_wp2_with fail
  go_loopw [9] (fun ix wr => ∃ (i : Nat) (s : Sys) (d : List Rf), i ≤ N ∧ ix = .int .i64 i ∧ Hid (G24 n ms i s) ∧ Hid (Tws wA wr wA.heap.size wB.heap.size X Y s s d d) ∧ Hid (wB.heap.size ≤ wr.heap.size)) (fun ix _ => N - (intOf ix).toNat)
  case atStart => exact ⟨0, _, _, Nat.zero_le _, rfl, HG0, HT, hid (Nat.le_refl _)⟩
  case round =>
    clear HT HG0
    obtain ⟨i, s, d, hi, rfl, HG, HS, HZ⟩ := hrel
    have hi0 : (0 : Int) ≤ i := by omega
    by_cases hlt : i < N
    · have hlt' : (i : Int) < (N : Int) := by omega
      obtain ⟨t, ht⟩ : ∃ t, l[i]? = some t := ⟨_, List.getElem?_eq_getElem (by have := HN.out; omega)⟩
      obtain ⟨b2, o2, rfl, hb2, htc⟩ := HROW.out i t ht
      have HTC := hid (fun W (hk : Keeps (fun _ => False) w W) => And.intro (Nat.lt_of_lt_of_le hb2 hk.size) (htc.same (hk.block b2 hb2 (fun h => h))))
      obtain ⟨hbl, htb, c0, c1, c2, c3⟩ := HTC.out wr (HKA.out.trans HS.out.l.kp)
      have hb0 := htb.1; have hb1 := htb.2.1; have hb22 := htb.2.2.1; have hb3 := htb.2.2.2
      have HTU := hid (HS.out.turnl t HG.out (by omega) htb)
      have HBY := hid htb; have HG5 := hid (HG.out.turn t)
      clear htc ht htb hb2
      go_wp2_with fail
      refine HTU.out.mono ?_
      rintro e w5 ⟨rfl, hs5, k5⟩
      have HTV := hid (hs5.turnr t HG.out (by omega) HBY.out)
      have HK5 := hid (Nat.le_trans HZ.out k5.1.size)
      clear hbl c0 c1 c2 c3
      obtain ⟨hbl, _, c0, c1, c2, c3⟩ := HTC.out w5 (HKA.out.trans hs5.l.kp)
      clear hs5 k5 HTU HS
      go_wp2_with fail
      refine HTV.out.mono ?_
      rintro e w6 ⟨rfl, hs6, k6⟩
      have HS6 := hid hs6; have HK6 := hid (Nat.le_trans HK5.out k6.1.size)
      clear hs6 k6 HTV hbl c0 c1 c2 c3 hb0 hb1 hb22 hb3
      go_wp2_with fail
      exact ⟨⟨i + 1, _, _, by omega, by go_num, HG5, HS6, HK6⟩, by simp [intOf]; omega⟩
    have hlt' : ¬ (i : Int) < (N : Int) := by omega
    obtain ⟨wC, hwC⟩ : ∃ wC, wr = wC := ⟨_, rfl⟩
    rw [hwC] at HS HZ ⊢
    clear hwC
    go_upto_region 11 with (fail)
    go_cut [10] (fun s10 wx => ∃ C : Pl, s10 = .pointer (some ⟨C.p, 0, none⟩) ∧ Hid (SyP wA wx C s []) ∧ Hid (Keeps (fun _ => False) wC wx) ∧ wC.heap.size ≤ C.N ∧ C.Z ≤ wx.heap.size)
    case first =>
      have HX := hid (fun W (hk : Keeps (fun _ => False) wC W) => HS.out.l.quiet hk)
      have HPX := hid (fun W (hk : Keeps (fun _ => False) wC W) => (show W.cell? ⟨X.p, 0, none⟩ = some (.pointer (some ⟨X.a, 0, none⟩)) ∧ W.cell? ⟨X.p, 1, none⟩ = some (.pointer (some ⟨X.m, 0, none⟩)) ∧ W.cell? ⟨X.p, 2, none⟩ = some (.int .i64 s.M.K.many) from ⟨(HX.out W hk).cells.1, (HX.out W hk).cells.2.1, (HX.out W hk).cells.2.2.1⟩))
      go_region_held3 (fun W => W.cell? ⟨X.p, 0, none⟩ = some (.pointer (some ⟨X.a, 0, none⟩)) ∧ W.cell? ⟨X.p, 1, none⟩ = some (.pointer (some ⟨X.m, 0, none⟩)) ∧ W.cell? ⟨X.p, 2, none⟩ = some (.int .i64 s.M.K.many))
        ((refine HPX.out _ ?_; (repeat (first | with_reducible exact Keeps.refl _ _ | with_reducible refine Keeps.drewN ?_ _ | with_reducible refine Keeps.drew ?_ | with_reducible refine Keeps.alloc ?_ _ | with_reducible refine Keeps.trans ?_ kk2 | with_reducible refine Keeps.trans ?_ kk1))))
        (first
          | (go_at_call 52; refine (acopy_ok X.a X.LA s.A _ (HX.out _ (by (repeat (first | with_reducible exact Keeps.refl _ _ | with_reducible refine Keeps.drewN ?_ _ | with_reducible refine Keeps.drew ?_ | with_reducible refine Keeps.alloc ?_ _ | with_reducible refine Keeps.trans ?_ kk2 | with_reducible refine Keeps.trans ?_ kk1)))).ar).mono ?_; rintro e wa ⟨a2, rfl, kk1, LA2, ha2, hb2⟩)
          | (go_at_call 53; refine (mcopy_ok X.m X.LM s.M _ (HX.out _ (by (repeat (first | with_reducible exact Keeps.refl _ _ | with_reducible refine Keeps.drewN ?_ _ | with_reducible refine Keeps.drew ?_ | with_reducible refine Keeps.alloc ?_ _ | with_reducible refine Keeps.trans ?_ kk2 | with_reducible refine Keeps.trans ?_ kk1)))).mm).mono ?_; rintro e wb ⟨m2, LM2, rfl, kk2, hm2, bm2⟩))
      all_goals
        go_wp2_with fail
        go_meet
        refine ⟨⟨(wC).heap.size, _, _, a2, m2, LA2, LM2⟩, rfl, hid (SyIn.mk' (ha2.keeps0 ?_) (hm2.keeps0 ?_) alloc_new (HS.out.l.kp.trans ?_) hb2 bm2 ?_ ?_ ?_ ?_ ?_ ?_ ?_ ?_), hid ?_, Nat.le_refl _, Nat.le_refl _⟩
        · (repeat (first | with_reducible exact Keeps.refl _ _ | with_reducible refine Keeps.drewN ?_ _ | with_reducible refine Keeps.drew ?_ | with_reducible refine Keeps.alloc ?_ _ | with_reducible refine Keeps.trans ?_ kk2 | with_reducible refine Keeps.trans ?_ kk1))
        · (repeat (first | with_reducible exact Keeps.refl _ _ | with_reducible refine Keeps.drewN ?_ _ | with_reducible refine Keeps.drew ?_ | with_reducible refine Keeps.alloc ?_ _ | with_reducible refine Keeps.trans ?_ kk2 | with_reducible refine Keeps.trans ?_ kk1))
        · (repeat (first | with_reducible exact Keeps.refl _ _ | with_reducible refine Keeps.drewN ?_ _ | with_reducible refine Keeps.drew ?_ | with_reducible refine Keeps.alloc ?_ _ | with_reducible refine Keeps.trans ?_ kk2 | with_reducible refine Keeps.trans ?_ kk1))
        · first
            | exact .inl (Keeps.size (S := fun _ => False) (by (repeat (first | with_reducible exact Keeps.refl _ _ | with_reducible refine Keeps.drewN ?_ _ | with_reducible refine Keeps.drew ?_ | with_reducible refine Keeps.alloc ?_ _ | with_reducible refine Keeps.trans ?_ kk2 | with_reducible refine Keeps.trans ?_ kk1))))
            | exact .inr (Keeps.size (S := fun _ => False) (by (repeat (first | with_reducible exact Keeps.refl _ _ | with_reducible refine Keeps.drewN ?_ _ | with_reducible refine Keeps.drew ?_ | with_reducible refine Keeps.alloc ?_ _ | with_reducible refine Keeps.trans ?_ kk2 | with_reducible refine Keeps.trans ?_ kk1))))
        · exact Keeps.size (S := fun _ => False) (by (repeat (first | with_reducible exact Keeps.refl _ _ | with_reducible refine Keeps.drewN ?_ _ | with_reducible refine Keeps.drew ?_ | with_reducible refine Keeps.alloc ?_ _ | with_reducible refine Keeps.trans ?_ kk2 | with_reducible refine Keeps.trans ?_ kk1)))
        · exact Keeps.size (S := fun _ => False) (by (repeat (first | with_reducible exact Keeps.refl _ _ | with_reducible refine Keeps.drewN ?_ _ | with_reducible refine Keeps.drew ?_ | with_reducible refine Keeps.alloc ?_ _ | with_reducible refine Keeps.trans ?_ kk2 | with_reducible refine Keeps.trans ?_ kk1)))
        · exact Keeps.size (S := fun _ => False) (by (repeat (first | with_reducible exact Keeps.refl _ _ | with_reducible refine Keeps.drewN ?_ _ | with_reducible refine Keeps.drew ?_ | with_reducible refine Keeps.alloc ?_ _ | with_reducible refine Keeps.trans ?_ kk2 | with_reducible refine Keeps.trans ?_ kk1)))
        · exact Keeps.size (S := fun _ => False) (by (repeat (first | with_reducible exact Keeps.refl _ _ | with_reducible refine Keeps.drewN ?_ _ | with_reducible refine Keeps.drew ?_ | with_reducible refine Keeps.alloc ?_ _ | with_reducible refine Keeps.trans ?_ kk2 | with_reducible refine Keeps.trans ?_ kk1)))
        · exact Keeps.size (S := fun _ => False) (by (repeat (first | with_reducible exact Keeps.refl _ _ | with_reducible refine Keeps.drewN ?_ _ | with_reducible refine Keeps.drew ?_ | with_reducible refine Keeps.alloc ?_ _ | with_reducible refine Keeps.trans ?_ kk2 | with_reducible refine Keeps.trans ?_ kk1)))
        · simp
        · exact HS.out.l.kp.size
        · (repeat (first | with_reducible exact Keeps.refl _ _ | with_reducible refine Keeps.drewN ?_ _ | with_reducible refine Keeps.drew ?_ | with_reducible refine Keeps.alloc ?_ _ | with_reducible refine Keeps.trans ?_ kk2 | with_reducible refine Keeps.trans ?_ kk1))
    case rest =>
    obtain ⟨C, rfl, HC, HKC, hc1, hc2⟩ := hcut
    obtain ⟨wD, hwD⟩ : ∃ wD, wc = wD := ⟨_, rfl⟩
    rw [hwD] at HC HKC hc2 ⊢
    clear hwD
    have HS := hid (HS.out.quiet HKC.out)
    go_upto_region 12 with (fail)
    go_cut [11] (fun s11 wx => ∃ C : Pl, s11 = .pointer (some ⟨C.p, 0, none⟩) ∧ Hid (SyP wA wx C s []) ∧ Hid (Keeps (fun _ => False) wD wx) ∧ wD.heap.size ≤ C.N ∧ C.Z ≤ wx.heap.size)
    case first =>
      have HX := hid (fun W (hk : Keeps (fun _ => False) wD W) => HS.out.l.quiet hk)
      have HPX := hid (fun W (hk : Keeps (fun _ => False) wD W) => (show W.cell? ⟨X.p, 0, none⟩ = some (.pointer (some ⟨X.a, 0, none⟩)) ∧ W.cell? ⟨X.p, 1, none⟩ = some (.pointer (some ⟨X.m, 0, none⟩)) ∧ W.cell? ⟨X.p, 2, none⟩ = some (.int .i64 s.M.K.many) from ⟨(HX.out W hk).cells.1, (HX.out W hk).cells.2.1, (HX.out W hk).cells.2.2.1⟩))
      go_region_held3 (fun W => W.cell? ⟨X.p, 0, none⟩ = some (.pointer (some ⟨X.a, 0, none⟩)) ∧ W.cell? ⟨X.p, 1, none⟩ = some (.pointer (some ⟨X.m, 0, none⟩)) ∧ W.cell? ⟨X.p, 2, none⟩ = some (.int .i64 s.M.K.many))
        ((refine HPX.out _ ?_; (repeat (first | with_reducible exact Keeps.refl _ _ | with_reducible refine Keeps.drewN ?_ _ | with_reducible refine Keeps.drew ?_ | with_reducible refine Keeps.alloc ?_ _ | with_reducible refine Keeps.trans ?_ kk2 | with_reducible refine Keeps.trans ?_ kk1))))
        (first
          | (go_at_call 52; refine (acopy_ok X.a X.LA s.A _ (HX.out _ (by (repeat (first | with_reducible exact Keeps.refl _ _ | with_reducible refine Keeps.drewN ?_ _ | with_reducible refine Keeps.drew ?_ | with_reducible refine Keeps.alloc ?_ _ | with_reducible refine Keeps.trans ?_ kk2 | with_reducible refine Keeps.trans ?_ kk1)))).ar).mono ?_; rintro e wa ⟨a2, rfl, kk1, LA2, ha2, hb2⟩)
          | (go_at_call 53; refine (mcopy_ok X.m X.LM s.M _ (HX.out _ (by (repeat (first | with_reducible exact Keeps.refl _ _ | with_reducible refine Keeps.drewN ?_ _ | with_reducible refine Keeps.drew ?_ | with_reducible refine Keeps.alloc ?_ _ | with_reducible refine Keeps.trans ?_ kk2 | with_reducible refine Keeps.trans ?_ kk1)))).mm).mono ?_; rintro e wb ⟨m2, LM2, rfl, kk2, hm2, bm2⟩))
      all_goals
        go_wp2_with fail
        go_meet
        refine ⟨⟨(wD).heap.size, _, _, a2, m2, LA2, LM2⟩, rfl, hid (SyIn.mk' (ha2.keeps0 ?_) (hm2.keeps0 ?_) alloc_new (HS.out.l.kp.trans ?_) hb2 bm2 ?_ ?_ ?_ ?_ ?_ ?_ ?_ ?_), hid ?_, Nat.le_refl _, Nat.le_refl _⟩
        · (repeat (first | with_reducible exact Keeps.refl _ _ | with_reducible refine Keeps.drewN ?_ _ | with_reducible refine Keeps.drew ?_ | with_reducible refine Keeps.alloc ?_ _ | with_reducible refine Keeps.trans ?_ kk2 | with_reducible refine Keeps.trans ?_ kk1))
        · (repeat (first | with_reducible exact Keeps.refl _ _ | with_reducible refine Keeps.drewN ?_ _ | with_reducible refine Keeps.drew ?_ | with_reducible refine Keeps.alloc ?_ _ | with_reducible refine Keeps.trans ?_ kk2 | with_reducible refine Keeps.trans ?_ kk1))
        · (repeat (first | with_reducible exact Keeps.refl _ _ | with_reducible refine Keeps.drewN ?_ _ | with_reducible refine Keeps.drew ?_ | with_reducible refine Keeps.alloc ?_ _ | with_reducible refine Keeps.trans ?_ kk2 | with_reducible refine Keeps.trans ?_ kk1))
        · first
            | exact .inl (Keeps.size (S := fun _ => False) (by (repeat (first | with_reducible exact Keeps.refl _ _ | with_reducible refine Keeps.drewN ?_ _ | with_reducible refine Keeps.drew ?_ | with_reducible refine Keeps.alloc ?_ _ | with_reducible refine Keeps.trans ?_ kk2 | with_reducible refine Keeps.trans ?_ kk1))))
            | exact .inr (Keeps.size (S := fun _ => False) (by (repeat (first | with_reducible exact Keeps.refl _ _ | with_reducible refine Keeps.drewN ?_ _ | with_reducible refine Keeps.drew ?_ | with_reducible refine Keeps.alloc ?_ _ | with_reducible refine Keeps.trans ?_ kk2 | with_reducible refine Keeps.trans ?_ kk1))))
        · exact Keeps.size (S := fun _ => False) (by (repeat (first | with_reducible exact Keeps.refl _ _ | with_reducible refine Keeps.drewN ?_ _ | with_reducible refine Keeps.drew ?_ | with_reducible refine Keeps.alloc ?_ _ | with_reducible refine Keeps.trans ?_ kk2 | with_reducible refine Keeps.trans ?_ kk1)))
        · exact Keeps.size (S := fun _ => False) (by (repeat (first | with_reducible exact Keeps.refl _ _ | with_reducible refine Keeps.drewN ?_ _ | with_reducible refine Keeps.drew ?_ | with_reducible refine Keeps.alloc ?_ _ | with_reducible refine Keeps.trans ?_ kk2 | with_reducible refine Keeps.trans ?_ kk1)))
        · exact Keeps.size (S := fun _ => False) (by (repeat (first | with_reducible exact Keeps.refl _ _ | with_reducible refine Keeps.drewN ?_ _ | with_reducible refine Keeps.drew ?_ | with_reducible refine Keeps.alloc ?_ _ | with_reducible refine Keeps.trans ?_ kk2 | with_reducible refine Keeps.trans ?_ kk1)))
        · exact Keeps.size (S := fun _ => False) (by (repeat (first | with_reducible exact Keeps.refl _ _ | with_reducible refine Keeps.drewN ?_ _ | with_reducible refine Keeps.drew ?_ | with_reducible refine Keeps.alloc ?_ _ | with_reducible refine Keeps.trans ?_ kk2 | with_reducible refine Keeps.trans ?_ kk1)))
        · exact Keeps.size (S := fun _ => False) (by (repeat (first | with_reducible exact Keeps.refl _ _ | with_reducible refine Keeps.drewN ?_ _ | with_reducible refine Keeps.drew ?_ | with_reducible refine Keeps.alloc ?_ _ | with_reducible refine Keeps.trans ?_ kk2 | with_reducible refine Keeps.trans ?_ kk1)))
        · simp
        · exact HS.out.l.kp.size
        · (repeat (first | with_reducible exact Keeps.refl _ _ | with_reducible refine Keeps.drewN ?_ _ | with_reducible refine Keeps.drew ?_ | with_reducible refine Keeps.alloc ?_ _ | with_reducible refine Keeps.trans ?_ kk2 | with_reducible refine Keeps.trans ?_ kk1))
    case rest =>
    obtain ⟨D, rfl, HD, HKD, hd1, hd2⟩ := hcut
    obtain ⟨wE, hwE⟩ : ∃ wE, wc = wE := ⟨_, rfl⟩
    rw [hwE] at HD HKD hd2 ⊢
    clear hwE
    have hz1 := HKC.out.size; have hz2 := HKD.out.size; have hz0 := HZ.out
    have HU := hid (HS.out.quiet HKD.out)
    have HV := hid (show Tws wA wE wC.heap.size wE.heap.size C D s s [] [] from ⟨HC.out.quiet HKD.out, HD.out, .inl (by omega), ⟨hc1, by omega⟩, ⟨by omega, hd2⟩⟩)
    have hnA := HU.out.l.kp.size
    clear HC HD HKC HKD hc1 hc2 hd1 hd2 HS hz1 hz2
    obtain ⟨i0, hi0e⟩ : ∃ i0, i = i0 := ⟨_, rfl⟩
    rw [hi0e] at HG
    have hi0l : i0 ≤ 100 := by omega
    obtain ⟨q0, hq0⟩ : ∃ q, wC.heap.size = q := ⟨_, rfl⟩
    obtain ⟨q1, hq1⟩ : ∃ q, wE.heap.size = q := ⟨_, rfl⟩
    obtain ⟨r0, hr0⟩ : ∃ q, wA.heap.size = q := ⟨_, rfl⟩
    obtain ⟨r1, hr1⟩ : ∃ q, wB.heap.size = q := ⟨_, rfl⟩
    rw [hq0, hq1] at HV
    rw [hr0, hr1] at HU
    have hrq : r1 ≤ q0 := by omega
    have hr0q : r0 ≤ q0 := by have := HZA.out; omega
    have HR0 := hid hr0
    clear hq0 hq1 hr0 hr1 hz0 HZ hnA hlt hi hi0 hi0e hlt'
    go_wp2_with fail
    go_loopw [12] (fun ix wr => ∃ (j : Nat) (t : Sys) (e : List Rf), j ≤ N2 ∧ ix = .int .i64 j ∧ Hid (G24 n ms (i0 + j) t) ∧ Hid (Tws wA wr r0 r1 X Y s s d d) ∧ Hid (Tws wA wr q0 q1 C D t t e e)) (fun ix _ => N2 - (intOf ix).toNat)
    case atStart => exact ⟨0, _, _, Nat.zero_le _, rfl, HG, HU, HV⟩
    case round =>
      clear HU HV
      obtain ⟨j, t, e, hj, rfl, HH, HU, HV⟩ := hrel
      have hj0 : (0 : Int) ≤ j := by omega
      by_cases hlj : j < N2
      · have hlj' : (j : Int) < (N2 : Int) := by omega
        obtain ⟨x2, hx2⟩ : ∃ x, more[j]? = some x := ⟨_, List.getElem?_eq_getElem (by have := HN2.out; omega)⟩
        obtain ⟨b2, o2, rfl, hb2, htc⟩ := HROW2.out j x2 hx2
        have HTC := hid (fun W (hk : Keeps (fun _ => False) w W) => And.intro (Nat.lt_of_lt_of_le hb2 hk.size) (htc.same (hk.block b2 hb2 (fun h => h))))
        obtain ⟨hbl, htb, c0, c1, c2, c3⟩ := HTC.out wr (HKA.out.trans HV.out.l.kp)
        have hb0 := htb.1; have hb1 := htb.2.1; have hb22 := htb.2.2.1; have hb3 := htb.2.2.2
        have HTU := hid (HV.out.turnl x2 HH.out (by omega) htb)
        have HBY := hid htb; have HH5 := hid (HH.out.turn x2)
        clear htc hx2 htb hb2
        go_wp2_with fail
        refine HTU.out.mono ?_
        rintro e w5 ⟨rfl, hs5, k5⟩
        have HTV := hid (hs5.turnr x2 HH.out (by omega) HBY.out)
        have HU5 := hid (HU.out.other k5 (fun y hy => .inr (by omega)) (fun y hy => by have := HR0.out; omega))
        clear hbl c0 c1 c2 c3
        obtain ⟨hbl, _, c0, c1, c2, c3⟩ := HTC.out w5 (HKA.out.trans hs5.l.kp)
        clear hs5 k5 HTU HU HV
        go_wp2_with fail
        refine HTV.out.mono ?_
        rintro e w6 ⟨rfl, hs6, k6⟩
        have HS6 := hid hs6
        have HU6 := hid (HU5.out.other k6 (fun y hy => .inr (by omega)) (fun y hy => by have := HR0.out; omega))
        clear hs6 k6 HTV HU5 hbl c0 c1 c2 c3 hb0 hb1 hb22 hb3
        go_wp2_with fail
        exact ⟨⟨j + 1, _, _, by omega, by go_num, HH5, HU6, HS6⟩, by simp [intOf]; omega⟩
      have hlj' : ¬ (j : Int) < (N2 : Int) := by omega
      obtain ⟨wF, hwF⟩ : ∃ wF, wr = wF := ⟨_, rfl⟩
      rw [hwF] at HU HV ⊢
      obtain ⟨x0, x1, x2, xl⟩ := HU.out.l.cells
      have has := asizes_ok X.a X.LA s.A wF HU.out.l.ar
      rw [show s.A.H.T.n = n from HG.out.ok.n.trans HG.out.n] at has
      have HAS := hid has
      clear hwF has HROW HROW2
      go_wp2_with fail
      clear hlj'
      refine HAS.out.mono ?_
      rintro e w7 ⟨rfl, k7⟩
      have HU7 := hid (HU.out.quiet k7); have HV7 := hid (HV.out.quiet k7)
      clear k7 HU HV HAS x0 x1 x2 xl
      go_wp2_with fail
      go_loopw [15] (fun ix wr => ∃ k : Nat, k ≤ n ∧ ix = .int .i64 k ∧ Hid (Keeps (fun _ => False) w7 wr)) (fun ix _ => n - (intOf ix).toNat)
      case atStart => exact ⟨0, Nat.zero_le _, rfl, hid (Keeps.refl _ _)⟩
      case round =>
        obtain ⟨k, hk, rfl, HKQ⟩ := hrel
        have hk0 : (0 : Int) ≤ k := by omega
        obtain ⟨wG, hwG⟩ : ∃ wG, wr = wG := ⟨_, rfl⟩
        rw [hwG] at HKQ ⊢
        clear hwG
        by_cases hlk : k < n
        · have hlk' : (k : Int) < (n : Int) := by omega
          obtain ⟨bs, hbs⟩ : ∃ b, (s.M.markedR k).1 = b := ⟨_, rfl⟩
          obtain ⟨bt, hbt⟩ : ∃ b, (t.M.markedR k).1 = b := ⟨_, rfl⟩
          have HM1 := hid (fun W (hk : Keeps (fun _ => False) w7 W) => (HU7.out.l.quiet hk).marked k)
          have HM2 := hid (fun W (hk : Keeps (fun _ => False) w7 W) => (HU7.out.r.quiet hk).marked k)
          have HM3 := hid (fun W (hk : Keeps (fun _ => False) w7 W) => (HV7.out.l.quiet hk).marked k)
          have HM4 := hid (fun W (hk : Keeps (fun _ => False) w7 W) => (HV7.out.r.quiet hk).marked k)
          rw [hbs] at HM1 HM2
          rw [hbt] at HM3 HM4
          clear hbs hbt
          obtain ⟨x0, x1, x2, xl⟩ := (HU7.out.l.quiet HKQ.out).cells
          go_wp2_with fail
          refine (HM1.out _ HKQ.out).mono ?_
          rintro e w9 ⟨rfl, k9⟩
          have HK9 := hid (HKQ.out.trans k9)
          clear k9 x0 x1 x2 xl HKQ HM1
          obtain ⟨x0, x1, x2, xl⟩ := (HU7.out.r.quiet HK9.out).cells
          go_wp2_with fail
          refine (HM2.out _ HK9.out).mono ?_
          rintro e w10 ⟨rfl, k10⟩
          have HK10 := hid (HK9.out.trans k10)
          clear k10 x0 x1 x2 xl HK9 HM2
          obtain ⟨x0, x1, x2, xl⟩ := (HV7.out.l.quiet HK10.out).cells
          go_wp2_with fail
          refine (HM3.out _ HK10.out).mono ?_
          rintro e w11 ⟨rfl, k11⟩
          have HK11 := hid (HK10.out.trans k11)
          clear k11 x0 x1 x2 xl HK10 HM3
          obtain ⟨x0, x1, x2, xl⟩ := (HV7.out.r.quiet HK11.out).cells
          go_wp2_with fail
          refine (HM4.out _ HK11.out).mono ?_
          rintro e w12 ⟨rfl, k12⟩
          have HK12 := hid (HK11.out.trans k12)
          clear k12 x0 x1 x2 xl HK11 HM4
          rcases bs with _ | _ <;> rcases bt with _ | _
          all_goals
            go_wp2_with fail
            exact ⟨⟨k + 1, by omega, by go_num, HK12⟩, by simp [intOf]; omega⟩
        have hlk' : ¬ (k : Int) < (n : Int) := by omega
        have HX1 := hid (fun W (hk : Keeps (fun _ => False) w7 W) => mphase X.m X.LM s.M W (HU7.out.l.quiet hk).mm)
        have HX2 := hid (fun W (hk : Keeps (fun _ => False) w7 W) => mphase Y.m Y.LM s.M W (HU7.out.r.quiet hk).mm)
        have HX3 := hid (fun W (hk : Keeps (fun _ => False) w7 W) => mphase C.m C.LM t.M W (HV7.out.l.quiet hk).mm)
        have HX4 := hid (fun W (hk : Keeps (fun _ => False) w7 W) => mphase D.m D.LM t.M W (HV7.out.r.quiet hk).mm)
        have HY1 := hid (fun W (hk : Keeps (fun _ => False) w7 W) => mcycles X.m X.LM s.M W (HU7.out.l.quiet hk).mm)
        have HY2 := hid (fun W (hk : Keeps (fun _ => False) w7 W) => mcycles Y.m Y.LM s.M W (HU7.out.r.quiet hk).mm)
        have HPX := hid (fun W (hk : Keeps (fun _ => False) w7 W) => (show W.cell? ⟨X.p, 1, none⟩ = some (.pointer (some ⟨X.m, 0, none⟩)) ∧ W.cell? ⟨Y.p, 1, none⟩ = some (.pointer (some ⟨Y.m, 0, none⟩)) ∧ W.cell? ⟨C.p, 1, none⟩ = some (.pointer (some ⟨C.m, 0, none⟩)) ∧ W.cell? ⟨D.p, 1, none⟩ = some (.pointer (some ⟨D.m, 0, none⟩)) from ⟨(HU7.out.l.quiet hk).cells.2.1, (HU7.out.r.quiet hk).cells.2.1, (HV7.out.l.quiet hk).cells.2.1, (HV7.out.r.quiet hk).cells.2.1⟩))
        have HKW := hid (HKA.out.trans HU7.out.l.kp)
        obtain ⟨ps, hps⟩ : ∃ p, (s.M.K.ph : Int) = p := ⟨_, rfl⟩
        obtain ⟨pt, hpt⟩ : ∃ p, (t.M.K.ph : Int) = p := ⟨_, rfl⟩
        obtain ⟨cs, hcs⟩ : ∃ p, (s.M.K.cy : Int) = p := ⟨_, rfl⟩
        rw [hps] at HX1 HX2
        rw [hpt] at HX3 HX4
        rw [hcs] at HY1 HY2
        clear hps hpt hcs HU7 HV7
        go_upto_region 28 with (fail)
        go_cut [6] (fun s6 wx => s6 = .bool true ∧ Keeps (fun _ => False) w7 wx)
        case first =>
          obtain ⟨z1, z2, z3, z4⟩ := HPX.out wG HKQ.out
          have HD := hid (show Keeps (fun _ => False) w7 (World.drew wG) from HKQ.out.drew)
          refine wp_region_still_tail 38 (by kernel_rfl) (by kernel_rfl) ?_
          simp only [List.take_succ_cons, List.take_zero, List.drop_succ_cons, List.drop_zero]
          repeat still_step
          still_call (HX1.out _ HD.out)
          repeat still_step
          still_call (HX2.out _ HD.out)
          repeat still_step
          still_call (HX3.out _ HD.out)
          repeat still_step
          still_call (HX4.out _ HD.out)
          repeat still_step
          still_call (HY1.out _ HD.out)
          repeat still_step
          still_call (HY2.out _ HD.out)
          repeat still_step
          try refine wpStill_nil ?_
          change wpList _ _ _ _ _ (World.drew _)
          go_wp2_with fail
          refine (works24 _).mono ?_
          rintro e wz ⟨rfl, kz⟩
          go_wp2_with fail
          go_meet
          exact ⟨rfl, HD.out.trans kz⟩
        case rest =>
        obtain ⟨rfl, hkf⟩ := hcut
        go_wp2_with fail
        go_ret
        exact ⟨rfl, HKW.out.trans hkf⟩
set_option maxRecDepth 100000 in
theorem markerCopies_law {H : Type} {enc : TypeId × Value → H} {base : Nat} {spare : Nat → Bool} {held : Bool} {r : Reach} {b0 : Nat}
    (v0 : Value) (d0 : DataW H) (p0 : List MemPlace) {w : World} (hv0 : Value.okWide Tryz.prog w r b0 69 v0) (h0 : DataW.Trod enc Tryz.prog w base spare held 69 v0 d0 p0)
    (v1 : Value) (d1 : DataW H) (p1 : List MemPlace) (hv1 : Value.okWide Tryz.prog w r b0 70 v1) (h1 : DataW.Trod enc Tryz.prog w base spare held 70 v1 d1 p1)
    (v2 : Value) (d2 : DataW H) (p2 : List MemPlace) (hv2 : Value.okWide Tryz.prog w r b0 70 v2) (h2 : DataW.Trod enc Tryz.prog w base spare held 70 v2 d2 p2)
    (w' : World) (e' : w' = w) :
    Calls Tryz.prog 9 #[v0, v1, v2] w' fun e w2 => e = .returned (.bool true) ∧ Keeps (fun _ => False) w' w2 := by
  subst e'
  obtain ⟨x, y, z, u, rfl, g0, g1, g2, g3⟩ := agg4_of Tryz.underlying69 (by kernel_rfl) (by kernel_rfl) hv0 h0
  obtain ⟨a, n, k, rfl, e1, e2, hx⟩ := open_flat_slice (ks := ks4) Tryz.underlying70 (by kernel_rfl) (by kernel_rfl) (by decide) hv1 h1
  obtain ⟨l, hl⟩ := tvrow_of e1 e2 hx
  obtain ⟨a', n', k', rfl, e1', e2', hx'⟩ := open_flat_slice (ks := ks4) Tryz.underlying70 (by kernel_rfl) (by kernel_rfl) (by decide) hv2 h2
  obtain ⟨m, hm⟩ := tvrow_of e1' e2' hx'
  exact markerCopies_walk x y z u l m _ _ w' g0 g1 g2 g3 hl hm
end Go.Proofs.YtehmoikbeflkaaaGreat
