/- estraylaw24: systems: made, mutate. -/
import Derived.Test.YtehmoikbeflkaaaGreatCyA
import Derived.Test.YtehmoikbeflkaaaGreatCyB
namespace Go.Proofs.YtehmoikbeflkaaaGreat
open Go.RowKit Go.ChangeShapes Go.WideShapes Go.ChangeAt Go.Deep
set_option linter.unusedVariables false
set_option linter.unusedSimpArgs false
set_option linter.unusedSectionVars false

structure Tv where
  kind : Nat
  m : Nat
  a : Nat
  b : Nat
def Tv.Byte (x : Tv) : Prop := x.kind < 256 ∧ x.m < 256 ∧ x.a < 256 ∧ x.b < 256
def Tv.val (x : Tv) : Value := .agg #[.int .u8 x.kind, .int .u8 x.m, .int .u8 x.a, .int .u8 x.b]
structure TvCell (w : World) (b o : Nat) (x : Tv) : Prop where
  by' : x.Byte
  c0 : w.cell? ⟨b, o, none⟩ = some (.int .u8 x.kind)
  c1 : w.cell? ⟨b, o + 1, none⟩ = some (.int .u8 x.m)
  c2 : w.cell? ⟨b, o + 2, none⟩ = some (.int .u8 x.a)
  c3 : w.cell? ⟨b, o + 3, none⟩ = some (.int .u8 x.b)
def TvRow (w : World) (v : Value) (l : List Tv) : Prop := ∃ a cap, v = .slice a l.length cap ∧ l.length ≤ cap ∧ cap ≤ maxLen ∧ (l = [] ∨ ∃ b off, a = some ⟨b, off, none⟩ ∧ b < w.heap.size ∧ ∀ (i : Nat) (x : Tv), l[i]? = some x → TvCell w b (off + i * 4) x)
theorem TvCell.same {w w' : World} {b o : Nat} {x : Tv} (h : TvCell w b o x) (hb : w'.heap[b]? = w.heap[b]?) : TvCell w' b o x :=
  ⟨h.by', by rw [World.cell?_of_block (w := w) hb]; exact h.c0, by rw [World.cell?_of_block (w := w) hb]; exact h.c1, by rw [World.cell?_of_block (w := w) hb]; exact h.c2, by rw [World.cell?_of_block (w := w) hb]; exact h.c3⟩
def ks4 : List Flat := [.int .u8, .int .u8, .int .u8, .int .u8]
theorem tvcell_of {w : World} {b o : Nat} (h : CellsAt w b o ks4) : ∃ x, TvCell w b o x := by
  obtain ⟨u0, h0, k0⟩ := h 0 _ rfl
  obtain ⟨u1, h1, k1⟩ := h 1 _ rfl
  obtain ⟨u2, h2, k2⟩ := h 2 _ rfl
  obtain ⟨u3, h3, k3⟩ := h 3 _ rfl
  obtain ⟨n0, rfl, l0⟩ := byte_of k0
  obtain ⟨n1, rfl, l1⟩ := byte_of k1
  obtain ⟨n2, rfl, l2⟩ := byte_of k2
  obtain ⟨n3, rfl, l3⟩ := byte_of k3
  exact ⟨⟨n0, n1, n2, n3⟩, ⟨⟨l0, l1, l2, l3⟩, h0, h1, h2, h3⟩⟩
theorem tvrow_of {w : World} {a : Option Addr} {len cap : Nat} (h1 : len ≤ cap) (h2 : cap ≤ maxLen) (h : len = 0 ∨ ∃ b off, a = some ⟨b, off, none⟩ ∧ b < w.heap.size ∧ ∀ i, i < len → CellsAt w b (off + i * ks4.length) ks4) :
    ∃ l, TvRow w (.slice a len cap) l := by
  rcases h with rfl | ⟨b, off, rfl, hb, hc⟩
  · exact ⟨[], a, cap, rfl, h1, h2, .inl rfl⟩
  · have hx : ∀ i : Fin len, ∃ x, TvCell w b (off + i.1 * 4) x := fun i => tvcell_of (hc i.1 i.2)
    refine ⟨List.ofFn (fun i => (hx i).choose), _, cap, by rw [List.length_ofFn], by rw [List.length_ofFn]; exact h1, h2, .inr ⟨b, off, rfl, hb, fun i x hi => ?_⟩⟩
    rw [List.getElem?_ofFn] at hi
    split at hi
    · rename_i hl
      simp only [Option.some.injEq] at hi
      rw [← hi]
      exact (hx ⟨i, hl⟩).choose_spec
    · cases hi
theorem u8_wrap {n : Nat} (h : n < 256) : IntKind.u8.wrap (n : Int) = (n : Int) := IntWalk.u8_in _ (by omega)
def Tv.mo (x : Tv) (s : Sys) : Mo :=
  let k := x.m % s.M.K.many
  let n := max 1 (s.A.rt k).n
  match x.kind % 8 with
  | 0 => .make k (x.a % 5 : Nat) false
  | 1 => .load k (x.a % n : Nat) (x.b % 4 : Nat)
  | 2 => .store k (x.a % n : Nat) (x.b / 16 % 4 : Nat) (x.b % n : Nat)
  | 3 => .store k (x.a % n : Nat) (x.b / 16 % 4 : Nat) (x.b % n : Nat)
  | 4 => .store k (x.a % n : Nat) (x.b % 4 : Nat) (-1)
  | 5 => .drop k (x.a % n : Nat)
  | 6 => .put k ((x.a % n : Nat) - (x.b / 128 : Nat)) (x.b % 8 : Nat)
  | _ => .get k (x.b % 8 : Nat)
theorem Tv.mo_who (x : Tv) (s : Sys) : (x.mo s).who = x.m % s.M.K.many := by
  unfold Tv.mo
  dsimp only
  split <;> rfl
structure Sy (w0 w : World) (p a m : Nat) (LA : ArL) (LM : MkL) (s : Sys) (lv : Value) : Prop where
  both : Both w0 w a m LA LM s
  own : w.heap[p]? = some (.cells #[.pointer (some ⟨a, 0, none⟩), .pointer (some ⟨m, 0, none⟩), .int .i64 s.M.K.many, lv] 75)
  hp : w0.heap.size ≤ p
variable {w0 w w' : World} {p a m : Nat} {LA : ArL} {LM : MkL} {s : Sys} {lv : Value}

theorem Sy.same (h : Sy w0 w p a m LA LM s lv) (hk : Keeps (fun _ => False) w w') : Sy w0 w' p a m LA LM s lv :=
  ⟨Duo.same h.both hk, block_keep h.own hk (fun h => h), h.hp⟩
theorem Sy.pfoot (h : Sy w0 w p a m LA LM s lv) : ¬ foot2 LA LM s p :=
  h.both.not_foot h.own (by decide) (by decide) (by decide) (by decide) (by decide) (by decide) (by decide) (by decide)
theorem Sy.sys {t : Sys} (h : Sy w0 w p a m LA LM s lv) (hk : Keeps (foot2 LA LM s) w w') (hb : Both w0 w' a m LA LM t) (hm : t.M.K.many = s.M.K.many) : Sy w0 w' p a m LA LM t lv :=
  ⟨hb, by rw [hm]; exact block_keep h.own hk h.pfoot, h.hp⟩
theorem Sy.far {W W' : World} {t : Sys} (h : Sy w0 w p a m LA LM s lv) (hW : Sy w0 W p a m LA LM t lv) (h3 : t.A.many = s.A.many) (h4 : t.M.K.many = s.M.K.many) (hk : Keeps (fun y => w.heap.size ≤ y) W W') : Sy w0 W' p a m LA LM t lv :=
  ⟨Both.far h.both hW.both h3 h4 hk, block_keep hW.own hk (by have := lt_block h.own; omega), hW.hp⟩
/-! the arena's calls, of a system -/
theorem both_ar {A' : Ar} (h : Both w0 w a m LA LM s) (hk : Keeps (fun y => LA.foot s.A.many y) w w') (ha : ArIn w' a LA A') (hm : A'.many = s.A.many) : Both w0 w' a m LA LM ⟨A', s.M⟩ ∧ Keeps (foot2 LA LM s) w w' :=
  ⟨Duo.arenaF h hk ha hm, hk.mono (fun _ _ h => .inl h)⟩
theorem both_mk {M' : Mk} (h : Both w0 w a m LA LM s) (hd : Duo.To w0 w w' a m LA LM s.A s.M M') : Both w0 w' a m LA LM ⟨s.A, M'⟩ ∧ Keeps (foot2 LA LM s) w w' :=
  ⟨hd.1, hd.2.mono (fun _ _ h => .inr h)⟩
theorem Sy.make (h : Sy w0 w p a m LA LM s lv) (hok : s.Ok) (k n : Int) (hd : Bool) : Calls Tryz.prog 99 #[.pointer (some ⟨a, 0, none⟩), .int .i64 k, .int .i64 n, .bool hd] w fun e w' => e = .returned (.tuple #[(s.A.makeR k n hd).now.val, .int .i64 (s.A.makeR k n hd).e]) ∧ Sy w0 w' p a m LA LM ⟨(s.A.makeR k n hd).A, s.M⟩ lv ∧ Keeps (foot2 LA LM s) w w' :=
  (amake_any a LA s.A k n hd w h.both.ar hok.a).mono fun e w' ⟨h1, h2, h3⟩ => ⟨h1, h.sys (both_ar h.both h2 h3 (Ar.makeR_n _ _ _ _).2).2 (both_ar h.both h2 h3 (Ar.makeR_n _ _ _ _).2).1 rfl, h2.mono (fun _ _ h => .inl h)⟩
theorem Sy.store (h : Sy w0 w p a m LA LM s lv) (hok : s.Ok) (k i f j : Int) : Calls Tryz.prog 103 #[.pointer (some ⟨a, 0, none⟩), .int .i64 k, .int .i64 i, .int .i64 f, .int .i64 j] w fun e w' => e = .returned (.tuple #[(s.A.storeR k i f j).was.val, (s.A.storeR k i f j).now.val, .int .i64 (s.A.storeR k i f j).e]) ∧ Sy w0 w' p a m LA LM ⟨(s.A.storeR k i f j).A, s.M⟩ lv ∧ Keeps (foot2 LA LM s) w w' :=
  (astore_any a LA s.A k i f j w h.both.ar hok.a).mono fun e w' ⟨h1, h2, h3⟩ => ⟨h1, h.sys (both_ar h.both h2 h3 (Ar.storeR_n _ _ _ _ _).2).2 (both_ar h.both h2 h3 (Ar.storeR_n _ _ _ _ _).2).1 rfl, h2.mono (fun _ _ h => .inl h)⟩
theorem Sy.put (h : Sy w0 w p a m LA LM s lv) (hok : s.Ok) (k i g : Int) : Calls Tryz.prog 106 #[.pointer (some ⟨a, 0, none⟩), .int .i64 k, .int .i64 i, .int .i64 g] w fun e w' => e = .returned (.tuple #[(s.A.putR k i g).was.val, (s.A.putR k i g).now.val, .int .i64 (s.A.putR k i g).e]) ∧ Sy w0 w' p a m LA LM ⟨(s.A.putR k i g).A, s.M⟩ lv ∧ Keeps (foot2 LA LM s) w w' :=
  (aput_any a LA s.A k i g w h.both.ar hok.a).mono fun e w' ⟨h1, h2, h3⟩ => ⟨h1, h.sys (both_ar h.both h2 h3 (Ar.putR_n _ _ _ _).2).2 (both_ar h.both h2 h3 (Ar.putR_n _ _ _ _).2).1 rfl, h2.mono (fun _ _ h => .inl h)⟩
theorem Sy.load (h : Sy w0 w p a m LA LM s lv) (hok : s.Ok) (k i f : Int) : Calls Tryz.prog 101 #[.pointer (some ⟨a, 0, none⟩), .int .i64 k, .int .i64 i, .int .i64 f] w fun e w' => e = .returned (.tuple #[(s.A.loadR k i f).now.val, .int .i64 (s.A.loadR k i f).e]) ∧ Sy w0 w' p a m LA LM ⟨(s.A.loadR k i f).A, s.M⟩ lv ∧ Keeps (foot2 LA LM s) w w' :=
  (aload_any a LA s.A k i f w h.both.ar hok.a).mono fun e w' ⟨h1, h2, h3⟩ => ⟨h1, h.sys (both_ar h.both h2 h3 (Ar.loadR_n _ _ _ _).2).2 (both_ar h.both h2 h3 (Ar.loadR_n _ _ _ _).2).1 rfl, h2.mono (fun _ _ h => .inl h)⟩
theorem Sy.get (h : Sy w0 w p a m LA LM s lv) (hok : s.Ok) (k g : Int) : Calls Tryz.prog 108 #[.pointer (some ⟨a, 0, none⟩), .int .i64 k, .int .i64 g] w fun e w' => e = .returned (.tuple #[(s.A.getR k g).now.val, .int .i64 (s.A.getR k g).e]) ∧ Sy w0 w' p a m LA LM ⟨(s.A.getR k g).A, s.M⟩ lv ∧ Keeps (foot2 LA LM s) w w' :=
  (aget_any a LA s.A k g w h.both.ar hok.a).mono fun e w' ⟨h1, h2, h3⟩ => ⟨h1, h.sys (both_ar h.both h2 h3 (Ar.getR_n _ _ _).2).2 (both_ar h.both h2 h3 (Ar.getR_n _ _ _).2).1 rfl, h2.mono (fun _ _ h => .inl h)⟩
theorem Sy.drop (h : Sy w0 w p a m LA LM s lv) (k i : Int) : Calls Tryz.prog 88 #[.pointer (some ⟨a, 0, none⟩), .int .i64 k, .int .i64 i] w fun e w' => e = .returned (.tuple #[(s.A.dropR k i).now.val, .int .i64 (s.A.dropR k i).e]) ∧ Sy w0 w' p a m LA LM ⟨(s.A.dropR k i).A, s.M⟩ lv ∧ Keeps (foot2 LA LM s) w w' :=
  (adrop_any a LA s.A k i w h.both.ar).mono fun e w' ⟨h1, h2, h3⟩ => ⟨h1, h.sys (both_ar h.both h2 h3 (Ar.dropR_n _ _ _).2).2 (both_ar h.both h2 h3 (Ar.dropR_n _ _ _).2).1 rfl, h2.mono (fun _ _ h => .inl h)⟩
theorem Sy.mark {M' : Mk} (h : Sy w0 w p a m LA LM s lv) (hd : Duo.To w0 w w' a m LA LM s.A s.M M') (hm : M'.K.many = s.M.K.many) : Sy w0 w' p a m LA LM ⟨s.A, M'⟩ lv ∧ Keeps (foot2 LA LM s) w w' :=
  ⟨h.sys (both_mk h.both hd).2 (both_mk h.both hd).1 hm, (both_mk h.both hd).2⟩
set_option maxRecDepth 100000 in
set_option maxHeartbeats 2000000 in
theorem mu_drop (x : Tv) (h : Sy w0 w p a m LA LM s lv) (hok : s.Ok) (hx : x.Byte) (hk8 : x.kind % 8 = 5) :
    Calls Tryz.prog 133 #[.pointer (some ⟨p, 0, none⟩), x.val] w fun e w' => e = .returned (.tuple #[]) ∧ Sy w0 w' p a m LA LM ((x.mo s).doR s) lv ∧ Keeps (foot2 LA LM s) w w' := by
  have hki : (x.kind : Int) % 8 = 5 := by omega
  have hmany := hok.m.k1; have hm4 := hok.m.k4
  obtain ⟨hb0, hb1, hb2, hb3⟩ := hx
  have hz : ¬ (s.M.K.many : Int) = 0 := by omega
  obtain ⟨mk, hmk⟩ : ∃ mk, x.m % s.M.K.many = mk := ⟨_, rfl⟩
  have hmkl : mk < s.M.K.many := by rw [← hmk]; exact Nat.mod_lt _ (by omega)
  have HMOD := hid (show (x.m : Int) % (s.M.K.many : Int) = (mk : Int) by rw [← hmk]; simp)
  have HSA := hid (fun W (hk : Keeps (fun _ => False) w W) => astackall_ok a LA s.A mk W (Duo.same h.both hk).ar (by rw [hok.k]; exact hmkl))
  obtain ⟨n, hn⟩ : ∃ n, (s.A.rt mk).l.length = n := ⟨_, rfl⟩
  have hn2 : (s.A.rt mk).n = n := by rw [← hn]; simp [Sk.l]
  have hn32 : n ≤ 32 := by rw [← hn2]; exact (hok.a.rt mk (by rw [hok.k]; exact hmkl)).1
  obtain ⟨N, hN⟩ : ∃ N, max 1 n = N := ⟨_, rfl⟩
  have hN1 : 1 ≤ N ∧ N ≤ 32 := by omega
  have HMAX := hid (show max 1 (n : Int) = (N : Int) by omega)
  have hNz : ¬ (N : Int) = 0 := by omega
  have HN := hid hn
  obtain ⟨pa, hpa⟩ : ∃ pa, x.a % N = pa := ⟨_, rfl⟩
  obtain ⟨pb, hpb⟩ : ∃ pb, x.b % N = pb := ⟨_, rfl⟩
  have hpaN : pa < N := by rw [← hpa]; exact Nat.mod_lt _ (by omega)
  have HPA := hid (show (x.a : Int) % (N : Int) = (pa : Int) by rw [← hpa]; simp)
  have HPB := hid (show (x.b : Int) % (N : Int) = (pb : Int) by rw [← hpb]; simp)
  have hmo : x.mo s = (match x.kind % 8 with
    | 0 => .make mk (x.a % 5 : Nat) false
    | 1 => .load mk pa (x.b % 4 : Nat)
    | 2 => .store mk pa (x.b / 16 % 4 : Nat) pb
    | 3 => .store mk pa (x.b / 16 % 4 : Nat) pb
    | 4 => .store mk pa (x.b % 4 : Nat) (-1)
    | 5 => .drop mk pa
    | 6 => .put mk ((pa : Nat) - (x.b / 128 : Nat)) (x.b % 8 : Nat)
    | _ => .get mk (x.b % 8 : Nat)) := by
    unfold Tv.mo
    dsimp only
    rw [hmk, hn2, hN, hpa, hpb]
  obtain ⟨wA, hwA⟩ : ∃ wA, w.alloc (.cells #[.int .u8 x.kind, .int .u8 x.m, .int .u8 x.a, .int .u8 x.b] 78) = wA := ⟨_, rfl⟩
  have kA : Keeps (fun _ => False) w wA := by rw [← hwA]; exact (Keeps.refl _ _).alloc _
  have qA : wA.heap[w.heap.size]? = some (.cells #[.int .u8 x.kind, .int .u8 x.m, .int .u8 x.a, .int .u8 x.b] 78) := by rw [← hwA]; exact alloc_new
  have hfl := h.both.footlt
  have HKA := hid kA; have HWA := hid hwA; have HH := hid h; have HFL := hid hfl; have HOK := hid hok
  have HCF := hid (fun W (hk : Keeps (foot2 LA LM s) wA W) => And.intro (cells4 (block_keep qA hk (fun hf => by have := hfl _ hf; omega))) (cells4 (block_keep (block_keep h.own kA (fun h => h)) hk h.pfoot)))
  have hw0 := lt_block qA
  obtain ⟨⟨b0, b1, b2, b3, bl⟩, ⟨x0, x1, x2, x3, xl⟩⟩ := HCF.out wA (Keeps.refl _ _)
  clear hwA kA qA hn hn2 hN hmk hfl hpa hpb hmkl h hok
  have hmo' : (x.mo s).doR s = ⟨(s.A.dropR mk pa).A, s.M⟩ := by rw [hmo, hk8]; rfl
  rw [hmo']
  have HA := hid (fun W (hk : Keeps (fun _ => False) w W) => (HH.out.same hk).drop mk pa)
  clear hmo hmo' hk8
  unfold Tv.val
  go_enter Tryz.func133, Tryz.ntmps133
  go_upto_region 1 with (fail)
  rw [HWA.out]
  go_quiet (fail)
  rw [HMOD.out]
  obtain ⟨wB, hwB⟩ : ∃ wB, wA.drewN nq = wB := ⟨_, rfl⟩
  rw [hwB]
  have kB : Keeps (fun _ => False) wA wB := by rw [← hwB]; exact (Keeps.refl _ _).drewN _
  have HKB := hid kB
  obtain ⟨⟨z0, z1, z2, z3, zl⟩, ⟨u0, u1, u2, u3, ul⟩⟩ := HCF.out wB kB.up
  clear hwB kB b0 b1 b2 b3 bl x0 x1 x2 x3 xl
  go_wp2_with fail
  refine (HSA.out _ (HKA.out.trans HKB.out)).mono ?_
  rintro e w1 ⟨v5, rfl, hr5, k5⟩
  obtain ⟨p5, c5, hv5⟩ := own_shape hr5
  obtain rfl := hv5
  have HK1 := hid (HKB.out.trans k5)
  obtain ⟨⟨b0, b1, b2, b3, bl⟩, ⟨x0, x1, x2, x3, xl⟩⟩ := HCF.out w1 (HKB.out.trans k5).up
  rw [HN.out]
  clear k5 hr5 z0 z1 z2 z3 zl u0 u1 u2 u3 ul
  go_upto_region 3 with (fail)
  go_cut [7] (fun s7 wx => s7 = .int .i64 N ∧ wx = w1)
  case first =>
    go_wp2_with fail
    all_goals
      go_meet
      refine ⟨?_, rfl⟩
      congr 1
      have hmx := HMAX.out
      omega
  case rest =>
  obtain ⟨rfl, hwc⟩ := hcut
  rw [hwc]
  clear hwc
  go_wp2_with fail
  go_quiet (fail)
  rw [HPA.out, HPB.out]
  obtain ⟨wz, hwz⟩ : ∃ wz, w1.drewN nq = wz := ⟨_, rfl⟩
  rw [hwz]
  have kz : Keeps (fun _ => False) w1 wz := by rw [← hwz]; exact (Keeps.refl _ _).drewN _
  have HKZ := hid (HK1.out.trans kz)
  have HKW := hid (HKA.out.trans (HK1.out.trans kz))
  obtain ⟨⟨z0, z1, z2, z3, zl⟩, ⟨u0, u1, u2, u3, ul⟩⟩ := HCF.out wz (HK1.out.trans kz).up
  clear hwz kz b0 b1 b2 b3 bl x0 x1 x2 x3 xl
  go_wp2_with fail
  refine (HA.out _ HKW.out).mono ?_
  rintro e w3 ⟨rfl, hs3, hk3⟩
  have HS3 := hid hs3
  have HK3 := hid (HKW.out.up.trans hk3)
  clear hs3 hk3
  go_wp2_with fail
  go_end0
  exact ⟨rfl, HS3.out, HK3.out⟩
set_option maxRecDepth 100000 in
set_option maxHeartbeats 2000000 in
theorem mu_load (x : Tv) (h : Sy w0 w p a m LA LM s lv) (hok : s.Ok) (hx : x.Byte) (hk8 : x.kind % 8 = 1) :
    Calls Tryz.prog 133 #[.pointer (some ⟨p, 0, none⟩), x.val] w fun e w' => e = .returned (.tuple #[]) ∧ Sy w0 w' p a m LA LM ((x.mo s).doR s) lv ∧ Keeps (foot2 LA LM s) w w' := by
  have hki : (x.kind : Int) % 8 = 1 := by omega
  have hmany := hok.m.k1; have hm4 := hok.m.k4
  obtain ⟨hb0, hb1, hb2, hb3⟩ := hx
  have hz : ¬ (s.M.K.many : Int) = 0 := by omega
  obtain ⟨mk, hmk⟩ : ∃ mk, x.m % s.M.K.many = mk := ⟨_, rfl⟩
  have hmkl : mk < s.M.K.many := by rw [← hmk]; exact Nat.mod_lt _ (by omega)
  have HMOD := hid (show (x.m : Int) % (s.M.K.many : Int) = (mk : Int) by rw [← hmk]; simp)
  have HSA := hid (fun W (hk : Keeps (fun _ => False) w W) => astackall_ok a LA s.A mk W (Duo.same h.both hk).ar (by rw [hok.k]; exact hmkl))
  obtain ⟨n, hn⟩ : ∃ n, (s.A.rt mk).l.length = n := ⟨_, rfl⟩
  have hn2 : (s.A.rt mk).n = n := by rw [← hn]; simp [Sk.l]
  have hn32 : n ≤ 32 := by rw [← hn2]; exact (hok.a.rt mk (by rw [hok.k]; exact hmkl)).1
  obtain ⟨N, hN⟩ : ∃ N, max 1 n = N := ⟨_, rfl⟩
  have hN1 : 1 ≤ N ∧ N ≤ 32 := by omega
  have HMAX := hid (show max 1 (n : Int) = (N : Int) by omega)
  have hNz : ¬ (N : Int) = 0 := by omega
  have HN := hid hn
  obtain ⟨pa, hpa⟩ : ∃ pa, x.a % N = pa := ⟨_, rfl⟩
  obtain ⟨pb, hpb⟩ : ∃ pb, x.b % N = pb := ⟨_, rfl⟩
  have hpaN : pa < N := by rw [← hpa]; exact Nat.mod_lt _ (by omega)
  have HPA := hid (show (x.a : Int) % (N : Int) = (pa : Int) by rw [← hpa]; simp)
  have HPB := hid (show (x.b : Int) % (N : Int) = (pb : Int) by rw [← hpb]; simp)
  have hmo : x.mo s = (match x.kind % 8 with
    | 0 => .make mk (x.a % 5 : Nat) false
    | 1 => .load mk pa (x.b % 4 : Nat)
    | 2 => .store mk pa (x.b / 16 % 4 : Nat) pb
    | 3 => .store mk pa (x.b / 16 % 4 : Nat) pb
    | 4 => .store mk pa (x.b % 4 : Nat) (-1)
    | 5 => .drop mk pa
    | 6 => .put mk ((pa : Nat) - (x.b / 128 : Nat)) (x.b % 8 : Nat)
    | _ => .get mk (x.b % 8 : Nat)) := by
    unfold Tv.mo
    dsimp only
    rw [hmk, hn2, hN, hpa, hpb]
  obtain ⟨wA, hwA⟩ : ∃ wA, w.alloc (.cells #[.int .u8 x.kind, .int .u8 x.m, .int .u8 x.a, .int .u8 x.b] 78) = wA := ⟨_, rfl⟩
  have kA : Keeps (fun _ => False) w wA := by rw [← hwA]; exact (Keeps.refl _ _).alloc _
  have qA : wA.heap[w.heap.size]? = some (.cells #[.int .u8 x.kind, .int .u8 x.m, .int .u8 x.a, .int .u8 x.b] 78) := by rw [← hwA]; exact alloc_new
  have hfl := h.both.footlt
  have HKA := hid kA; have HWA := hid hwA; have HH := hid h; have HFL := hid hfl; have HOK := hid hok
  have HCF := hid (fun W (hk : Keeps (foot2 LA LM s) wA W) => And.intro (cells4 (block_keep qA hk (fun hf => by have := hfl _ hf; omega))) (cells4 (block_keep (block_keep h.own kA (fun h => h)) hk h.pfoot)))
  have hw0 := lt_block qA
  obtain ⟨⟨b0, b1, b2, b3, bl⟩, ⟨x0, x1, x2, x3, xl⟩⟩ := HCF.out wA (Keeps.refl _ _)
  clear hwA kA qA hn hn2 hN hmk hfl hpa hpb hmkl h hok
  obtain ⟨qb, hqb⟩ : ∃ qb, x.b % 4 = qb := ⟨_, rfl⟩
  have hq1 : (x.b : Int) % 4 = (qb : Int) := by omega
  have hwb : IntKind.i64.wrap (x.b : Int) = (x.b : Int) := IntWalk.i64_in _ (by omega)
  have hq2 : (x.b : Int).tmod 4 = (qb : Int) := by rw [Int.tmod_eq_emod_of_nonneg (by omega)]; exact hq1
  have hmo' : (x.mo s).doR s = ⟨(s.A.loadR mk pa qb).A, s.M⟩ := by rw [hmo, hk8, hqb]; rfl
  rw [hmo']
  have HA := hid (fun W (hk : Keeps (fun _ => False) w W) => (HH.out.same hk).load HOK.out mk pa qb)
  clear hmo hmo' hk8 hqb
  unfold Tv.val
  go_enter Tryz.func133, Tryz.ntmps133
  go_upto_region 1 with (fail)
  rw [HWA.out]
  go_quiet (fail)
  rw [HMOD.out]
  obtain ⟨wB, hwB⟩ : ∃ wB, wA.drewN nq = wB := ⟨_, rfl⟩
  rw [hwB]
  have kB : Keeps (fun _ => False) wA wB := by rw [← hwB]; exact (Keeps.refl _ _).drewN _
  have HKB := hid kB
  obtain ⟨⟨z0, z1, z2, z3, zl⟩, ⟨u0, u1, u2, u3, ul⟩⟩ := HCF.out wB kB.up
  clear hwB kB b0 b1 b2 b3 bl x0 x1 x2 x3 xl
  go_wp2_with fail
  refine (HSA.out _ (HKA.out.trans HKB.out)).mono ?_
  rintro e w1 ⟨v5, rfl, hr5, k5⟩
  obtain ⟨p5, c5, hv5⟩ := own_shape hr5
  obtain rfl := hv5
  have HK1 := hid (HKB.out.trans k5)
  obtain ⟨⟨b0, b1, b2, b3, bl⟩, ⟨x0, x1, x2, x3, xl⟩⟩ := HCF.out w1 (HKB.out.trans k5).up
  rw [HN.out]
  clear k5 hr5 z0 z1 z2 z3 zl u0 u1 u2 u3 ul
  go_upto_region 3 with (fail)
  go_cut [7] (fun s7 wx => s7 = .int .i64 N ∧ wx = w1)
  case first =>
    go_wp2_with fail
    all_goals
      go_meet
      refine ⟨?_, rfl⟩
      congr 1
      have hmx := HMAX.out
      omega
  case rest =>
  obtain ⟨rfl, hwc⟩ := hcut
  rw [hwc]
  clear hwc
  go_wp2_with fail
  go_quiet (fail)
  rw [HPA.out, HPB.out]
  obtain ⟨wz, hwz⟩ : ∃ wz, w1.drewN nq = wz := ⟨_, rfl⟩
  rw [hwz]
  have kz : Keeps (fun _ => False) w1 wz := by rw [← hwz]; exact (Keeps.refl _ _).drewN _
  have HKZ := hid (HK1.out.trans kz)
  have HKW := hid (HKA.out.trans (HK1.out.trans kz))
  obtain ⟨⟨z0, z1, z2, z3, zl⟩, ⟨u0, u1, u2, u3, ul⟩⟩ := HCF.out wz (HK1.out.trans kz).up
  clear hwz kz b0 b1 b2 b3 bl x0 x1 x2 x3 xl
  go_wp2_with fail
  have HPS := hid (fun W (hk : Keeps (foot2 LA LM s) wA W) => And.intro (HCF.out W hk).2.1 (HCF.out W hk).1.2.2.2.1)
  clear z0 z1 z2 z3 zl u0 u1 u2 u3 ul
  go_region_held3 (fun W => W.cell? ⟨p, 0, none⟩ = some (.pointer (some ⟨a, 0, none⟩)) ∧ W.cell? ⟨w.heap.size, 3, none⟩ = some (.int .u8 x.b))
    ((refine HPS.out _ ?_; (repeat (first | with_reducible exact HKZ.out.up | with_reducible refine Keeps.drewN ?_ _ | with_reducible refine Keeps.drew ?_ | with_reducible refine Keeps.trans ?_ hk3))))
    (first | (go_at_call 101; refine (HA.out _ (by (repeat (first | with_reducible exact HKW.out | with_reducible refine Keeps.drewN ?_ _ | with_reducible refine Keeps.drew ?_)))).mono ?_; rintro e w3 ⟨rfl, hs3, hk3⟩))
  have HS3 := hid hs3
  have HK3 := hid (show Keeps (foot2 LA LM s) w w3 from Keeps.trans (Keeps.up (by (repeat (first | with_reducible exact HKW.out | with_reducible refine Keeps.drewN ?_ _ | with_reducible refine Keeps.drew ?_)))) hk3)
  clear hs3 hk3
  go_wp2_with fail
  go_end0
  exact ⟨rfl, HS3.out, HK3.out⟩
set_option maxRecDepth 100000 in
set_option maxHeartbeats 2000000 in
theorem mu_get (x : Tv) (h : Sy w0 w p a m LA LM s lv) (hok : s.Ok) (hx : x.Byte) (hk8 : x.kind % 8 = 7) :
    Calls Tryz.prog 133 #[.pointer (some ⟨p, 0, none⟩), x.val] w fun e w' => e = .returned (.tuple #[]) ∧ Sy w0 w' p a m LA LM ((x.mo s).doR s) lv ∧ Keeps (foot2 LA LM s) w w' := by
  have hki : (x.kind : Int) % 8 = 7 := by omega
  have hmany := hok.m.k1; have hm4 := hok.m.k4
  obtain ⟨hb0, hb1, hb2, hb3⟩ := hx
  have hz : ¬ (s.M.K.many : Int) = 0 := by omega
  obtain ⟨mk, hmk⟩ : ∃ mk, x.m % s.M.K.many = mk := ⟨_, rfl⟩
  have hmkl : mk < s.M.K.many := by rw [← hmk]; exact Nat.mod_lt _ (by omega)
  have HMOD := hid (show (x.m : Int) % (s.M.K.many : Int) = (mk : Int) by rw [← hmk]; simp)
  have HSA := hid (fun W (hk : Keeps (fun _ => False) w W) => astackall_ok a LA s.A mk W (Duo.same h.both hk).ar (by rw [hok.k]; exact hmkl))
  obtain ⟨n, hn⟩ : ∃ n, (s.A.rt mk).l.length = n := ⟨_, rfl⟩
  have hn2 : (s.A.rt mk).n = n := by rw [← hn]; simp [Sk.l]
  have hn32 : n ≤ 32 := by rw [← hn2]; exact (hok.a.rt mk (by rw [hok.k]; exact hmkl)).1
  obtain ⟨N, hN⟩ : ∃ N, max 1 n = N := ⟨_, rfl⟩
  have hN1 : 1 ≤ N ∧ N ≤ 32 := by omega
  have HMAX := hid (show max 1 (n : Int) = (N : Int) by omega)
  have hNz : ¬ (N : Int) = 0 := by omega
  have HN := hid hn
  obtain ⟨pa, hpa⟩ : ∃ pa, x.a % N = pa := ⟨_, rfl⟩
  obtain ⟨pb, hpb⟩ : ∃ pb, x.b % N = pb := ⟨_, rfl⟩
  have hpaN : pa < N := by rw [← hpa]; exact Nat.mod_lt _ (by omega)
  have HPA := hid (show (x.a : Int) % (N : Int) = (pa : Int) by rw [← hpa]; simp)
  have HPB := hid (show (x.b : Int) % (N : Int) = (pb : Int) by rw [← hpb]; simp)
  have hmo : x.mo s = (match x.kind % 8 with
    | 0 => .make mk (x.a % 5 : Nat) false
    | 1 => .load mk pa (x.b % 4 : Nat)
    | 2 => .store mk pa (x.b / 16 % 4 : Nat) pb
    | 3 => .store mk pa (x.b / 16 % 4 : Nat) pb
    | 4 => .store mk pa (x.b % 4 : Nat) (-1)
    | 5 => .drop mk pa
    | 6 => .put mk ((pa : Nat) - (x.b / 128 : Nat)) (x.b % 8 : Nat)
    | _ => .get mk (x.b % 8 : Nat)) := by
    unfold Tv.mo
    dsimp only
    rw [hmk, hn2, hN, hpa, hpb]
  obtain ⟨wA, hwA⟩ : ∃ wA, w.alloc (.cells #[.int .u8 x.kind, .int .u8 x.m, .int .u8 x.a, .int .u8 x.b] 78) = wA := ⟨_, rfl⟩
  have kA : Keeps (fun _ => False) w wA := by rw [← hwA]; exact (Keeps.refl _ _).alloc _
  have qA : wA.heap[w.heap.size]? = some (.cells #[.int .u8 x.kind, .int .u8 x.m, .int .u8 x.a, .int .u8 x.b] 78) := by rw [← hwA]; exact alloc_new
  have hfl := h.both.footlt
  have HKA := hid kA; have HWA := hid hwA; have HH := hid h; have HFL := hid hfl; have HOK := hid hok
  have HCF := hid (fun W (hk : Keeps (foot2 LA LM s) wA W) => And.intro (cells4 (block_keep qA hk (fun hf => by have := hfl _ hf; omega))) (cells4 (block_keep (block_keep h.own kA (fun h => h)) hk h.pfoot)))
  have hw0 := lt_block qA
  obtain ⟨⟨b0, b1, b2, b3, bl⟩, ⟨x0, x1, x2, x3, xl⟩⟩ := HCF.out wA (Keeps.refl _ _)
  clear hwA kA qA hn hn2 hN hmk hfl hpa hpb hmkl h hok
  obtain ⟨qb, hqb⟩ : ∃ qb, x.b % 8 = qb := ⟨_, rfl⟩
  have hwb : IntKind.i64.wrap (x.b : Int) = (x.b : Int) := IntWalk.i64_in _ (by omega)
  have hq1 : (x.b : Int) % 8 = (qb : Int) := by omega
  have hq2 : (x.b : Int).tmod 8 = (qb : Int) := by rw [Int.tmod_eq_emod_of_nonneg (by omega)]; exact hq1
  have hmo' : (x.mo s).doR s = ⟨(s.A.getR mk qb).A, s.M⟩ := by rw [hmo, hk8, hqb]; rfl
  rw [hmo']
  have HA := hid (fun W (hk : Keeps (fun _ => False) w W) => (HH.out.same hk).get HOK.out mk qb)
  clear hmo hmo' hk8 hqb
  unfold Tv.val
  go_enter Tryz.func133, Tryz.ntmps133
  go_upto_region 1 with (fail)
  rw [HWA.out]
  go_quiet (fail)
  rw [HMOD.out]
  obtain ⟨wB, hwB⟩ : ∃ wB, wA.drewN nq = wB := ⟨_, rfl⟩
  rw [hwB]
  have kB : Keeps (fun _ => False) wA wB := by rw [← hwB]; exact (Keeps.refl _ _).drewN _
  have HKB := hid kB
  obtain ⟨⟨z0, z1, z2, z3, zl⟩, ⟨u0, u1, u2, u3, ul⟩⟩ := HCF.out wB kB.up
  clear hwB kB b0 b1 b2 b3 bl x0 x1 x2 x3 xl
  go_wp2_with fail
  refine (HSA.out _ (HKA.out.trans HKB.out)).mono ?_
  rintro e w1 ⟨v5, rfl, hr5, k5⟩
  obtain ⟨p5, c5, hv5⟩ := own_shape hr5
  obtain rfl := hv5
  have HK1 := hid (HKB.out.trans k5)
  obtain ⟨⟨b0, b1, b2, b3, bl⟩, ⟨x0, x1, x2, x3, xl⟩⟩ := HCF.out w1 (HKB.out.trans k5).up
  rw [HN.out]
  clear k5 hr5 z0 z1 z2 z3 zl u0 u1 u2 u3 ul
  go_upto_region 3 with (fail)
  go_cut [7] (fun s7 wx => s7 = .int .i64 N ∧ wx = w1)
  case first =>
    go_wp2_with fail
    all_goals
      go_meet
      refine ⟨?_, rfl⟩
      congr 1
      have hmx := HMAX.out
      omega
  case rest =>
  obtain ⟨rfl, hwc⟩ := hcut
  rw [hwc]
  clear hwc
  go_wp2_with fail
  go_quiet (fail)
  rw [HPA.out, HPB.out]
  obtain ⟨wz, hwz⟩ : ∃ wz, w1.drewN nq = wz := ⟨_, rfl⟩
  rw [hwz]
  have kz : Keeps (fun _ => False) w1 wz := by rw [← hwz]; exact (Keeps.refl _ _).drewN _
  have HKZ := hid (HK1.out.trans kz)
  have HKW := hid (HKA.out.trans (HK1.out.trans kz))
  obtain ⟨⟨z0, z1, z2, z3, zl⟩, ⟨u0, u1, u2, u3, ul⟩⟩ := HCF.out wz (HK1.out.trans kz).up
  clear hwz kz b0 b1 b2 b3 bl x0 x1 x2 x3 xl
  go_wp2_with fail
  have HPS := hid (fun W (hk : Keeps (foot2 LA LM s) wA W) => And.intro (HCF.out W hk).2.1 (HCF.out W hk).1.2.2.2.1)
  clear z0 z1 z2 z3 zl u0 u1 u2 u3 ul
  go_region_held3 (fun W => W.cell? ⟨p, 0, none⟩ = some (.pointer (some ⟨a, 0, none⟩)) ∧ W.cell? ⟨w.heap.size, 3, none⟩ = some (.int .u8 x.b))
    ((refine HPS.out _ ?_; (repeat (first | with_reducible exact HKZ.out.up | with_reducible refine Keeps.drewN ?_ _ | with_reducible refine Keeps.drew ?_ | with_reducible refine Keeps.trans ?_ hk3))))
    (first | (go_at_call 108; refine (HA.out _ (by (repeat (first | with_reducible exact HKW.out | with_reducible refine Keeps.drewN ?_ _ | with_reducible refine Keeps.drew ?_)))).mono ?_; rintro e w3 ⟨rfl, hs3, hk3⟩))
  have HS3 := hid hs3
  have HK3 := hid (show Keeps (foot2 LA LM s) w w3 from Keeps.trans (Keeps.up (by (repeat (first | with_reducible exact HKW.out | with_reducible refine Keeps.drewN ?_ _ | with_reducible refine Keeps.drew ?_)))) hk3)
  clear hs3 hk3
  go_wp2_with fail
  go_end0
  exact ⟨rfl, HS3.out, HK3.out⟩
theorem Sy.wrote (h : Sy w0 w p a m LA LM s lv) (i : Int) (r q : Rf) : Calls Tryz.prog 175 #[.pointer (some ⟨m, 0, none⟩), .int .i64 i, .agg #[.int .i64 r.s, .int .u32 r.g], .agg #[.int .i64 q.s, .int .u32 q.g]] w
    fun e w' => (∃ v, e = .returned (.int .i64 v)) ∧ Sy w0 w' p a m LA LM ⟨s.A, (s.M.wroteR i r q).1⟩ lv ∧ Keeps (foot2 LA LM s) w w' :=
  (duo_wrote_any h.both i r q).mono fun e w' ⟨h1, h2⟩ => ⟨⟨_, h1⟩, h.mark h2 (by rw [(Mk.wroteR_K s.M i r q).1])⟩
theorem Sy.madeM (h : Sy w0 w p a m LA LM s lv) (r : Rf) : Calls Tryz.prog 229 #[.pointer (some ⟨m, 0, none⟩), .agg #[.int .i64 r.s, .int .u32 r.g]] w
    fun e w' => (∃ v, e = .returned (.int .i64 v)) ∧ Sy w0 w' p a m LA LM ⟨s.A, (s.M.madeR r).1⟩ lv ∧ Keeps (foot2 LA LM s) w w' :=
  (duo_made_any h.both r).mono fun e w' ⟨h1, h2⟩ => ⟨⟨_, h1⟩, h.mark h2 (congrArg Ck.many (s.M.madeR_K r).1)⟩
theorem Sy.foot (h : Sy w0 w p a m LA LM s lv) {A' : Ar} (hm : A'.many = s.A.many) : foot2 LA LM ⟨A', s.M⟩ = foot2 LA LM s := foot2_of hm rfl
set_option maxRecDepth 100000 in
set_option maxHeartbeats 1000000 in
theorem mu_store4 (x : Tv) (h : Sy w0 w p a m LA LM s lv) (hok : s.Ok) (hx : x.Byte) (hk8 : x.kind % 8 = 4) :
    Calls Tryz.prog 133 #[.pointer (some ⟨p, 0, none⟩), x.val] w fun e w' => e = .returned (.tuple #[]) ∧ Sy w0 w' p a m LA LM ((x.mo s).doR s) lv ∧ Keeps (foot2 LA LM s) w w' := by
  have hki : (x.kind : Int) % 8 = 4 := by omega
  have hmany := hok.m.k1; have hm4 := hok.m.k4
  obtain ⟨hb0, hb1, hb2, hb3⟩ := hx
  have hz : ¬ (s.M.K.many : Int) = 0 := by omega
  obtain ⟨mk, hmk⟩ : ∃ mk, x.m % s.M.K.many = mk := ⟨_, rfl⟩
  have hmkl : mk < s.M.K.many := by rw [← hmk]; exact Nat.mod_lt _ (by omega)
  have HMOD := hid (show (x.m : Int) % (s.M.K.many : Int) = (mk : Int) by rw [← hmk]; simp)
  have HSA := hid (fun W (hk : Keeps (fun _ => False) w W) => astackall_ok a LA s.A mk W (Duo.same h.both hk).ar (by rw [hok.k]; exact hmkl))
  obtain ⟨n, hn⟩ : ∃ n, (s.A.rt mk).l.length = n := ⟨_, rfl⟩
  have hn2 : (s.A.rt mk).n = n := by rw [← hn]; simp [Sk.l]
  have hn32 : n ≤ 32 := by rw [← hn2]; exact (hok.a.rt mk (by rw [hok.k]; exact hmkl)).1
  obtain ⟨N, hN⟩ : ∃ N, max 1 n = N := ⟨_, rfl⟩
  have hN1 : 1 ≤ N ∧ N ≤ 32 := by omega
  have HMAX := hid (show max 1 (n : Int) = (N : Int) by omega)
  have hNz : ¬ (N : Int) = 0 := by omega
  have HN := hid hn
  obtain ⟨pa, hpa⟩ : ∃ pa, x.a % N = pa := ⟨_, rfl⟩
  obtain ⟨pb, hpb⟩ : ∃ pb, x.b % N = pb := ⟨_, rfl⟩
  have hpaN : pa < N := by rw [← hpa]; exact Nat.mod_lt _ (by omega)
  have HPA := hid (show (x.a : Int) % (N : Int) = (pa : Int) by rw [← hpa]; simp)
  have HPB := hid (show (x.b : Int) % (N : Int) = (pb : Int) by rw [← hpb]; simp)
  have hmo : x.mo s = (match x.kind % 8 with
    | 0 => .make mk (x.a % 5 : Nat) false
    | 1 => .load mk pa (x.b % 4 : Nat)
    | 2 => .store mk pa (x.b / 16 % 4 : Nat) pb
    | 3 => .store mk pa (x.b / 16 % 4 : Nat) pb
    | 4 => .store mk pa (x.b % 4 : Nat) (-1)
    | 5 => .drop mk pa
    | 6 => .put mk ((pa : Nat) - (x.b / 128 : Nat)) (x.b % 8 : Nat)
    | _ => .get mk (x.b % 8 : Nat)) := by
    unfold Tv.mo
    dsimp only
    rw [hmk, hn2, hN, hpa, hpb]
  obtain ⟨wA, hwA⟩ : ∃ wA, w.alloc (.cells #[.int .u8 x.kind, .int .u8 x.m, .int .u8 x.a, .int .u8 x.b] 78) = wA := ⟨_, rfl⟩
  have kA : Keeps (fun _ => False) w wA := by rw [← hwA]; exact (Keeps.refl _ _).alloc _
  have qA : wA.heap[w.heap.size]? = some (.cells #[.int .u8 x.kind, .int .u8 x.m, .int .u8 x.a, .int .u8 x.b] 78) := by rw [← hwA]; exact alloc_new
  have hfl := h.both.footlt
  have HKA := hid kA; have HWA := hid hwA; have HH := hid h; have HFL := hid hfl; have HOK := hid hok
  have HCF := hid (fun W (hk : Keeps (foot2 LA LM s) wA W) => And.intro (cells4 (block_keep qA hk (fun hf => by have := hfl _ hf; omega))) (cells4 (block_keep (block_keep h.own kA (fun h => h)) hk h.pfoot)))
  have hw0 := lt_block qA
  obtain ⟨⟨b0, b1, b2, b3, bl⟩, ⟨x0, x1, x2, x3, xl⟩⟩ := HCF.out wA (Keeps.refl _ _)
  clear hwA kA qA hn hn2 hN hmk hfl hpa hpb hmkl h hok
  obtain ⟨qb, hqb⟩ : ∃ qb, x.b % 4 = qb := ⟨_, rfl⟩
  have hwb : IntKind.i64.wrap (x.b : Int) = (x.b : Int) := IntWalk.i64_in _ (by omega)
  have hq1 : (x.b : Int) % 4 = (qb : Int) := by omega
  have hq2 : (x.b : Int).tmod 4 = (qb : Int) := by rw [Int.tmod_eq_emod_of_nonneg (by omega)]; exact hq1
  have hmo' : (x.mo s).doR s = Sys.told (s.A.storeR mk pa qb (-1)) s mk := by rw [hmo, hk8, hqb]; rfl
  rw [hmo']
  have HA := hid (fun W (hk : Keeps (fun _ => False) w W) => (HH.out.same hk).store HOK.out mk pa qb (-1))
  have hmy : (s.A.storeR mk pa qb (-1)).A.many = s.A.many := (Ar.storeR_n _ _ _ _ _).2
  unfold Sys.told
  obtain ⟨R, hR⟩ : ∃ R, s.A.storeR mk pa qb (-1) = R := ⟨_, rfl⟩
  rw [hR] at HA hmy ⊢
  have HFE := hid (HH.out.foot hmy)
  have HFX := hid (show ∀ B : Nat, w.heap.size ≤ B → ¬ foot2 LA LM ⟨R.A, s.M⟩ B from fun B hl hf => by rw [HH.out.foot hmy] at hf; have := HFL.out _ hf; omega)
  have HF := hid (fun W' {W : World} (hW : Sy w0 W p a m LA LM ⟨R.A, s.M⟩ lv) (hk : Keeps (fun y => w.heap.size ≤ y) W W') => HH.out.far hW hmy rfl hk)
  obtain ⟨T, hT⟩ : ∃ T, (if R.e = 0 then (s.M.wroteR mk R.was R.now).1 else s.M) = T := ⟨_, rfl⟩
  have HT := hid hT
  rw [hT]
  clear hT hmo hmo' hk8 hqb hR hmy
  unfold Tv.val
  go_enter Tryz.func133, Tryz.ntmps133
  go_upto_region 1 with (fail)
  rw [HWA.out]
  go_quiet (fail)
  rw [HMOD.out]
  obtain ⟨wB, hwB⟩ : ∃ wB, wA.drewN nq = wB := ⟨_, rfl⟩
  rw [hwB]
  have kB : Keeps (fun _ => False) wA wB := by rw [← hwB]; exact (Keeps.refl _ _).drewN _
  have HKB := hid kB
  obtain ⟨⟨z0, z1, z2, z3, zl⟩, ⟨u0, u1, u2, u3, ul⟩⟩ := HCF.out wB kB.up
  clear hwB kB b0 b1 b2 b3 bl x0 x1 x2 x3 xl
  go_wp2_with fail
  refine (HSA.out _ (HKA.out.trans HKB.out)).mono ?_
  rintro e w1 ⟨v5, rfl, hr5, k5⟩
  obtain ⟨p5, c5, hv5⟩ := own_shape hr5
  obtain rfl := hv5
  have HK1 := hid (HKB.out.trans k5)
  obtain ⟨⟨b0, b1, b2, b3, bl⟩, ⟨x0, x1, x2, x3, xl⟩⟩ := HCF.out w1 (HKB.out.trans k5).up
  rw [HN.out]
  clear k5 hr5 z0 z1 z2 z3 zl u0 u1 u2 u3 ul
  go_upto_region 3 with (fail)
  go_cut [7] (fun s7 wx => s7 = .int .i64 N ∧ wx = w1)
  case first =>
    go_wp2_with fail
    all_goals
      go_meet
      refine ⟨?_, rfl⟩
      congr 1
      have hmx := HMAX.out
      omega
  case rest =>
  obtain ⟨rfl, hwc⟩ := hcut
  rw [hwc]
  clear hwc
  go_wp2_with fail
  go_quiet (fail)
  rw [HPA.out, HPB.out]
  obtain ⟨wz, hwz⟩ : ∃ wz, w1.drewN nq = wz := ⟨_, rfl⟩
  rw [hwz]
  have kz : Keeps (fun _ => False) w1 wz := by rw [← hwz]; exact (Keeps.refl _ _).drewN _
  have HKZ := hid (HK1.out.trans kz)
  have HKW := hid (HKA.out.trans (HK1.out.trans kz))
  obtain ⟨⟨z0, z1, z2, z3, zl⟩, ⟨u0, u1, u2, u3, ul⟩⟩ := HCF.out wz (HK1.out.trans kz).up
  clear hwz kz b0 b1 b2 b3 bl x0 x1 x2 x3 xl
  go_wp2_with fail
  have HPS := hid (fun W (hk : Keeps (foot2 LA LM s) wA W) => And.intro (HCF.out W hk).2.1 (HCF.out W hk).1.2.2.2.1)
  have hzw := HKW.out.size; have hzA := HKZ.out.size
  clear z0 z1 z2 z3 zl u0 u1 u2 u3 ul
  go_upto_region 19 with (fail)
  go_cut [15, 16, 17] from 21 (fun s1 s2 s3 wx => ∃ B1 B2, s1 = .pointer (some ⟨B1, 0, none⟩) ∧ s2 = .pointer (some ⟨B2, 0, none⟩) ∧ s3 = .int .i64 R.e ∧ wx.heap[B1]? = some (.cells #[.int .i64 R.was.s, .int .u32 R.was.g] 33) ∧ wx.heap[B2]? = some (.cells #[.int .i64 R.now.s, .int .u32 R.now.g] 33) ∧ w.heap.size ≤ B1 ∧ w.heap.size ≤ B2 ∧ Sy w0 wx p a m LA LM ⟨R.A, s.M⟩ lv ∧ Keeps (foot2 LA LM s) w wx)
  case first =>
    go_region_held3 (fun W => W.cell? ⟨p, 0, none⟩ = some (.pointer (some ⟨a, 0, none⟩)) ∧ W.cell? ⟨w.heap.size, 3, none⟩ = some (.int .u8 x.b))
      ((refine HPS.out _ ?_; (repeat (first | with_reducible exact HKZ.out.up | with_reducible refine Keeps.alloc ?_ _ | with_reducible refine Keeps.drewN ?_ _ | with_reducible refine Keeps.drew ?_ | with_reducible refine Keeps.setCell ?_ (.inr ?_) _ | with_reducible refine Keeps.trans ?_ hk3)) <;> (dsimp only; omega)))
      (first | (go_at_call 103; refine (HA.out _ (by (repeat (first | with_reducible exact HKW.out | with_reducible refine Keeps.drewN ?_ _ | with_reducible refine Keeps.drew ?_ | with_reducible refine Keeps.alloc ?_ _)))).mono ?_; rintro e w3 ⟨rfl, hs3, hk3⟩; dsimp only [Rf.val]; have hkw : Keeps (foot2 LA LM s) w w3 := Keeps.trans (by (repeat (first | with_reducible exact HKW.out.up | with_reducible refine Keeps.drewN ?_ _ | with_reducible refine Keeps.drew ?_ | with_reducible refine Keeps.alloc ?_ _))) hk3; have hks := hkw.size; (first | (have nb := block_keep (show (World.drew ((wz.alloc (.cells #[.int .i64 0, .int .u32 0] 33)).alloc (.cells #[.int .i64 0, .int .u32 0] 33))).heap[wz.heap.size]? = _ from alloc_old alloc_new) hk3 (fun hf => by have := HFL.out _ hf; omega); have nc := block_keep (show (World.drew ((wz.alloc (.cells #[.int .i64 0, .int .u32 0] 33)).alloc (.cells #[.int .i64 0, .int .u32 0] 33))).heap[wz.heap.size + 1]? = _ from alloc_new' (by simp)) hk3 (fun hf => by have := HFL.out _ hf; omega); have nx := cells2 nb; obtain ⟨n0, n1, nf, nl⟩ := nx; have nf0 := nf 0; have nf1 := nf 1; have ny := cells2 nc; obtain ⟨m0, m1, mf, ml⟩ := ny; have mf0 := mf 0; have mf1 := mf 1) | (have nb := block_keep (show (World.drew (wz.alloc (.cells #[.int .i64 0, .int .u32 0] 33))).heap[wz.heap.size]? = _ from alloc_new) hk3 (fun hf => by have := HFL.out _ hf; omega); have nx := cells2 nb; obtain ⟨n0, n1, nf, nl⟩ := nx; have nf0 := nf 0; have nf1 := nf 1) | skip)))
    all_goals
      go_wp2_with fail
      go_meet
      refine ⟨_, _, rfl, rfl, rfl, ?_, ?_, ?_, ?_, ?_, ?_⟩
      · try dsimp only [Ob.arr]
        repeat (first | (with_reducible assumption) | (with_reducible refine alloc_new' ?_; simp; done) | (with_reducible refine alloc_old ?_) | (with_reducible apply fin10) | (with_reducible apply fin2) | (with_reducible refine set_oth2 ?_ ?_; focus (first | (simp; done) | (dsimp only; omega))))
      · try dsimp only [Ob.arr]
        repeat (first | (with_reducible assumption) | (with_reducible refine alloc_new' ?_; simp; done) | (with_reducible refine alloc_old ?_) | (with_reducible apply fin10) | (with_reducible apply fin2) | (with_reducible refine set_oth2 ?_ ?_; focus (first | (simp; done) | (dsimp only; omega))))
      · omega
      · omega
      · refine HF.out _ hs3 ?_
        repeat (first | (with_reducible exact (Keeps.refl _ _)) | with_reducible refine Keeps.setCell ?_ ?_ _ | with_reducible refine Keeps.alloc ?_ _ | with_reducible refine Keeps.drewN ?_ _ | with_reducible refine Keeps.drew ?_)
        all_goals first | (left; simp; done) | (left; simp; omega) | (right; simp; done) | (right; simp; omega)
      · repeat (first | (with_reducible exact hkw) | with_reducible refine Keeps.setCell ?_ ?_ _ | with_reducible refine Keeps.alloc ?_ _ | with_reducible refine Keeps.drewN ?_ _ | with_reducible refine Keeps.drew ?_)
        all_goals first | (left; simp; done) | (left; simp; omega) | (right; simp; done) | (right; simp; omega)
  case rest =>
  obtain ⟨B1, B2, rfl, rfl, rfl, hb1, hb2, hl1, hl2, hs4, hk4⟩ := hcut
  obtain ⟨w4, hw4⟩ : ∃ w4, wc = w4 := ⟨_, rfl⟩
  rw [hw4] at hb1 hb2 hs4 hk4 ⊢
  clear hw4
  have HS4 := hid hs4; have HK4 := hid hk4; have HB1 := hid hb1; have HB2 := hid hb2
  obtain ⟨x0, x1, x2, x3, xl⟩ := cells4 hs4.own
  obtain ⟨y0, y1, _, yl⟩ := cells2 hb1
  obtain ⟨z0, z1, _, zl⟩ := cells2 hb2
  clear hb1 hb2 hs4 hk4
  by_cases he : R.e = 0
  · have he1 : (R.e == 0) = true := by simpa using he
    have HT0 := hid (show (s.M.wroteR mk R.was R.now).1 = T from by have h := HT.out; rwa [if_pos he] at h)
    rw [he]
    have HWR := hid (fun W (hk : Keeps (fun _ => False) w4 W) => (HS4.out.same hk).wrote mk R.was R.now)
    clear he he1
    go_upto_region 21 with (fail)
    go_region_held3 (fun W => W.cell? ⟨p, 1, none⟩ = some (.pointer (some ⟨m, 0, none⟩)) ∧ W.cell? ⟨B1, 0, none⟩ = some (.int .i64 R.was.s) ∧ W.cell? ⟨B1, 1, none⟩ = some (.int .u32 R.was.g) ∧ W.cell? ⟨B2, 0, none⟩ = some (.int .i64 R.now.s) ∧ W.cell? ⟨B2, 1, none⟩ = some (.int .u32 R.now.g))
      ((first | exact ⟨x1, y0, y1, z0, z1⟩ | exact hc6))
      (first | (go_at_call 175; refine (HWR.out _ (Keeps.refl _ _).drew).mono ?_; rintro e w6 ⟨⟨v6, rfl⟩, hs6, hk6⟩; have hc6 : w6.cell? ⟨p, 1, none⟩ = some (.pointer (some ⟨m, 0, none⟩)) ∧ w6.cell? ⟨B1, 0, none⟩ = some (.int .i64 R.was.s) ∧ w6.cell? ⟨B1, 1, none⟩ = some (.int .u32 R.was.g) ∧ w6.cell? ⟨B2, 0, none⟩ = some (.int .i64 R.now.s) ∧ w6.cell? ⟨B2, 1, none⟩ = some (.int .u32 R.now.g) := ⟨(cells4 hs6.own).2.1, (cells2 (block_keep (w := w4.drew) HB1.out hk6 (HFX.out _ hl1))).1, (cells2 (block_keep (w := w4.drew) HB1.out hk6 (HFX.out _ hl1))).2.1, (cells2 (block_keep (w := w4.drew) HB2.out hk6 (HFX.out _ hl2))).1, (cells2 (block_keep (w := w4.drew) HB2.out hk6 (HFX.out _ hl2))).2.1⟩))
    all_goals
      go_wp2_with fail
      go_end0
      exact ⟨rfl, HT0.out ▸ hs6, HK4.out.trans (HFE.out ▸ ((Keeps.refl _ _).drew.trans hk6))⟩
  · have he1 : (R.e == 0) = false := by simpa using he
    have HT0 := hid (show s.M = T from by have h := HT.out; rwa [if_neg he] at h)
    clear he
    go_wp2_with fail
    go_end0
    exact ⟨rfl, HT0.out ▸ HS4.out, HK4.out⟩
set_option maxRecDepth 100000 in
set_option maxHeartbeats 1000000 in
theorem mu_store2 (x : Tv) (h : Sy w0 w p a m LA LM s lv) (hok : s.Ok) (hx : x.Byte) (hk8 : x.kind % 8 = 2) :
    Calls Tryz.prog 133 #[.pointer (some ⟨p, 0, none⟩), x.val] w fun e w' => e = .returned (.tuple #[]) ∧ Sy w0 w' p a m LA LM ((x.mo s).doR s) lv ∧ Keeps (foot2 LA LM s) w w' := by
  have hki : (x.kind : Int) % 8 = 2 := by omega
  have hmany := hok.m.k1; have hm4 := hok.m.k4
  obtain ⟨hb0, hb1, hb2, hb3⟩ := hx
  have hz : ¬ (s.M.K.many : Int) = 0 := by omega
  obtain ⟨mk, hmk⟩ : ∃ mk, x.m % s.M.K.many = mk := ⟨_, rfl⟩
  have hmkl : mk < s.M.K.many := by rw [← hmk]; exact Nat.mod_lt _ (by omega)
  have HMOD := hid (show (x.m : Int) % (s.M.K.many : Int) = (mk : Int) by rw [← hmk]; simp)
  have HSA := hid (fun W (hk : Keeps (fun _ => False) w W) => astackall_ok a LA s.A mk W (Duo.same h.both hk).ar (by rw [hok.k]; exact hmkl))
  obtain ⟨n, hn⟩ : ∃ n, (s.A.rt mk).l.length = n := ⟨_, rfl⟩
  have hn2 : (s.A.rt mk).n = n := by rw [← hn]; simp [Sk.l]
  have hn32 : n ≤ 32 := by rw [← hn2]; exact (hok.a.rt mk (by rw [hok.k]; exact hmkl)).1
  obtain ⟨N, hN⟩ : ∃ N, max 1 n = N := ⟨_, rfl⟩
  have hN1 : 1 ≤ N ∧ N ≤ 32 := by omega
  have HMAX := hid (show max 1 (n : Int) = (N : Int) by omega)
  have hNz : ¬ (N : Int) = 0 := by omega
  have HN := hid hn
  obtain ⟨pa, hpa⟩ : ∃ pa, x.a % N = pa := ⟨_, rfl⟩
  obtain ⟨pb, hpb⟩ : ∃ pb, x.b % N = pb := ⟨_, rfl⟩
  have hpaN : pa < N := by rw [← hpa]; exact Nat.mod_lt _ (by omega)
  have HPA := hid (show (x.a : Int) % (N : Int) = (pa : Int) by rw [← hpa]; simp)
  have HPB := hid (show (x.b : Int) % (N : Int) = (pb : Int) by rw [← hpb]; simp)
  have hmo : x.mo s = (match x.kind % 8 with
    | 0 => .make mk (x.a % 5 : Nat) false
    | 1 => .load mk pa (x.b % 4 : Nat)
    | 2 => .store mk pa (x.b / 16 % 4 : Nat) pb
    | 3 => .store mk pa (x.b / 16 % 4 : Nat) pb
    | 4 => .store mk pa (x.b % 4 : Nat) (-1)
    | 5 => .drop mk pa
    | 6 => .put mk ((pa : Nat) - (x.b / 128 : Nat)) (x.b % 8 : Nat)
    | _ => .get mk (x.b % 8 : Nat)) := by
    unfold Tv.mo
    dsimp only
    rw [hmk, hn2, hN, hpa, hpb]
  obtain ⟨wA, hwA⟩ : ∃ wA, w.alloc (.cells #[.int .u8 x.kind, .int .u8 x.m, .int .u8 x.a, .int .u8 x.b] 78) = wA := ⟨_, rfl⟩
  have kA : Keeps (fun _ => False) w wA := by rw [← hwA]; exact (Keeps.refl _ _).alloc _
  have qA : wA.heap[w.heap.size]? = some (.cells #[.int .u8 x.kind, .int .u8 x.m, .int .u8 x.a, .int .u8 x.b] 78) := by rw [← hwA]; exact alloc_new
  have hfl := h.both.footlt
  have HKA := hid kA; have HWA := hid hwA; have HH := hid h; have HFL := hid hfl; have HOK := hid hok
  have HCF := hid (fun W (hk : Keeps (foot2 LA LM s) wA W) => And.intro (cells4 (block_keep qA hk (fun hf => by have := hfl _ hf; omega))) (cells4 (block_keep (block_keep h.own kA (fun h => h)) hk h.pfoot)))
  have hw0 := lt_block qA
  obtain ⟨⟨b0, b1, b2, b3, bl⟩, ⟨x0, x1, x2, x3, xl⟩⟩ := HCF.out wA (Keeps.refl _ _)
  clear hwA kA qA hn hn2 hN hmk hfl hpa hpb hmkl h hok
  obtain ⟨qa, hqa⟩ : ∃ qa, x.b / 16 = qa := ⟨_, rfl⟩
  obtain ⟨qb, hqb⟩ : ∃ qb, qa % 4 = qb := ⟨_, rfl⟩
  have hd1 : (x.b : Int) / 16 = (qa : Int) := by omega
  have hd2 : (x.b : Int).tdiv 16 = (qa : Int) := by rw [Int.tdiv_eq_ediv_of_nonneg (by omega)]; exact hd1
  have hwa : IntKind.i64.wrap (qa : Int) = (qa : Int) := IntWalk.i64_in _ (by omega)
  have hwu : IntKind.u8.wrap (qa : Int) = (qa : Int) := u8_wrap (by omega)
  have hq1 : (qa : Int) % 4 = (qb : Int) := by omega
  have hq2 : (qa : Int).tmod 4 = (qb : Int) := by rw [Int.tmod_eq_emod_of_nonneg (by omega)]; exact hq1
  have HEQ := hid (show x.b / 16 % 4 = qb by rw [hqa, hqb])
  clear hqa hqb
  have hmo' : (x.mo s).doR s = Sys.told (s.A.storeR mk pa qb pb) s mk := by rw [hmo, hk8, HEQ.out]; rfl
  rw [hmo']
  have HA := hid (fun W (hk : Keeps (fun _ => False) w W) => (HH.out.same hk).store HOK.out mk pa qb pb)
  have hmy : (s.A.storeR mk pa qb pb).A.many = s.A.many := (Ar.storeR_n s.A _ _ _ _).2
  unfold Sys.told
  obtain ⟨R, hR⟩ : ∃ R, s.A.storeR mk pa qb pb = R := ⟨_, rfl⟩
  rw [hR] at HA hmy ⊢
  have HFE := hid (HH.out.foot hmy)
  have HFX := hid (show ∀ B : Nat, w.heap.size ≤ B → ¬ foot2 LA LM ⟨R.A, s.M⟩ B from fun B hl hf => by rw [HH.out.foot hmy] at hf; have := HFL.out _ hf; omega)
  have HF := hid (fun W' {W : World} (hW : Sy w0 W p a m LA LM ⟨R.A, s.M⟩ lv) (hk : Keeps (fun y => w.heap.size ≤ y) W W') => HH.out.far hW hmy rfl hk)
  obtain ⟨T, hT⟩ : ∃ T, (if R.e = 0 then (s.M.wroteR mk R.was R.now).1 else s.M) = T := ⟨_, rfl⟩
  have HT := hid hT
  rw [hT]
  clear hT hmo hmo' hk8 hR hmy
  unfold Tv.val
  go_enter Tryz.func133, Tryz.ntmps133
  go_upto_region 1 with (fail)
  rw [HWA.out]
  go_quiet (fail)
  rw [HMOD.out]
  obtain ⟨wB, hwB⟩ : ∃ wB, wA.drewN nq = wB := ⟨_, rfl⟩
  rw [hwB]
  have kB : Keeps (fun _ => False) wA wB := by rw [← hwB]; exact (Keeps.refl _ _).drewN _
  have HKB := hid kB
  obtain ⟨⟨z0, z1, z2, z3, zl⟩, ⟨u0, u1, u2, u3, ul⟩⟩ := HCF.out wB kB.up
  clear hwB kB b0 b1 b2 b3 bl x0 x1 x2 x3 xl
  go_wp2_with fail
  refine (HSA.out _ (HKA.out.trans HKB.out)).mono ?_
  rintro e w1 ⟨v5, rfl, hr5, k5⟩
  obtain ⟨p5, c5, hv5⟩ := own_shape hr5
  obtain rfl := hv5
  have HK1 := hid (HKB.out.trans k5)
  obtain ⟨⟨b0, b1, b2, b3, bl⟩, ⟨x0, x1, x2, x3, xl⟩⟩ := HCF.out w1 (HKB.out.trans k5).up
  rw [HN.out]
  clear k5 hr5 z0 z1 z2 z3 zl u0 u1 u2 u3 ul
  go_upto_region 3 with (fail)
  go_cut [7] (fun s7 wx => s7 = .int .i64 N ∧ wx = w1)
  case first =>
    go_wp2_with fail
    all_goals
      go_meet
      refine ⟨?_, rfl⟩
      congr 1
      have hmx := HMAX.out
      omega
  case rest =>
  obtain ⟨rfl, hwc⟩ := hcut
  rw [hwc]
  clear hwc
  go_wp2_with fail
  go_quiet (fail)
  rw [HPA.out, HPB.out]
  obtain ⟨wz, hwz⟩ : ∃ wz, w1.drewN nq = wz := ⟨_, rfl⟩
  rw [hwz]
  have kz : Keeps (fun _ => False) w1 wz := by rw [← hwz]; exact (Keeps.refl _ _).drewN _
  have HKZ := hid (HK1.out.trans kz)
  have HKW := hid (HKA.out.trans (HK1.out.trans kz))
  obtain ⟨⟨z0, z1, z2, z3, zl⟩, ⟨u0, u1, u2, u3, ul⟩⟩ := HCF.out wz (HK1.out.trans kz).up
  clear hwz kz b0 b1 b2 b3 bl x0 x1 x2 x3 xl
  go_wp2_with fail
  have HPS := hid (fun W (hk : Keeps (foot2 LA LM s) wA W) => And.intro (HCF.out W hk).2.1 (HCF.out W hk).1.2.2.2.1)
  have hzw := HKW.out.size; have hzA := HKZ.out.size
  clear z0 z1 z2 z3 zl u0 u1 u2 u3 ul
  go_upto_region 15 with (fail)
  go_cut [12, 13, 14] from 21 (fun s1 s2 s3 wx => ∃ B1 B2, s1 = .pointer (some ⟨B1, 0, none⟩) ∧ s2 = .pointer (some ⟨B2, 0, none⟩) ∧ s3 = .int .i64 R.e ∧ wx.heap[B1]? = some (.cells #[.int .i64 R.was.s, .int .u32 R.was.g] 33) ∧ wx.heap[B2]? = some (.cells #[.int .i64 R.now.s, .int .u32 R.now.g] 33) ∧ w.heap.size ≤ B1 ∧ w.heap.size ≤ B2 ∧ Sy w0 wx p a m LA LM ⟨R.A, s.M⟩ lv ∧ Keeps (foot2 LA LM s) w wx)
  case first =>
    go_region_held3 (fun W => W.cell? ⟨p, 0, none⟩ = some (.pointer (some ⟨a, 0, none⟩)) ∧ W.cell? ⟨w.heap.size, 3, none⟩ = some (.int .u8 x.b))
      ((refine HPS.out _ ?_; (repeat (first | with_reducible exact HKZ.out.up | with_reducible refine Keeps.alloc ?_ _ | with_reducible refine Keeps.drewN ?_ _ | with_reducible refine Keeps.drew ?_ | with_reducible refine Keeps.setCell ?_ (.inr ?_) _ | with_reducible refine Keeps.trans ?_ hk3)) <;> (dsimp only; omega)))
      (first | (go_at_call 103; refine (HA.out _ (by (repeat (first | with_reducible exact HKW.out | with_reducible refine Keeps.drewN ?_ _ | with_reducible refine Keeps.drew ?_ | with_reducible refine Keeps.alloc ?_ _)))).mono ?_; rintro e w3 ⟨rfl, hs3, hk3⟩; dsimp only [Rf.val]; have hkw : Keeps (foot2 LA LM s) w w3 := Keeps.trans (by (repeat (first | with_reducible exact HKW.out.up | with_reducible refine Keeps.drewN ?_ _ | with_reducible refine Keeps.drew ?_ | with_reducible refine Keeps.alloc ?_ _))) hk3; have hks := hkw.size; (first | (have nb := block_keep (show (World.drew ((wz.alloc (.cells #[.int .i64 0, .int .u32 0] 33)).alloc (.cells #[.int .i64 0, .int .u32 0] 33))).heap[wz.heap.size]? = _ from alloc_old alloc_new) hk3 (fun hf => by have := HFL.out _ hf; omega); have nc := block_keep (show (World.drew ((wz.alloc (.cells #[.int .i64 0, .int .u32 0] 33)).alloc (.cells #[.int .i64 0, .int .u32 0] 33))).heap[wz.heap.size + 1]? = _ from alloc_new' (by simp)) hk3 (fun hf => by have := HFL.out _ hf; omega); have nx := cells2 nb; obtain ⟨n0, n1, nf, nl⟩ := nx; have nf0 := nf 0; have nf1 := nf 1; have ny := cells2 nc; obtain ⟨m0, m1, mf, ml⟩ := ny; have mf0 := mf 0; have mf1 := mf 1) | (have nb := block_keep (show (World.drew (wz.alloc (.cells #[.int .i64 0, .int .u32 0] 33))).heap[wz.heap.size]? = _ from alloc_new) hk3 (fun hf => by have := HFL.out _ hf; omega); have nx := cells2 nb; obtain ⟨n0, n1, nf, nl⟩ := nx; have nf0 := nf 0; have nf1 := nf 1) | skip)))
    all_goals
      go_wp2_with fail
      go_meet
      refine ⟨_, _, rfl, rfl, rfl, ?_, ?_, ?_, ?_, ?_, ?_⟩
      · try dsimp only [Ob.arr]
        repeat (first | (with_reducible assumption) | (with_reducible refine alloc_new' ?_; simp; done) | (with_reducible refine alloc_old ?_) | (with_reducible apply fin10) | (with_reducible apply fin2) | (with_reducible refine set_oth2 ?_ ?_; focus (first | (simp; done) | (dsimp only; omega))))
      · try dsimp only [Ob.arr]
        repeat (first | (with_reducible assumption) | (with_reducible refine alloc_new' ?_; simp; done) | (with_reducible refine alloc_old ?_) | (with_reducible apply fin10) | (with_reducible apply fin2) | (with_reducible refine set_oth2 ?_ ?_; focus (first | (simp; done) | (dsimp only; omega))))
      · omega
      · omega
      · refine HF.out _ hs3 ?_
        repeat (first | (with_reducible exact (Keeps.refl _ _)) | with_reducible refine Keeps.setCell ?_ ?_ _ | with_reducible refine Keeps.alloc ?_ _ | with_reducible refine Keeps.drewN ?_ _ | with_reducible refine Keeps.drew ?_)
        all_goals first | (left; simp; done) | (left; simp; omega) | (right; simp; done) | (right; simp; omega)
      · repeat (first | (with_reducible exact hkw) | with_reducible refine Keeps.setCell ?_ ?_ _ | with_reducible refine Keeps.alloc ?_ _ | with_reducible refine Keeps.drewN ?_ _ | with_reducible refine Keeps.drew ?_)
        all_goals first | (left; simp; done) | (left; simp; omega) | (right; simp; done) | (right; simp; omega)
  case rest =>
  obtain ⟨B1, B2, rfl, rfl, rfl, hb1, hb2, hl1, hl2, hs4, hk4⟩ := hcut
  obtain ⟨w4, hw4⟩ : ∃ w4, wc = w4 := ⟨_, rfl⟩
  rw [hw4] at hb1 hb2 hs4 hk4 ⊢
  clear hw4
  have HS4 := hid hs4; have HK4 := hid hk4; have HB1 := hid hb1; have HB2 := hid hb2
  obtain ⟨x0, x1, x2, x3, xl⟩ := cells4 hs4.own
  obtain ⟨y0, y1, _, yl⟩ := cells2 hb1
  obtain ⟨z0, z1, _, zl⟩ := cells2 hb2
  clear hb1 hb2 hs4 hk4
  by_cases he : R.e = 0
  · have he1 : (R.e == 0) = true := by simpa using he
    have HT0 := hid (show (s.M.wroteR mk R.was R.now).1 = T from by have h := HT.out; rwa [if_pos he] at h)
    rw [he]
    have HWR := hid (fun W (hk : Keeps (fun _ => False) w4 W) => (HS4.out.same hk).wrote mk R.was R.now)
    clear he he1
    go_upto_region 17 with (fail)
    go_region_held3 (fun W => W.cell? ⟨p, 1, none⟩ = some (.pointer (some ⟨m, 0, none⟩)) ∧ W.cell? ⟨B1, 0, none⟩ = some (.int .i64 R.was.s) ∧ W.cell? ⟨B1, 1, none⟩ = some (.int .u32 R.was.g) ∧ W.cell? ⟨B2, 0, none⟩ = some (.int .i64 R.now.s) ∧ W.cell? ⟨B2, 1, none⟩ = some (.int .u32 R.now.g))
      ((first | exact ⟨x1, y0, y1, z0, z1⟩ | exact hc6))
      (first | (go_at_call 175; refine (HWR.out _ (Keeps.refl _ _).drew).mono ?_; rintro e w6 ⟨⟨v6, rfl⟩, hs6, hk6⟩; have hc6 : w6.cell? ⟨p, 1, none⟩ = some (.pointer (some ⟨m, 0, none⟩)) ∧ w6.cell? ⟨B1, 0, none⟩ = some (.int .i64 R.was.s) ∧ w6.cell? ⟨B1, 1, none⟩ = some (.int .u32 R.was.g) ∧ w6.cell? ⟨B2, 0, none⟩ = some (.int .i64 R.now.s) ∧ w6.cell? ⟨B2, 1, none⟩ = some (.int .u32 R.now.g) := ⟨(cells4 hs6.own).2.1, (cells2 (block_keep (w := w4.drew) HB1.out hk6 (HFX.out _ hl1))).1, (cells2 (block_keep (w := w4.drew) HB1.out hk6 (HFX.out _ hl1))).2.1, (cells2 (block_keep (w := w4.drew) HB2.out hk6 (HFX.out _ hl2))).1, (cells2 (block_keep (w := w4.drew) HB2.out hk6 (HFX.out _ hl2))).2.1⟩))
    all_goals
      go_wp2_with fail
      go_end0
      exact ⟨rfl, HT0.out ▸ hs6, HK4.out.trans (HFE.out ▸ ((Keeps.refl _ _).drew.trans hk6))⟩
  · have he1 : (R.e == 0) = false := by simpa using he
    have HT0 := hid (show s.M = T from by have h := HT.out; rwa [if_neg he] at h)
    clear he
    go_wp2_with fail
    go_end0
    exact ⟨rfl, HT0.out ▸ HS4.out, HK4.out⟩
end Go.Proofs.YtehmoikbeflkaaaGreat
