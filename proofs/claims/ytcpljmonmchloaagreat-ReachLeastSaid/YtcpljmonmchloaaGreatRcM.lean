/- estraylaw19: moves; the arena that is played. -/
import Derived.Test.YtcpljmonmchloaaGreatRcJ
import Derived.Test.YtcpljmonmchloaaGreatCyA
namespace Go.Proofs.YtcpljmonmchloaaGreat
open Go.RowKit
set_option linter.unusedVariables false
set_option linter.unusedSimpArgs false
variable {N : Nat} {w0 w w' : World} {a : Nat} {L : ArL} {s : Sys}

theorem cells5' {w : World} {b : Nat} {v0 v1 v2 v3 v4 : Value} {t : TypeId} (h : w.heap[b]? = some (.cells #[v0, v1, v2, v3, v4] t)) :
    w.cell? ⟨b, 0, none⟩ = some v0 ∧ w.cell? ⟨b, 1, none⟩ = some v1 ∧ w.cell? ⟨b, 2, none⟩ = some v2 ∧ w.cell? ⟨b, 3, none⟩ = some v3 ∧ w.cell? ⟨b, 4, none⟩ = some v4 :=
  ⟨cell_at h rfl, cell_at h rfl, cell_at h rfl, cell_at h rfl, cell_at h rfl⟩
theorem u8_wrap19 {x : Nat} (h : x < 256) : IntKind.u8.wrap (x : Int) = (x : Int) := IntWalk.u8_in _ (by omega)
theorem Ay.footlt {A : Ar} (h : Ay N w0 w a L A) (y : Nat) (hy : L.foot A.many y) : y < w.heap.size := by
  rcases hy with rfl | rfl | rfl | ⟨k, hk, rfl⟩
  · obtain ⟨c', hc, _⟩ := h.ar.heap.own; exact lt_block hc
  · obtain ⟨c', hc, _⟩ := h.ar.heap.tab; exact lt_block hc
  · obtain ⟨c', hc, _⟩ := h.ar.gl; exact lt_block hc
  · obtain ⟨c', hc, _⟩ := h.ar.st k hk; exact lt_block hc
def Mv.mo19 (x : Mv) (s : Sys) : Mo :=
  match x.kind % 8 with
  | 0 => .make (x.m % 2) (1 + (x.b % 4 : Nat)) false
  | 1 => .make (x.m % 2) (1 + (x.b % 4 : Nat)) false
  | 2 => .load (x.m % 2) (x.a % max (s.A.rt (x.m % 2)).n 1 : Nat) (x.b % 4 : Nat)
  | 3 => .store (x.m % 2) (x.a % max (s.A.rt (x.m % 2)).n 1 : Nat) (x.b % 4 : Nat) ((x.c % ((s.A.rt (x.m % 2)).n + 1) : Nat) - 1)
  | 4 => .store (x.m % 2) (x.a % max (s.A.rt (x.m % 2)).n 1 : Nat) (x.b % 4 : Nat) ((x.c % ((s.A.rt (x.m % 2)).n + 1) : Nat) - 1)
  | 5 => .drop (x.m % 2) (x.a % max (s.A.rt (x.m % 2)).n 1 : Nat)
  | 6 => .put (x.m % 2) (x.a % max (s.A.rt (x.m % 2)).n 1 : Nat) (x.b % 8 : Nat)
  | _ => .get (x.m % 2) (x.b % 8 : Nat)
theorem Mv.who19 (x : Mv) (s : Sys) : (x.mo19 s).who = x.m % 2 := by unfold Mv.mo19; split <;> rfl
set_option maxRecDepth 100000 in
set_option maxHeartbeats 1000000 in
theorem st_drop (x : Mv) (h : Ay N w0 w a L s.A) (hm : s.A.many = 2) (hx : x.Byte) (hk8 : x.kind % 8 = 5) :
    Calls Tryz.prog 45 #[x.val, .pointer (some ⟨a, 0, none⟩)] w fun e w' => e = .returned (.tuple #[]) ∧ Ay N w0 w' a L ((x.mo19 s).doR s).A ∧ Keeps (fun y => L.foot s.A.many y) w w' := by
  have hki : (x.kind : Int) % 8 = 5 := by omega
  obtain ⟨hb0, hb1, hb2, hb3, hb4⟩ := hx
  obtain ⟨mk, hmk⟩ : ∃ mk, x.m % 2 = mk := ⟨_, rfl⟩
  have hmkl : mk < 2 := by omega
  have hi1 : (x.m : Int) % 2 = (mk : Int) := by omega
  have hi2 : (x.m : Int).tmod 2 = (mk : Int) := by rw [Int.tmod_eq_emod_of_nonneg (by omega)]; exact hi1
  have hiw : IntKind.i64.wrap (mk : Int) = (mk : Int) := IntWalk.i64_in _ (by omega)
  have hiu : IntKind.u8.wrap (mk : Int) = (mk : Int) := u8_wrap19 (by omega)
  have HSA := hid (fun W (hk : Keeps (fun _ => False) w W) => astackall_ok a L s.A mk W (h.quiet hk).ar (by rw [hm]; exact hmkl))
  obtain ⟨n, hn⟩ : ∃ n, (s.A.rt mk).l.length = n := ⟨_, rfl⟩
  have hn2 : (s.A.rt mk).n = n := by rw [← hn]; simp [Sk.l]
  have hn32 : n ≤ 32 := by rw [← hn2]; exact (h.ok.rt mk (by rw [hm]; exact hmkl)).1
  obtain ⟨M, hM⟩ : ∃ M, max n 1 = M := ⟨_, rfl⟩
  have hM1 : 1 ≤ M ∧ M ≤ 32 := by omega
  have hmax : max (n : Int) 1 = (M : Int) := by omega
  have hMz : ¬ (M : Int) = 0 := by omega
  have HN := hid hn
  obtain ⟨pa, hpa⟩ : ∃ pa, x.a % M = pa := ⟨_, rfl⟩
  have hpaM : pa < M := by rw [← hpa]; exact Nat.mod_lt _ (by omega)
  have hpa1 : (x.a : Int) % (M : Int) = (pa : Int) := by rw [← hpa]; simp
  have hpa2 : (x.a : Int).tmod (M : Int) = (pa : Int) := by rw [Int.tmod_eq_emod_of_nonneg (by omega)]; exact hpa1
  have hwa : IntKind.i64.wrap (x.a : Int) = (x.a : Int) := IntWalk.i64_in _ (by omega)
  have hwc : IntKind.i64.wrap (x.c : Int) = (x.c : Int) := IntWalk.i64_in _ (by omega)
  have hwp : IntKind.i64.wrap (pa : Int) = (pa : Int) := IntWalk.i64_in _ (by omega)
  obtain ⟨qb, hqb⟩ : ∃ qb, x.b % 4 = qb := ⟨_, rfl⟩
  have hqb8 : qb < 8 := by omega
  have hqb1 : (x.b : Int) % 4 = (qb : Int) := by omega
  have hqb2 : (x.b : Int).tmod 4 = (qb : Int) := by rw [Int.tmod_eq_emod_of_nonneg (by omega)]; exact hqb1
  have hqbw : IntKind.i64.wrap (qb : Int) = (qb : Int) := IntWalk.i64_in _ (by omega)
  have hqbu : IntKind.u8.wrap (qb : Int) = (qb : Int) := u8_wrap19 (by omega)
  obtain ⟨pc, hpc⟩ : ∃ pc, x.c % (n + 1) = pc := ⟨_, rfl⟩
  have hpcn : pc < n + 1 := by rw [← hpc]; exact Nat.mod_lt _ (by omega)
  have hn1 : ¬ ((n : Int) + 1) = 0 := by omega
  have hnw : IntKind.i64.wrap ((n : Int) + 1) = (n : Int) + 1 := IntWalk.i64_in _ (by omega)
  have hpc1 : (x.c : Int) % ((n : Int) + 1) = (pc : Int) := by rw [← hpc]; simp
  have hpc2 : (x.c : Int).tmod ((n : Int) + 1) = (pc : Int) := by rw [Int.tmod_eq_emod_of_nonneg (by omega)]; exact hpc1
  have hpcw : IntKind.i64.wrap ((pc : Int) - 1) = (pc : Int) - 1 := IntWalk.i64_in _ (by omega)
  have hmo : x.mo19 s = (match x.kind % 8 with
    | 0 => .make mk (1 + (x.b % 4 : Nat)) false
    | 1 => .make mk (1 + (x.b % 4 : Nat)) false
    | 2 => .load mk pa (x.b % 4 : Nat)
    | 3 => .store mk pa (x.b % 4 : Nat) ((pc : Nat) - 1)
    | 4 => .store mk pa (x.b % 4 : Nat) ((pc : Nat) - 1)
    | 5 => .drop mk pa
    | 6 => .put mk pa (x.b % 8 : Nat)
    | _ => .get mk (x.b % 8 : Nat)) := by
    unfold Mv.mo19
    rw [hmk, hn2, hM, hpa, hpc]
    all_goals rfl
  obtain ⟨wA, hwA⟩ : ∃ wA, w.alloc (.cells #[.int .u8 x.kind, .int .u8 x.m, .int .u8 x.a, .int .u8 x.b, .int .u8 x.c] 89) = wA := ⟨_, rfl⟩
  have kA : Keeps (fun _ => False) w wA := by rw [← hwA]; exact (Keeps.refl _ _).alloc _
  have qA : wA.heap[w.heap.size]? = some (.cells #[.int .u8 x.kind, .int .u8 x.m, .int .u8 x.a, .int .u8 x.b, .int .u8 x.c] 89) := by rw [← hwA]; exact alloc_new
  have HKA := hid kA; have HWA := hid hwA; have HH := hid h
  have HCF := hid (fun W (hk : Keeps (fun _ => False) wA W) => cells5' (block_keep qA hk (fun h => h)))
  have hfl := h.footlt
  have HCG := hid (fun W (hk : Keeps (fun y => L.foot s.A.many y) wA W) => cells5' (block_keep qA hk (fun hf => by have := hfl _ hf; omega)))
  have hw0 := lt_block qA
  obtain ⟨b0, b1, b2, b3, b4⟩ := HCF.out wA (Keeps.refl _ _)
  clear hfl hwA kA qA hn hn2 hM hpa hpc hb0 hb1 hb2 hb3 hb4 hmk
  have hmo' : ((x.mo19 s).doR s).A = (s.A.dropR mk pa).A := by rw [hmo, hk8]; rfl
  rw [hmo']
  have HA := hid (fun W (hk : Keeps (fun _ => False) w W) => (HH.out.quiet hk).drop mk pa)
  clear hmo'
  clear hmo hk8 hqb h
  unfold Mv.val
  go_enter Tryz.func45, Tryz.ntmps45
  go_wp2_with fail
  rw [HWA.out]
  go_wp2_with fail
  refine (HSA.out _ HKA.out).mono ?_
  rintro e w1 ⟨v5, rfl, hr5, k5⟩
  obtain ⟨p5, c5, hv5⟩ := own_shape hr5
  obtain rfl := hv5
  have HK1 := hid k5
  have HKW := hid (HKA.out.trans k5)
  clear b0 b1 b2 b3 b4
  obtain ⟨b0, b1, b2, b3, b4⟩ := HCF.out w1 k5
  rw [HN.out]
  clear k5 hr5
  go_wp2_with fail
  refine (HA.out _ HKW.out).mono ?_
  rintro e w3 ⟨rfl, hs3, hk3⟩
  have HS3 := hid hs3
  have HK3 := hid (HKW.out.up.trans hk3)
  clear hs3 hk3
  go_wp2_with fail
  go_end0
  exact ⟨rfl, HS3.out, HK3.out⟩
set_option maxRecDepth 100000 in
set_option maxHeartbeats 1000000 in
theorem st_make0 (x : Mv) (h : Ay N w0 w a L s.A) (hm : s.A.many = 2) (hx : x.Byte) (hk8 : x.kind % 8 = 0) :
    Calls Tryz.prog 45 #[x.val, .pointer (some ⟨a, 0, none⟩)] w fun e w' => e = .returned (.tuple #[]) ∧ Ay N w0 w' a L ((x.mo19 s).doR s).A ∧ Keeps (fun y => L.foot s.A.many y) w w' := by
  have hki : (x.kind : Int) % 8 = 0 := by omega
  obtain ⟨hb0, hb1, hb2, hb3, hb4⟩ := hx
  obtain ⟨mk, hmk⟩ : ∃ mk, x.m % 2 = mk := ⟨_, rfl⟩
  have hmkl : mk < 2 := by omega
  have hi1 : (x.m : Int) % 2 = (mk : Int) := by omega
  have hi2 : (x.m : Int).tmod 2 = (mk : Int) := by rw [Int.tmod_eq_emod_of_nonneg (by omega)]; exact hi1
  have hiw : IntKind.i64.wrap (mk : Int) = (mk : Int) := IntWalk.i64_in _ (by omega)
  have hiu : IntKind.u8.wrap (mk : Int) = (mk : Int) := u8_wrap19 (by omega)
  have HSA := hid (fun W (hk : Keeps (fun _ => False) w W) => astackall_ok a L s.A mk W (h.quiet hk).ar (by rw [hm]; exact hmkl))
  obtain ⟨n, hn⟩ : ∃ n, (s.A.rt mk).l.length = n := ⟨_, rfl⟩
  have hn2 : (s.A.rt mk).n = n := by rw [← hn]; simp [Sk.l]
  have hn32 : n ≤ 32 := by rw [← hn2]; exact (h.ok.rt mk (by rw [hm]; exact hmkl)).1
  obtain ⟨M, hM⟩ : ∃ M, max n 1 = M := ⟨_, rfl⟩
  have hM1 : 1 ≤ M ∧ M ≤ 32 := by omega
  have hmax : max (n : Int) 1 = (M : Int) := by omega
  have hMz : ¬ (M : Int) = 0 := by omega
  have HN := hid hn
  obtain ⟨pa, hpa⟩ : ∃ pa, x.a % M = pa := ⟨_, rfl⟩
  have hpaM : pa < M := by rw [← hpa]; exact Nat.mod_lt _ (by omega)
  have hpa1 : (x.a : Int) % (M : Int) = (pa : Int) := by rw [← hpa]; simp
  have hpa2 : (x.a : Int).tmod (M : Int) = (pa : Int) := by rw [Int.tmod_eq_emod_of_nonneg (by omega)]; exact hpa1
  have hwa : IntKind.i64.wrap (x.a : Int) = (x.a : Int) := IntWalk.i64_in _ (by omega)
  have hwc : IntKind.i64.wrap (x.c : Int) = (x.c : Int) := IntWalk.i64_in _ (by omega)
  have hwp : IntKind.i64.wrap (pa : Int) = (pa : Int) := IntWalk.i64_in _ (by omega)
  obtain ⟨qb, hqb⟩ : ∃ qb, x.b % 4 = qb := ⟨_, rfl⟩
  have hqb8 : qb < 8 := by omega
  have hqb1 : (x.b : Int) % 4 = (qb : Int) := by omega
  have hqb2 : (x.b : Int).tmod 4 = (qb : Int) := by rw [Int.tmod_eq_emod_of_nonneg (by omega)]; exact hqb1
  have hqbw : IntKind.i64.wrap (qb : Int) = (qb : Int) := IntWalk.i64_in _ (by omega)
  have hqbu : IntKind.u8.wrap (qb : Int) = (qb : Int) := u8_wrap19 (by omega)
  obtain ⟨pc, hpc⟩ : ∃ pc, x.c % (n + 1) = pc := ⟨_, rfl⟩
  have hpcn : pc < n + 1 := by rw [← hpc]; exact Nat.mod_lt _ (by omega)
  have hn1 : ¬ ((n : Int) + 1) = 0 := by omega
  have hnw : IntKind.i64.wrap ((n : Int) + 1) = (n : Int) + 1 := IntWalk.i64_in _ (by omega)
  have hpc1 : (x.c : Int) % ((n : Int) + 1) = (pc : Int) := by rw [← hpc]; simp
  have hpc2 : (x.c : Int).tmod ((n : Int) + 1) = (pc : Int) := by rw [Int.tmod_eq_emod_of_nonneg (by omega)]; exact hpc1
  have hpcw : IntKind.i64.wrap ((pc : Int) - 1) = (pc : Int) - 1 := IntWalk.i64_in _ (by omega)
  have hmo : x.mo19 s = (match x.kind % 8 with
    | 0 => .make mk (1 + (x.b % 4 : Nat)) false
    | 1 => .make mk (1 + (x.b % 4 : Nat)) false
    | 2 => .load mk pa (x.b % 4 : Nat)
    | 3 => .store mk pa (x.b % 4 : Nat) ((pc : Nat) - 1)
    | 4 => .store mk pa (x.b % 4 : Nat) ((pc : Nat) - 1)
    | 5 => .drop mk pa
    | 6 => .put mk pa (x.b % 8 : Nat)
    | _ => .get mk (x.b % 8 : Nat)) := by
    unfold Mv.mo19
    rw [hmk, hn2, hM, hpa, hpc]
    all_goals rfl
  obtain ⟨wA, hwA⟩ : ∃ wA, w.alloc (.cells #[.int .u8 x.kind, .int .u8 x.m, .int .u8 x.a, .int .u8 x.b, .int .u8 x.c] 89) = wA := ⟨_, rfl⟩
  have kA : Keeps (fun _ => False) w wA := by rw [← hwA]; exact (Keeps.refl _ _).alloc _
  have qA : wA.heap[w.heap.size]? = some (.cells #[.int .u8 x.kind, .int .u8 x.m, .int .u8 x.a, .int .u8 x.b, .int .u8 x.c] 89) := by rw [← hwA]; exact alloc_new
  have HKA := hid kA; have HWA := hid hwA; have HH := hid h
  have HCF := hid (fun W (hk : Keeps (fun _ => False) wA W) => cells5' (block_keep qA hk (fun h => h)))
  have hfl := h.footlt
  have HCG := hid (fun W (hk : Keeps (fun y => L.foot s.A.many y) wA W) => cells5' (block_keep qA hk (fun hf => by have := hfl _ hf; omega)))
  have hw0 := lt_block qA
  obtain ⟨b0, b1, b2, b3, b4⟩ := HCF.out wA (Keeps.refl _ _)
  clear hfl hwA kA qA hn hn2 hM hpa hpc hb0 hb1 hb2 hb3 hb4 hmk
  have hmo' : ((x.mo19 s).doR s).A = (s.A.makeR mk (1 + (qb : Nat)) false).A := by rw [hmo, hk8, hqb]; rfl
  rw [hmo']
  have HA := hid (fun W (hk : Keeps (fun _ => False) w W) => (HH.out.quiet hk).make mk (1 + (qb : Nat)) false)
  clear hmo'
  have hqw : IntKind.i64.wrap (1 + (qb : Int)) = 1 + (qb : Int) := IntWalk.i64_in _ (by omega)
  clear hmo hk8 hqb h
  unfold Mv.val
  go_enter Tryz.func45, Tryz.ntmps45
  go_wp2_with fail
  rw [HWA.out]
  go_wp2_with fail
  refine (HSA.out _ HKA.out).mono ?_
  rintro e w1 ⟨v5, rfl, hr5, k5⟩
  obtain ⟨p5, c5, hv5⟩ := own_shape hr5
  obtain rfl := hv5
  have HK1 := hid k5
  have HKW := hid (HKA.out.trans k5)
  clear b0 b1 b2 b3 b4
  obtain ⟨b0, b1, b2, b3, b4⟩ := HCF.out w1 k5
  rw [HN.out]
  clear k5 hr5
  go_wp2_with fail
  refine (HA.out _ HKW.out).mono ?_
  rintro e w3 ⟨rfl, hs3, hk3⟩
  have HS3 := hid hs3
  have HK3 := hid (HKW.out.up.trans hk3)
  clear hs3 hk3
  go_wp2_with fail
  go_end0
  exact ⟨rfl, HS3.out, HK3.out⟩
set_option maxRecDepth 100000 in
set_option maxHeartbeats 1000000 in
theorem st_make1 (x : Mv) (h : Ay N w0 w a L s.A) (hm : s.A.many = 2) (hx : x.Byte) (hk8 : x.kind % 8 = 1) :
    Calls Tryz.prog 45 #[x.val, .pointer (some ⟨a, 0, none⟩)] w fun e w' => e = .returned (.tuple #[]) ∧ Ay N w0 w' a L ((x.mo19 s).doR s).A ∧ Keeps (fun y => L.foot s.A.many y) w w' := by
  have hki : (x.kind : Int) % 8 = 1 := by omega
  obtain ⟨hb0, hb1, hb2, hb3, hb4⟩ := hx
  obtain ⟨mk, hmk⟩ : ∃ mk, x.m % 2 = mk := ⟨_, rfl⟩
  have hmkl : mk < 2 := by omega
  have hi1 : (x.m : Int) % 2 = (mk : Int) := by omega
  have hi2 : (x.m : Int).tmod 2 = (mk : Int) := by rw [Int.tmod_eq_emod_of_nonneg (by omega)]; exact hi1
  have hiw : IntKind.i64.wrap (mk : Int) = (mk : Int) := IntWalk.i64_in _ (by omega)
  have hiu : IntKind.u8.wrap (mk : Int) = (mk : Int) := u8_wrap19 (by omega)
  have HSA := hid (fun W (hk : Keeps (fun _ => False) w W) => astackall_ok a L s.A mk W (h.quiet hk).ar (by rw [hm]; exact hmkl))
  obtain ⟨n, hn⟩ : ∃ n, (s.A.rt mk).l.length = n := ⟨_, rfl⟩
  have hn2 : (s.A.rt mk).n = n := by rw [← hn]; simp [Sk.l]
  have hn32 : n ≤ 32 := by rw [← hn2]; exact (h.ok.rt mk (by rw [hm]; exact hmkl)).1
  obtain ⟨M, hM⟩ : ∃ M, max n 1 = M := ⟨_, rfl⟩
  have hM1 : 1 ≤ M ∧ M ≤ 32 := by omega
  have hmax : max (n : Int) 1 = (M : Int) := by omega
  have hMz : ¬ (M : Int) = 0 := by omega
  have HN := hid hn
  obtain ⟨pa, hpa⟩ : ∃ pa, x.a % M = pa := ⟨_, rfl⟩
  have hpaM : pa < M := by rw [← hpa]; exact Nat.mod_lt _ (by omega)
  have hpa1 : (x.a : Int) % (M : Int) = (pa : Int) := by rw [← hpa]; simp
  have hpa2 : (x.a : Int).tmod (M : Int) = (pa : Int) := by rw [Int.tmod_eq_emod_of_nonneg (by omega)]; exact hpa1
  have hwa : IntKind.i64.wrap (x.a : Int) = (x.a : Int) := IntWalk.i64_in _ (by omega)
  have hwc : IntKind.i64.wrap (x.c : Int) = (x.c : Int) := IntWalk.i64_in _ (by omega)
  have hwp : IntKind.i64.wrap (pa : Int) = (pa : Int) := IntWalk.i64_in _ (by omega)
  obtain ⟨qb, hqb⟩ : ∃ qb, x.b % 4 = qb := ⟨_, rfl⟩
  have hqb8 : qb < 8 := by omega
  have hqb1 : (x.b : Int) % 4 = (qb : Int) := by omega
  have hqb2 : (x.b : Int).tmod 4 = (qb : Int) := by rw [Int.tmod_eq_emod_of_nonneg (by omega)]; exact hqb1
  have hqbw : IntKind.i64.wrap (qb : Int) = (qb : Int) := IntWalk.i64_in _ (by omega)
  have hqbu : IntKind.u8.wrap (qb : Int) = (qb : Int) := u8_wrap19 (by omega)
  obtain ⟨pc, hpc⟩ : ∃ pc, x.c % (n + 1) = pc := ⟨_, rfl⟩
  have hpcn : pc < n + 1 := by rw [← hpc]; exact Nat.mod_lt _ (by omega)
  have hn1 : ¬ ((n : Int) + 1) = 0 := by omega
  have hnw : IntKind.i64.wrap ((n : Int) + 1) = (n : Int) + 1 := IntWalk.i64_in _ (by omega)
  have hpc1 : (x.c : Int) % ((n : Int) + 1) = (pc : Int) := by rw [← hpc]; simp
  have hpc2 : (x.c : Int).tmod ((n : Int) + 1) = (pc : Int) := by rw [Int.tmod_eq_emod_of_nonneg (by omega)]; exact hpc1
  have hpcw : IntKind.i64.wrap ((pc : Int) - 1) = (pc : Int) - 1 := IntWalk.i64_in _ (by omega)
  have hmo : x.mo19 s = (match x.kind % 8 with
    | 0 => .make mk (1 + (x.b % 4 : Nat)) false
    | 1 => .make mk (1 + (x.b % 4 : Nat)) false
    | 2 => .load mk pa (x.b % 4 : Nat)
    | 3 => .store mk pa (x.b % 4 : Nat) ((pc : Nat) - 1)
    | 4 => .store mk pa (x.b % 4 : Nat) ((pc : Nat) - 1)
    | 5 => .drop mk pa
    | 6 => .put mk pa (x.b % 8 : Nat)
    | _ => .get mk (x.b % 8 : Nat)) := by
    unfold Mv.mo19
    rw [hmk, hn2, hM, hpa, hpc]
    all_goals rfl
  obtain ⟨wA, hwA⟩ : ∃ wA, w.alloc (.cells #[.int .u8 x.kind, .int .u8 x.m, .int .u8 x.a, .int .u8 x.b, .int .u8 x.c] 89) = wA := ⟨_, rfl⟩
  have kA : Keeps (fun _ => False) w wA := by rw [← hwA]; exact (Keeps.refl _ _).alloc _
  have qA : wA.heap[w.heap.size]? = some (.cells #[.int .u8 x.kind, .int .u8 x.m, .int .u8 x.a, .int .u8 x.b, .int .u8 x.c] 89) := by rw [← hwA]; exact alloc_new
  have HKA := hid kA; have HWA := hid hwA; have HH := hid h
  have HCF := hid (fun W (hk : Keeps (fun _ => False) wA W) => cells5' (block_keep qA hk (fun h => h)))
  have hfl := h.footlt
  have HCG := hid (fun W (hk : Keeps (fun y => L.foot s.A.many y) wA W) => cells5' (block_keep qA hk (fun hf => by have := hfl _ hf; omega)))
  have hw0 := lt_block qA
  obtain ⟨b0, b1, b2, b3, b4⟩ := HCF.out wA (Keeps.refl _ _)
  clear hfl hwA kA qA hn hn2 hM hpa hpc hb0 hb1 hb2 hb3 hb4 hmk
  have hmo' : ((x.mo19 s).doR s).A = (s.A.makeR mk (1 + (qb : Nat)) false).A := by rw [hmo, hk8, hqb]; rfl
  rw [hmo']
  have HA := hid (fun W (hk : Keeps (fun _ => False) w W) => (HH.out.quiet hk).make mk (1 + (qb : Nat)) false)
  clear hmo'
  have hqw : IntKind.i64.wrap (1 + (qb : Int)) = 1 + (qb : Int) := IntWalk.i64_in _ (by omega)
  clear hmo hk8 hqb h
  unfold Mv.val
  go_enter Tryz.func45, Tryz.ntmps45
  go_wp2_with fail
  rw [HWA.out]
  go_wp2_with fail
  refine (HSA.out _ HKA.out).mono ?_
  rintro e w1 ⟨v5, rfl, hr5, k5⟩
  obtain ⟨p5, c5, hv5⟩ := own_shape hr5
  obtain rfl := hv5
  have HK1 := hid k5
  have HKW := hid (HKA.out.trans k5)
  clear b0 b1 b2 b3 b4
  obtain ⟨b0, b1, b2, b3, b4⟩ := HCF.out w1 k5
  rw [HN.out]
  clear k5 hr5
  go_wp2_with fail
  refine (HA.out _ HKW.out).mono ?_
  rintro e w3 ⟨rfl, hs3, hk3⟩
  have HS3 := hid hs3
  have HK3 := hid (HKW.out.up.trans hk3)
  clear hs3 hk3
  go_wp2_with fail
  go_end0
  exact ⟨rfl, HS3.out, HK3.out⟩
set_option maxRecDepth 100000 in
set_option maxHeartbeats 1000000 in
theorem st_load (x : Mv) (h : Ay N w0 w a L s.A) (hm : s.A.many = 2) (hx : x.Byte) (hk8 : x.kind % 8 = 2) :
    Calls Tryz.prog 45 #[x.val, .pointer (some ⟨a, 0, none⟩)] w fun e w' => e = .returned (.tuple #[]) ∧ Ay N w0 w' a L ((x.mo19 s).doR s).A ∧ Keeps (fun y => L.foot s.A.many y) w w' := by
  have hki : (x.kind : Int) % 8 = 2 := by omega
  obtain ⟨hb0, hb1, hb2, hb3, hb4⟩ := hx
  obtain ⟨mk, hmk⟩ : ∃ mk, x.m % 2 = mk := ⟨_, rfl⟩
  have hmkl : mk < 2 := by omega
  have hi1 : (x.m : Int) % 2 = (mk : Int) := by omega
  have hi2 : (x.m : Int).tmod 2 = (mk : Int) := by rw [Int.tmod_eq_emod_of_nonneg (by omega)]; exact hi1
  have hiw : IntKind.i64.wrap (mk : Int) = (mk : Int) := IntWalk.i64_in _ (by omega)
  have hiu : IntKind.u8.wrap (mk : Int) = (mk : Int) := u8_wrap19 (by omega)
  have HSA := hid (fun W (hk : Keeps (fun _ => False) w W) => astackall_ok a L s.A mk W (h.quiet hk).ar (by rw [hm]; exact hmkl))
  obtain ⟨n, hn⟩ : ∃ n, (s.A.rt mk).l.length = n := ⟨_, rfl⟩
  have hn2 : (s.A.rt mk).n = n := by rw [← hn]; simp [Sk.l]
  have hn32 : n ≤ 32 := by rw [← hn2]; exact (h.ok.rt mk (by rw [hm]; exact hmkl)).1
  obtain ⟨M, hM⟩ : ∃ M, max n 1 = M := ⟨_, rfl⟩
  have hM1 : 1 ≤ M ∧ M ≤ 32 := by omega
  have hmax : max (n : Int) 1 = (M : Int) := by omega
  have hMz : ¬ (M : Int) = 0 := by omega
  have HN := hid hn
  obtain ⟨pa, hpa⟩ : ∃ pa, x.a % M = pa := ⟨_, rfl⟩
  have hpaM : pa < M := by rw [← hpa]; exact Nat.mod_lt _ (by omega)
  have hpa1 : (x.a : Int) % (M : Int) = (pa : Int) := by rw [← hpa]; simp
  have hpa2 : (x.a : Int).tmod (M : Int) = (pa : Int) := by rw [Int.tmod_eq_emod_of_nonneg (by omega)]; exact hpa1
  have hwa : IntKind.i64.wrap (x.a : Int) = (x.a : Int) := IntWalk.i64_in _ (by omega)
  have hwc : IntKind.i64.wrap (x.c : Int) = (x.c : Int) := IntWalk.i64_in _ (by omega)
  have hwp : IntKind.i64.wrap (pa : Int) = (pa : Int) := IntWalk.i64_in _ (by omega)
  obtain ⟨qb, hqb⟩ : ∃ qb, x.b % 4 = qb := ⟨_, rfl⟩
  have hqb8 : qb < 8 := by omega
  have hqb1 : (x.b : Int) % 4 = (qb : Int) := by omega
  have hqb2 : (x.b : Int).tmod 4 = (qb : Int) := by rw [Int.tmod_eq_emod_of_nonneg (by omega)]; exact hqb1
  have hqbw : IntKind.i64.wrap (qb : Int) = (qb : Int) := IntWalk.i64_in _ (by omega)
  have hqbu : IntKind.u8.wrap (qb : Int) = (qb : Int) := u8_wrap19 (by omega)
  obtain ⟨pc, hpc⟩ : ∃ pc, x.c % (n + 1) = pc := ⟨_, rfl⟩
  have hpcn : pc < n + 1 := by rw [← hpc]; exact Nat.mod_lt _ (by omega)
  have hn1 : ¬ ((n : Int) + 1) = 0 := by omega
  have hnw : IntKind.i64.wrap ((n : Int) + 1) = (n : Int) + 1 := IntWalk.i64_in _ (by omega)
  have hpc1 : (x.c : Int) % ((n : Int) + 1) = (pc : Int) := by rw [← hpc]; simp
  have hpc2 : (x.c : Int).tmod ((n : Int) + 1) = (pc : Int) := by rw [Int.tmod_eq_emod_of_nonneg (by omega)]; exact hpc1
  have hpcw : IntKind.i64.wrap ((pc : Int) - 1) = (pc : Int) - 1 := IntWalk.i64_in _ (by omega)
  have hmo : x.mo19 s = (match x.kind % 8 with
    | 0 => .make mk (1 + (x.b % 4 : Nat)) false
    | 1 => .make mk (1 + (x.b % 4 : Nat)) false
    | 2 => .load mk pa (x.b % 4 : Nat)
    | 3 => .store mk pa (x.b % 4 : Nat) ((pc : Nat) - 1)
    | 4 => .store mk pa (x.b % 4 : Nat) ((pc : Nat) - 1)
    | 5 => .drop mk pa
    | 6 => .put mk pa (x.b % 8 : Nat)
    | _ => .get mk (x.b % 8 : Nat)) := by
    unfold Mv.mo19
    rw [hmk, hn2, hM, hpa, hpc]
    all_goals rfl
  obtain ⟨wA, hwA⟩ : ∃ wA, w.alloc (.cells #[.int .u8 x.kind, .int .u8 x.m, .int .u8 x.a, .int .u8 x.b, .int .u8 x.c] 89) = wA := ⟨_, rfl⟩
  have kA : Keeps (fun _ => False) w wA := by rw [← hwA]; exact (Keeps.refl _ _).alloc _
  have qA : wA.heap[w.heap.size]? = some (.cells #[.int .u8 x.kind, .int .u8 x.m, .int .u8 x.a, .int .u8 x.b, .int .u8 x.c] 89) := by rw [← hwA]; exact alloc_new
  have HKA := hid kA; have HWA := hid hwA; have HH := hid h
  have HCF := hid (fun W (hk : Keeps (fun _ => False) wA W) => cells5' (block_keep qA hk (fun h => h)))
  have hfl := h.footlt
  have HCG := hid (fun W (hk : Keeps (fun y => L.foot s.A.many y) wA W) => cells5' (block_keep qA hk (fun hf => by have := hfl _ hf; omega)))
  have hw0 := lt_block qA
  obtain ⟨b0, b1, b2, b3, b4⟩ := HCF.out wA (Keeps.refl _ _)
  clear hfl hwA kA qA hn hn2 hM hpa hpc hb0 hb1 hb2 hb3 hb4 hmk
  have hmo' : ((x.mo19 s).doR s).A = (s.A.loadR mk pa qb).A := by rw [hmo, hk8, hqb]; rfl
  rw [hmo']
  have HA := hid (fun W (hk : Keeps (fun _ => False) w W) => (HH.out.quiet hk).load mk pa qb)
  clear hmo'
  clear hmo hk8 hqb h
  unfold Mv.val
  go_enter Tryz.func45, Tryz.ntmps45
  go_wp2_with fail
  rw [HWA.out]
  go_wp2_with fail
  refine (HSA.out _ HKA.out).mono ?_
  rintro e w1 ⟨v5, rfl, hr5, k5⟩
  obtain ⟨p5, c5, hv5⟩ := own_shape hr5
  obtain rfl := hv5
  have HK1 := hid k5
  have HKW := hid (HKA.out.trans k5)
  clear b0 b1 b2 b3 b4
  obtain ⟨b0, b1, b2, b3, b4⟩ := HCF.out w1 k5
  rw [HN.out]
  clear k5 hr5
  go_wp2_with fail
  refine (HA.out _ HKW.out).mono ?_
  rintro e w3 ⟨rfl, hs3, hk3⟩
  have HS3 := hid hs3
  have HK3 := hid (HKW.out.up.trans hk3)
  clear hs3 hk3
  go_wp2_with fail
  go_end0
  exact ⟨rfl, HS3.out, HK3.out⟩
set_option maxRecDepth 100000 in
set_option maxHeartbeats 1000000 in
theorem st_put (x : Mv) (h : Ay N w0 w a L s.A) (hm : s.A.many = 2) (hx : x.Byte) (hk8 : x.kind % 8 = 6) :
    Calls Tryz.prog 45 #[x.val, .pointer (some ⟨a, 0, none⟩)] w fun e w' => e = .returned (.tuple #[]) ∧ Ay N w0 w' a L ((x.mo19 s).doR s).A ∧ Keeps (fun y => L.foot s.A.many y) w w' := by
  have hki : (x.kind : Int) % 8 = 6 := by omega
  obtain ⟨hb0, hb1, hb2, hb3, hb4⟩ := hx
  obtain ⟨mk, hmk⟩ : ∃ mk, x.m % 2 = mk := ⟨_, rfl⟩
  have hmkl : mk < 2 := by omega
  have hi1 : (x.m : Int) % 2 = (mk : Int) := by omega
  have hi2 : (x.m : Int).tmod 2 = (mk : Int) := by rw [Int.tmod_eq_emod_of_nonneg (by omega)]; exact hi1
  have hiw : IntKind.i64.wrap (mk : Int) = (mk : Int) := IntWalk.i64_in _ (by omega)
  have hiu : IntKind.u8.wrap (mk : Int) = (mk : Int) := u8_wrap19 (by omega)
  have HSA := hid (fun W (hk : Keeps (fun _ => False) w W) => astackall_ok a L s.A mk W (h.quiet hk).ar (by rw [hm]; exact hmkl))
  obtain ⟨n, hn⟩ : ∃ n, (s.A.rt mk).l.length = n := ⟨_, rfl⟩
  have hn2 : (s.A.rt mk).n = n := by rw [← hn]; simp [Sk.l]
  have hn32 : n ≤ 32 := by rw [← hn2]; exact (h.ok.rt mk (by rw [hm]; exact hmkl)).1
  obtain ⟨M, hM⟩ : ∃ M, max n 1 = M := ⟨_, rfl⟩
  have hM1 : 1 ≤ M ∧ M ≤ 32 := by omega
  have hmax : max (n : Int) 1 = (M : Int) := by omega
  have hMz : ¬ (M : Int) = 0 := by omega
  have HN := hid hn
  obtain ⟨pa, hpa⟩ : ∃ pa, x.a % M = pa := ⟨_, rfl⟩
  have hpaM : pa < M := by rw [← hpa]; exact Nat.mod_lt _ (by omega)
  have hpa1 : (x.a : Int) % (M : Int) = (pa : Int) := by rw [← hpa]; simp
  have hpa2 : (x.a : Int).tmod (M : Int) = (pa : Int) := by rw [Int.tmod_eq_emod_of_nonneg (by omega)]; exact hpa1
  have hwa : IntKind.i64.wrap (x.a : Int) = (x.a : Int) := IntWalk.i64_in _ (by omega)
  have hwc : IntKind.i64.wrap (x.c : Int) = (x.c : Int) := IntWalk.i64_in _ (by omega)
  have hwp : IntKind.i64.wrap (pa : Int) = (pa : Int) := IntWalk.i64_in _ (by omega)
  obtain ⟨qb, hqb⟩ : ∃ qb, x.b % 8 = qb := ⟨_, rfl⟩
  have hqb8 : qb < 8 := by omega
  have hqb1 : (x.b : Int) % 8 = (qb : Int) := by omega
  have hqb2 : (x.b : Int).tmod 8 = (qb : Int) := by rw [Int.tmod_eq_emod_of_nonneg (by omega)]; exact hqb1
  have hqbw : IntKind.i64.wrap (qb : Int) = (qb : Int) := IntWalk.i64_in _ (by omega)
  have hqbu : IntKind.u8.wrap (qb : Int) = (qb : Int) := u8_wrap19 (by omega)
  obtain ⟨pc, hpc⟩ : ∃ pc, x.c % (n + 1) = pc := ⟨_, rfl⟩
  have hpcn : pc < n + 1 := by rw [← hpc]; exact Nat.mod_lt _ (by omega)
  have hn1 : ¬ ((n : Int) + 1) = 0 := by omega
  have hnw : IntKind.i64.wrap ((n : Int) + 1) = (n : Int) + 1 := IntWalk.i64_in _ (by omega)
  have hpc1 : (x.c : Int) % ((n : Int) + 1) = (pc : Int) := by rw [← hpc]; simp
  have hpc2 : (x.c : Int).tmod ((n : Int) + 1) = (pc : Int) := by rw [Int.tmod_eq_emod_of_nonneg (by omega)]; exact hpc1
  have hpcw : IntKind.i64.wrap ((pc : Int) - 1) = (pc : Int) - 1 := IntWalk.i64_in _ (by omega)
  have hmo : x.mo19 s = (match x.kind % 8 with
    | 0 => .make mk (1 + (x.b % 4 : Nat)) false
    | 1 => .make mk (1 + (x.b % 4 : Nat)) false
    | 2 => .load mk pa (x.b % 4 : Nat)
    | 3 => .store mk pa (x.b % 4 : Nat) ((pc : Nat) - 1)
    | 4 => .store mk pa (x.b % 4 : Nat) ((pc : Nat) - 1)
    | 5 => .drop mk pa
    | 6 => .put mk pa (x.b % 8 : Nat)
    | _ => .get mk (x.b % 8 : Nat)) := by
    unfold Mv.mo19
    rw [hmk, hn2, hM, hpa, hpc]
    all_goals rfl
  obtain ⟨wA, hwA⟩ : ∃ wA, w.alloc (.cells #[.int .u8 x.kind, .int .u8 x.m, .int .u8 x.a, .int .u8 x.b, .int .u8 x.c] 89) = wA := ⟨_, rfl⟩
  have kA : Keeps (fun _ => False) w wA := by rw [← hwA]; exact (Keeps.refl _ _).alloc _
  have qA : wA.heap[w.heap.size]? = some (.cells #[.int .u8 x.kind, .int .u8 x.m, .int .u8 x.a, .int .u8 x.b, .int .u8 x.c] 89) := by rw [← hwA]; exact alloc_new
  have HKA := hid kA; have HWA := hid hwA; have HH := hid h
  have HCF := hid (fun W (hk : Keeps (fun _ => False) wA W) => cells5' (block_keep qA hk (fun h => h)))
  have hfl := h.footlt
  have HCG := hid (fun W (hk : Keeps (fun y => L.foot s.A.many y) wA W) => cells5' (block_keep qA hk (fun hf => by have := hfl _ hf; omega)))
  have hw0 := lt_block qA
  obtain ⟨b0, b1, b2, b3, b4⟩ := HCF.out wA (Keeps.refl _ _)
  clear hfl hwA kA qA hn hn2 hM hpa hpc hb0 hb1 hb2 hb3 hb4 hmk
  have hmo' : ((x.mo19 s).doR s).A = (s.A.putR mk pa qb).A := by rw [hmo, hk8, hqb]; rfl
  rw [hmo']
  have HA := hid (fun W (hk : Keeps (fun _ => False) w W) => (HH.out.quiet hk).put mk pa qb)
  clear hmo'
  clear hmo hk8 hqb h
  unfold Mv.val
  go_enter Tryz.func45, Tryz.ntmps45
  go_wp2_with fail
  rw [HWA.out]
  go_wp2_with fail
  refine (HSA.out _ HKA.out).mono ?_
  rintro e w1 ⟨v5, rfl, hr5, k5⟩
  obtain ⟨p5, c5, hv5⟩ := own_shape hr5
  obtain rfl := hv5
  have HK1 := hid k5
  have HKW := hid (HKA.out.trans k5)
  clear b0 b1 b2 b3 b4
  obtain ⟨b0, b1, b2, b3, b4⟩ := HCF.out w1 k5
  rw [HN.out]
  clear k5 hr5
  go_wp2_with fail
  refine (HA.out _ HKW.out).mono ?_
  rintro e w3 ⟨rfl, hs3, hk3⟩
  have HS3 := hid hs3
  have HK3 := hid (HKW.out.up.trans hk3)
  clear hs3 hk3
  go_wp2_with fail
  go_end0
  exact ⟨rfl, HS3.out, HK3.out⟩
set_option maxRecDepth 100000 in
set_option maxHeartbeats 1000000 in
theorem st_get (x : Mv) (h : Ay N w0 w a L s.A) (hm : s.A.many = 2) (hx : x.Byte) (hk8 : x.kind % 8 = 7) :
    Calls Tryz.prog 45 #[x.val, .pointer (some ⟨a, 0, none⟩)] w fun e w' => e = .returned (.tuple #[]) ∧ Ay N w0 w' a L ((x.mo19 s).doR s).A ∧ Keeps (fun y => L.foot s.A.many y) w w' := by
  have hki : (x.kind : Int) % 8 = 7 := by omega
  obtain ⟨hb0, hb1, hb2, hb3, hb4⟩ := hx
  obtain ⟨mk, hmk⟩ : ∃ mk, x.m % 2 = mk := ⟨_, rfl⟩
  have hmkl : mk < 2 := by omega
  have hi1 : (x.m : Int) % 2 = (mk : Int) := by omega
  have hi2 : (x.m : Int).tmod 2 = (mk : Int) := by rw [Int.tmod_eq_emod_of_nonneg (by omega)]; exact hi1
  have hiw : IntKind.i64.wrap (mk : Int) = (mk : Int) := IntWalk.i64_in _ (by omega)
  have hiu : IntKind.u8.wrap (mk : Int) = (mk : Int) := u8_wrap19 (by omega)
  have HSA := hid (fun W (hk : Keeps (fun _ => False) w W) => astackall_ok a L s.A mk W (h.quiet hk).ar (by rw [hm]; exact hmkl))
  obtain ⟨n, hn⟩ : ∃ n, (s.A.rt mk).l.length = n := ⟨_, rfl⟩
  have hn2 : (s.A.rt mk).n = n := by rw [← hn]; simp [Sk.l]
  have hn32 : n ≤ 32 := by rw [← hn2]; exact (h.ok.rt mk (by rw [hm]; exact hmkl)).1
  obtain ⟨M, hM⟩ : ∃ M, max n 1 = M := ⟨_, rfl⟩
  have hM1 : 1 ≤ M ∧ M ≤ 32 := by omega
  have hmax : max (n : Int) 1 = (M : Int) := by omega
  have hMz : ¬ (M : Int) = 0 := by omega
  have HN := hid hn
  obtain ⟨pa, hpa⟩ : ∃ pa, x.a % M = pa := ⟨_, rfl⟩
  have hpaM : pa < M := by rw [← hpa]; exact Nat.mod_lt _ (by omega)
  have hpa1 : (x.a : Int) % (M : Int) = (pa : Int) := by rw [← hpa]; simp
  have hpa2 : (x.a : Int).tmod (M : Int) = (pa : Int) := by rw [Int.tmod_eq_emod_of_nonneg (by omega)]; exact hpa1
  have hwa : IntKind.i64.wrap (x.a : Int) = (x.a : Int) := IntWalk.i64_in _ (by omega)
  have hwc : IntKind.i64.wrap (x.c : Int) = (x.c : Int) := IntWalk.i64_in _ (by omega)
  have hwp : IntKind.i64.wrap (pa : Int) = (pa : Int) := IntWalk.i64_in _ (by omega)
  obtain ⟨qb, hqb⟩ : ∃ qb, x.b % 8 = qb := ⟨_, rfl⟩
  have hqb8 : qb < 8 := by omega
  have hqb1 : (x.b : Int) % 8 = (qb : Int) := by omega
  have hqb2 : (x.b : Int).tmod 8 = (qb : Int) := by rw [Int.tmod_eq_emod_of_nonneg (by omega)]; exact hqb1
  have hqbw : IntKind.i64.wrap (qb : Int) = (qb : Int) := IntWalk.i64_in _ (by omega)
  have hqbu : IntKind.u8.wrap (qb : Int) = (qb : Int) := u8_wrap19 (by omega)
  obtain ⟨pc, hpc⟩ : ∃ pc, x.c % (n + 1) = pc := ⟨_, rfl⟩
  have hpcn : pc < n + 1 := by rw [← hpc]; exact Nat.mod_lt _ (by omega)
  have hn1 : ¬ ((n : Int) + 1) = 0 := by omega
  have hnw : IntKind.i64.wrap ((n : Int) + 1) = (n : Int) + 1 := IntWalk.i64_in _ (by omega)
  have hpc1 : (x.c : Int) % ((n : Int) + 1) = (pc : Int) := by rw [← hpc]; simp
  have hpc2 : (x.c : Int).tmod ((n : Int) + 1) = (pc : Int) := by rw [Int.tmod_eq_emod_of_nonneg (by omega)]; exact hpc1
  have hpcw : IntKind.i64.wrap ((pc : Int) - 1) = (pc : Int) - 1 := IntWalk.i64_in _ (by omega)
  have hmo : x.mo19 s = (match x.kind % 8 with
    | 0 => .make mk (1 + (x.b % 4 : Nat)) false
    | 1 => .make mk (1 + (x.b % 4 : Nat)) false
    | 2 => .load mk pa (x.b % 4 : Nat)
    | 3 => .store mk pa (x.b % 4 : Nat) ((pc : Nat) - 1)
    | 4 => .store mk pa (x.b % 4 : Nat) ((pc : Nat) - 1)
    | 5 => .drop mk pa
    | 6 => .put mk pa (x.b % 8 : Nat)
    | _ => .get mk (x.b % 8 : Nat)) := by
    unfold Mv.mo19
    rw [hmk, hn2, hM, hpa, hpc]
    all_goals rfl
  obtain ⟨wA, hwA⟩ : ∃ wA, w.alloc (.cells #[.int .u8 x.kind, .int .u8 x.m, .int .u8 x.a, .int .u8 x.b, .int .u8 x.c] 89) = wA := ⟨_, rfl⟩
  have kA : Keeps (fun _ => False) w wA := by rw [← hwA]; exact (Keeps.refl _ _).alloc _
  have qA : wA.heap[w.heap.size]? = some (.cells #[.int .u8 x.kind, .int .u8 x.m, .int .u8 x.a, .int .u8 x.b, .int .u8 x.c] 89) := by rw [← hwA]; exact alloc_new
  have HKA := hid kA; have HWA := hid hwA; have HH := hid h
  have HCF := hid (fun W (hk : Keeps (fun _ => False) wA W) => cells5' (block_keep qA hk (fun h => h)))
  have hfl := h.footlt
  have HCG := hid (fun W (hk : Keeps (fun y => L.foot s.A.many y) wA W) => cells5' (block_keep qA hk (fun hf => by have := hfl _ hf; omega)))
  have hw0 := lt_block qA
  obtain ⟨b0, b1, b2, b3, b4⟩ := HCF.out wA (Keeps.refl _ _)
  clear hfl hwA kA qA hn hn2 hM hpa hpc hb0 hb1 hb2 hb3 hb4 hmk
  have hmo' : ((x.mo19 s).doR s).A = (s.A.getR mk qb).A := by rw [hmo, hk8, hqb]; rfl
  rw [hmo']
  have HA := hid (fun W (hk : Keeps (fun _ => False) w W) => (HH.out.quiet hk).get mk qb)
  clear hmo'
  clear hmo hk8 hqb h
  unfold Mv.val
  go_enter Tryz.func45, Tryz.ntmps45
  go_wp2_with fail
  rw [HWA.out]
  go_wp2_with fail
  refine (HSA.out _ HKA.out).mono ?_
  rintro e w1 ⟨v5, rfl, hr5, k5⟩
  obtain ⟨p5, c5, hv5⟩ := own_shape hr5
  obtain rfl := hv5
  have HK1 := hid k5
  have HKW := hid (HKA.out.trans k5)
  clear b0 b1 b2 b3 b4
  obtain ⟨b0, b1, b2, b3, b4⟩ := HCF.out w1 k5
  rw [HN.out]
  clear k5 hr5
  go_wp2_with fail
  refine (HA.out _ HKW.out).mono ?_
  rintro e w3 ⟨rfl, hs3, hk3⟩
  have HS3 := hid hs3
  have HK3 := hid (HKW.out.up.trans hk3)
  clear hs3 hk3
  go_wp2_with fail
  go_end0
  exact ⟨rfl, HS3.out, HK3.out⟩
set_option maxRecDepth 100000 in
set_option maxHeartbeats 1000000 in
theorem st_store3 (x : Mv) (h : Ay N w0 w a L s.A) (hm : s.A.many = 2) (hx : x.Byte) (hk8 : x.kind % 8 = 3) :
    Calls Tryz.prog 45 #[x.val, .pointer (some ⟨a, 0, none⟩)] w fun e w' => e = .returned (.tuple #[]) ∧ Ay N w0 w' a L ((x.mo19 s).doR s).A ∧ Keeps (fun y => L.foot s.A.many y) w w' := by
  have hki : (x.kind : Int) % 8 = 3 := by omega
  obtain ⟨hb0, hb1, hb2, hb3, hb4⟩ := hx
  obtain ⟨mk, hmk⟩ : ∃ mk, x.m % 2 = mk := ⟨_, rfl⟩
  have hmkl : mk < 2 := by omega
  have hi1 : (x.m : Int) % 2 = (mk : Int) := by omega
  have hi2 : (x.m : Int).tmod 2 = (mk : Int) := by rw [Int.tmod_eq_emod_of_nonneg (by omega)]; exact hi1
  have hiw : IntKind.i64.wrap (mk : Int) = (mk : Int) := IntWalk.i64_in _ (by omega)
  have hiu : IntKind.u8.wrap (mk : Int) = (mk : Int) := u8_wrap19 (by omega)
  have HSA := hid (fun W (hk : Keeps (fun _ => False) w W) => astackall_ok a L s.A mk W (h.quiet hk).ar (by rw [hm]; exact hmkl))
  obtain ⟨n, hn⟩ : ∃ n, (s.A.rt mk).l.length = n := ⟨_, rfl⟩
  have hn2 : (s.A.rt mk).n = n := by rw [← hn]; simp [Sk.l]
  have hn32 : n ≤ 32 := by rw [← hn2]; exact (h.ok.rt mk (by rw [hm]; exact hmkl)).1
  obtain ⟨M, hM⟩ : ∃ M, max n 1 = M := ⟨_, rfl⟩
  have hM1 : 1 ≤ M ∧ M ≤ 32 := by omega
  have hmax : max (n : Int) 1 = (M : Int) := by omega
  have hMz : ¬ (M : Int) = 0 := by omega
  have HN := hid hn
  obtain ⟨pa, hpa⟩ : ∃ pa, x.a % M = pa := ⟨_, rfl⟩
  have hpaM : pa < M := by rw [← hpa]; exact Nat.mod_lt _ (by omega)
  have hpa1 : (x.a : Int) % (M : Int) = (pa : Int) := by rw [← hpa]; simp
  have hpa2 : (x.a : Int).tmod (M : Int) = (pa : Int) := by rw [Int.tmod_eq_emod_of_nonneg (by omega)]; exact hpa1
  have hwa : IntKind.i64.wrap (x.a : Int) = (x.a : Int) := IntWalk.i64_in _ (by omega)
  have hwc : IntKind.i64.wrap (x.c : Int) = (x.c : Int) := IntWalk.i64_in _ (by omega)
  have hwp : IntKind.i64.wrap (pa : Int) = (pa : Int) := IntWalk.i64_in _ (by omega)
  obtain ⟨qb, hqb⟩ : ∃ qb, x.b % 4 = qb := ⟨_, rfl⟩
  have hqb8 : qb < 8 := by omega
  have hqb1 : (x.b : Int) % 4 = (qb : Int) := by omega
  have hqb2 : (x.b : Int).tmod 4 = (qb : Int) := by rw [Int.tmod_eq_emod_of_nonneg (by omega)]; exact hqb1
  have hqbw : IntKind.i64.wrap (qb : Int) = (qb : Int) := IntWalk.i64_in _ (by omega)
  have hqbu : IntKind.u8.wrap (qb : Int) = (qb : Int) := u8_wrap19 (by omega)
  obtain ⟨pc, hpc⟩ : ∃ pc, x.c % (n + 1) = pc := ⟨_, rfl⟩
  have hpcn : pc < n + 1 := by rw [← hpc]; exact Nat.mod_lt _ (by omega)
  have hn1 : ¬ ((n : Int) + 1) = 0 := by omega
  have hnw : IntKind.i64.wrap ((n : Int) + 1) = (n : Int) + 1 := IntWalk.i64_in _ (by omega)
  have hpc1 : (x.c : Int) % ((n : Int) + 1) = (pc : Int) := by rw [← hpc]; simp
  have hpc2 : (x.c : Int).tmod ((n : Int) + 1) = (pc : Int) := by rw [Int.tmod_eq_emod_of_nonneg (by omega)]; exact hpc1
  have hpcw : IntKind.i64.wrap ((pc : Int) - 1) = (pc : Int) - 1 := IntWalk.i64_in _ (by omega)
  have hmo : x.mo19 s = (match x.kind % 8 with
    | 0 => .make mk (1 + (x.b % 4 : Nat)) false
    | 1 => .make mk (1 + (x.b % 4 : Nat)) false
    | 2 => .load mk pa (x.b % 4 : Nat)
    | 3 => .store mk pa (x.b % 4 : Nat) ((pc : Nat) - 1)
    | 4 => .store mk pa (x.b % 4 : Nat) ((pc : Nat) - 1)
    | 5 => .drop mk pa
    | 6 => .put mk pa (x.b % 8 : Nat)
    | _ => .get mk (x.b % 8 : Nat)) := by
    unfold Mv.mo19
    rw [hmk, hn2, hM, hpa, hpc]
    all_goals rfl
  obtain ⟨wA, hwA⟩ : ∃ wA, w.alloc (.cells #[.int .u8 x.kind, .int .u8 x.m, .int .u8 x.a, .int .u8 x.b, .int .u8 x.c] 89) = wA := ⟨_, rfl⟩
  have kA : Keeps (fun _ => False) w wA := by rw [← hwA]; exact (Keeps.refl _ _).alloc _
  have qA : wA.heap[w.heap.size]? = some (.cells #[.int .u8 x.kind, .int .u8 x.m, .int .u8 x.a, .int .u8 x.b, .int .u8 x.c] 89) := by rw [← hwA]; exact alloc_new
  have HKA := hid kA; have HWA := hid hwA; have HH := hid h
  have HCF := hid (fun W (hk : Keeps (fun _ => False) wA W) => cells5' (block_keep qA hk (fun h => h)))
  have hfl := h.footlt
  have HCG := hid (fun W (hk : Keeps (fun y => L.foot s.A.many y) wA W) => cells5' (block_keep qA hk (fun hf => by have := hfl _ hf; omega)))
  have hw0 := lt_block qA
  obtain ⟨b0, b1, b2, b3, b4⟩ := HCF.out wA (Keeps.refl _ _)
  clear hfl hwA kA qA hn hn2 hM hpa hpc hb0 hb1 hb2 hb3 hb4 hmk
  have hmo' : ((x.mo19 s).doR s).A = (s.A.storeR mk pa qb ((pc : Nat) - 1)).A := by rw [hmo, hk8, hqb]; rfl
  rw [hmo']
  have HA := hid (fun W (hk : Keeps (fun _ => False) w W) => (HH.out.quiet hk).store mk pa qb ((pc : Nat) - 1))
  clear hmo'
  clear hmo hk8 hqb h
  unfold Mv.val
  go_enter Tryz.func45, Tryz.ntmps45
  go_wp2_with fail
  rw [HWA.out]
  go_wp2_with fail
  refine (HSA.out _ HKA.out).mono ?_
  rintro e w1 ⟨v5, rfl, hr5, k5⟩
  obtain ⟨p5, c5, hv5⟩ := own_shape hr5
  obtain rfl := hv5
  have HK1 := hid k5
  have HKW := hid (HKA.out.trans k5)
  clear b0 b1 b2 b3 b4
  obtain ⟨b0, b1, b2, b3, b4⟩ := HCF.out w1 k5
  rw [HN.out]
  clear k5 hr5
  go_wp2_with fail
  have HPS := hid (fun W (hk : Keeps (fun y => L.foot s.A.many y) wA W) => And.intro (HCG.out W hk).2.2.2.1 (HCG.out W hk).2.2.2.2)
  clear b0 b1 b2 b3 b4
  go_region_held3 (fun W => W.cell? ⟨w.heap.size, 3, none⟩ = some (.int .u8 x.b) ∧ W.cell? ⟨w.heap.size, 4, none⟩ = some (.int .u8 x.c))
    ((refine HPS.out _ ?_; (repeat (first | with_reducible exact HK1.out.up | with_reducible refine Keeps.drewN ?_ _ | with_reducible refine Keeps.drew ?_ | with_reducible refine Keeps.trans ?_ hk3))))
    (first | (go_at_call 110; refine (HA.out _ (by (repeat (first | with_reducible exact HKW.out | with_reducible refine Keeps.drewN ?_ _ | with_reducible refine Keeps.drew ?_)))).mono ?_; rintro e w3 ⟨rfl, hs3, hk3⟩))
  have HS3 := hid hs3
  have HK3 := hid (show Keeps (fun y => L.foot s.A.many y) w w3 from Keeps.trans (Keeps.up (by (repeat (first | with_reducible exact HKW.out | with_reducible refine Keeps.drewN ?_ _ | with_reducible refine Keeps.drew ?_)))) hk3)
  clear hs3 hk3
  go_wp2_with fail
  go_end0
  exact ⟨rfl, HS3.out, HK3.out⟩
set_option maxRecDepth 100000 in
set_option maxHeartbeats 1000000 in
theorem st_store4 (x : Mv) (h : Ay N w0 w a L s.A) (hm : s.A.many = 2) (hx : x.Byte) (hk8 : x.kind % 8 = 4) :
    Calls Tryz.prog 45 #[x.val, .pointer (some ⟨a, 0, none⟩)] w fun e w' => e = .returned (.tuple #[]) ∧ Ay N w0 w' a L ((x.mo19 s).doR s).A ∧ Keeps (fun y => L.foot s.A.many y) w w' := by
  have hki : (x.kind : Int) % 8 = 4 := by omega
  obtain ⟨hb0, hb1, hb2, hb3, hb4⟩ := hx
  obtain ⟨mk, hmk⟩ : ∃ mk, x.m % 2 = mk := ⟨_, rfl⟩
  have hmkl : mk < 2 := by omega
  have hi1 : (x.m : Int) % 2 = (mk : Int) := by omega
  have hi2 : (x.m : Int).tmod 2 = (mk : Int) := by rw [Int.tmod_eq_emod_of_nonneg (by omega)]; exact hi1
  have hiw : IntKind.i64.wrap (mk : Int) = (mk : Int) := IntWalk.i64_in _ (by omega)
  have hiu : IntKind.u8.wrap (mk : Int) = (mk : Int) := u8_wrap19 (by omega)
  have HSA := hid (fun W (hk : Keeps (fun _ => False) w W) => astackall_ok a L s.A mk W (h.quiet hk).ar (by rw [hm]; exact hmkl))
  obtain ⟨n, hn⟩ : ∃ n, (s.A.rt mk).l.length = n := ⟨_, rfl⟩
  have hn2 : (s.A.rt mk).n = n := by rw [← hn]; simp [Sk.l]
  have hn32 : n ≤ 32 := by rw [← hn2]; exact (h.ok.rt mk (by rw [hm]; exact hmkl)).1
  obtain ⟨M, hM⟩ : ∃ M, max n 1 = M := ⟨_, rfl⟩
  have hM1 : 1 ≤ M ∧ M ≤ 32 := by omega
  have hmax : max (n : Int) 1 = (M : Int) := by omega
  have hMz : ¬ (M : Int) = 0 := by omega
  have HN := hid hn
  obtain ⟨pa, hpa⟩ : ∃ pa, x.a % M = pa := ⟨_, rfl⟩
  have hpaM : pa < M := by rw [← hpa]; exact Nat.mod_lt _ (by omega)
  have hpa1 : (x.a : Int) % (M : Int) = (pa : Int) := by rw [← hpa]; simp
  have hpa2 : (x.a : Int).tmod (M : Int) = (pa : Int) := by rw [Int.tmod_eq_emod_of_nonneg (by omega)]; exact hpa1
  have hwa : IntKind.i64.wrap (x.a : Int) = (x.a : Int) := IntWalk.i64_in _ (by omega)
  have hwc : IntKind.i64.wrap (x.c : Int) = (x.c : Int) := IntWalk.i64_in _ (by omega)
  have hwp : IntKind.i64.wrap (pa : Int) = (pa : Int) := IntWalk.i64_in _ (by omega)
  obtain ⟨qb, hqb⟩ : ∃ qb, x.b % 4 = qb := ⟨_, rfl⟩
  have hqb8 : qb < 8 := by omega
  have hqb1 : (x.b : Int) % 4 = (qb : Int) := by omega
  have hqb2 : (x.b : Int).tmod 4 = (qb : Int) := by rw [Int.tmod_eq_emod_of_nonneg (by omega)]; exact hqb1
  have hqbw : IntKind.i64.wrap (qb : Int) = (qb : Int) := IntWalk.i64_in _ (by omega)
  have hqbu : IntKind.u8.wrap (qb : Int) = (qb : Int) := u8_wrap19 (by omega)
  obtain ⟨pc, hpc⟩ : ∃ pc, x.c % (n + 1) = pc := ⟨_, rfl⟩
  have hpcn : pc < n + 1 := by rw [← hpc]; exact Nat.mod_lt _ (by omega)
  have hn1 : ¬ ((n : Int) + 1) = 0 := by omega
  have hnw : IntKind.i64.wrap ((n : Int) + 1) = (n : Int) + 1 := IntWalk.i64_in _ (by omega)
  have hpc1 : (x.c : Int) % ((n : Int) + 1) = (pc : Int) := by rw [← hpc]; simp
  have hpc2 : (x.c : Int).tmod ((n : Int) + 1) = (pc : Int) := by rw [Int.tmod_eq_emod_of_nonneg (by omega)]; exact hpc1
  have hpcw : IntKind.i64.wrap ((pc : Int) - 1) = (pc : Int) - 1 := IntWalk.i64_in _ (by omega)
  have hmo : x.mo19 s = (match x.kind % 8 with
    | 0 => .make mk (1 + (x.b % 4 : Nat)) false
    | 1 => .make mk (1 + (x.b % 4 : Nat)) false
    | 2 => .load mk pa (x.b % 4 : Nat)
    | 3 => .store mk pa (x.b % 4 : Nat) ((pc : Nat) - 1)
    | 4 => .store mk pa (x.b % 4 : Nat) ((pc : Nat) - 1)
    | 5 => .drop mk pa
    | 6 => .put mk pa (x.b % 8 : Nat)
    | _ => .get mk (x.b % 8 : Nat)) := by
    unfold Mv.mo19
    rw [hmk, hn2, hM, hpa, hpc]
    all_goals rfl
  obtain ⟨wA, hwA⟩ : ∃ wA, w.alloc (.cells #[.int .u8 x.kind, .int .u8 x.m, .int .u8 x.a, .int .u8 x.b, .int .u8 x.c] 89) = wA := ⟨_, rfl⟩
  have kA : Keeps (fun _ => False) w wA := by rw [← hwA]; exact (Keeps.refl _ _).alloc _
  have qA : wA.heap[w.heap.size]? = some (.cells #[.int .u8 x.kind, .int .u8 x.m, .int .u8 x.a, .int .u8 x.b, .int .u8 x.c] 89) := by rw [← hwA]; exact alloc_new
  have HKA := hid kA; have HWA := hid hwA; have HH := hid h
  have HCF := hid (fun W (hk : Keeps (fun _ => False) wA W) => cells5' (block_keep qA hk (fun h => h)))
  have hfl := h.footlt
  have HCG := hid (fun W (hk : Keeps (fun y => L.foot s.A.many y) wA W) => cells5' (block_keep qA hk (fun hf => by have := hfl _ hf; omega)))
  have hw0 := lt_block qA
  obtain ⟨b0, b1, b2, b3, b4⟩ := HCF.out wA (Keeps.refl _ _)
  clear hfl hwA kA qA hn hn2 hM hpa hpc hb0 hb1 hb2 hb3 hb4 hmk
  have hmo' : ((x.mo19 s).doR s).A = (s.A.storeR mk pa qb ((pc : Nat) - 1)).A := by rw [hmo, hk8, hqb]; rfl
  rw [hmo']
  have HA := hid (fun W (hk : Keeps (fun _ => False) w W) => (HH.out.quiet hk).store mk pa qb ((pc : Nat) - 1))
  clear hmo'
  clear hmo hk8 hqb h
  unfold Mv.val
  go_enter Tryz.func45, Tryz.ntmps45
  go_wp2_with fail
  rw [HWA.out]
  go_wp2_with fail
  refine (HSA.out _ HKA.out).mono ?_
  rintro e w1 ⟨v5, rfl, hr5, k5⟩
  obtain ⟨p5, c5, hv5⟩ := own_shape hr5
  obtain rfl := hv5
  have HK1 := hid k5
  have HKW := hid (HKA.out.trans k5)
  clear b0 b1 b2 b3 b4
  obtain ⟨b0, b1, b2, b3, b4⟩ := HCF.out w1 k5
  rw [HN.out]
  clear k5 hr5
  go_wp2_with fail
  have HPS := hid (fun W (hk : Keeps (fun y => L.foot s.A.many y) wA W) => And.intro (HCG.out W hk).2.2.2.1 (HCG.out W hk).2.2.2.2)
  clear b0 b1 b2 b3 b4
  go_region_held3 (fun W => W.cell? ⟨w.heap.size, 3, none⟩ = some (.int .u8 x.b) ∧ W.cell? ⟨w.heap.size, 4, none⟩ = some (.int .u8 x.c))
    ((refine HPS.out _ ?_; (repeat (first | with_reducible exact HK1.out.up | with_reducible refine Keeps.drewN ?_ _ | with_reducible refine Keeps.drew ?_ | with_reducible refine Keeps.trans ?_ hk3))))
    (first | (go_at_call 110; refine (HA.out _ (by (repeat (first | with_reducible exact HKW.out | with_reducible refine Keeps.drewN ?_ _ | with_reducible refine Keeps.drew ?_)))).mono ?_; rintro e w3 ⟨rfl, hs3, hk3⟩))
  have HS3 := hid hs3
  have HK3 := hid (show Keeps (fun y => L.foot s.A.many y) w w3 from Keeps.trans (Keeps.up (by (repeat (first | with_reducible exact HKW.out | with_reducible refine Keeps.drewN ?_ _ | with_reducible refine Keeps.drew ?_)))) hk3)
  clear hs3 hk3
  go_wp2_with fail
  go_end0
  exact ⟨rfl, HS3.out, HK3.out⟩
theorem step19 (x : Mv) (h : Ay N w0 w a L s.A) (hm : s.A.many = 2) (hx : x.Byte) :
    Calls Tryz.prog 45 #[x.val, .pointer (some ⟨a, 0, none⟩)] w fun e w' => e = .returned (.tuple #[]) ∧ Ay N w0 w' a L ((x.mo19 s).doR s).A ∧ Keeps (fun y => L.foot s.A.many y) w w' := by
  have hlt := Nat.mod_lt x.kind (show 0 < 8 by omega)
  obtain hk | hk | hk | hk | hk | hk | hk | hk : x.kind % 8 = 0 ∨ x.kind % 8 = 1 ∨ x.kind % 8 = 2 ∨ x.kind % 8 = 3 ∨ x.kind % 8 = 4 ∨ x.kind % 8 = 5 ∨ x.kind % 8 = 6 ∨ x.kind % 8 = 7 := by omega
  · exact st_make0 x h hm hx hk
  · exact st_make1 x h hm hx hk
  · exact st_load x h hm hx hk
  · exact st_store3 x h hm hx hk
  · exact st_store4 x h hm hx hk
  · exact st_drop x h hm hx hk
  · exact st_put x h hm hx hk
  · exact st_get x h hm hx hk
def moved (s : Sys) : List Mv → Sys
  | [] => s
  | x :: l => moved ((x.mo19 s).doR s) l
def Sys.pl19 (l : List Mv) : Sys := moved (Sys.new 40 2) (l.take 120)
structure Good19 (s : Sys) : Prop where
  ok : s.Ok
  safe : Safe s
  many : s.A.many = 2
theorem Good19.next {s : Sys} (h : Good19 s) (x : Mv) : Good19 ((x.mo19 s).doR s) := by
  have hw : (x.mo19 s).who < s.A.many := by rw [x.who19, h.many]; exact Nat.mod_lt _ (by omega)
  exact ⟨((x.mo19 s).next h.ok).ok, (x.mo19 s).safe h.ok h.safe hw, ((x.mo19 s).many h.ok).trans h.many⟩
theorem Good19.moved {s : Sys} (h : Good19 s) (l : List Mv) : Good19 (moved s l) := by
  induction l generalizing s with
  | nil => exact h
  | cons x l ih => exact ih (h.next x)
theorem moved_take {s : Sys} {l : List Mv} {k : Nat} {x : Mv} (h : l[k]? = some x) : Good19 (moved s (l.take k)) → moved s (l.take (k + 1)) = (x.mo19 (moved s (l.take k))).doR (moved s (l.take k)) := by
  intro _
  induction l generalizing s k with
  | nil => simp at h
  | cons y l ih =>
    cases k with
    | zero => simp at h; subst h; rfl
    | succ k =>
      rw [List.take_succ_cons, List.take_succ_cons]
      simp only [List.getElem?_cons_succ] at h
      exact ih h ‹_›
theorem good19_new : Good19 (Sys.new 40 2) := ⟨Sys.Ok.new (by omega) (by omega) (by omega) (by omega), safe_new 40 2, rfl⟩
theorem good19 (l : List Mv) : Good19 (Sys.pl19 l) := good19_new.moved _
end Go.Proofs.YtcpljmonmchloaaGreat
