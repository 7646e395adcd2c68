/- estraylaw19: moves; the arena that is played. -/
import Derived.Test.YtehmoikbeflkaaaGreatRcJ
import Derived.Test.YtehmoikbeflkaaaGreatCyA
namespace Go.Proofs.YtehmoikbeflkaaaGreat
open Go.RowKit
set_option linter.unusedVariables false
set_option linter.unusedSimpArgs false
variable {N : Nat} {w0 w w' : World} {a : Nat} {L : ArL} {s : Sys}

theorem cells5' {w : World} {b : Nat} {v0 v1 v2 v3 v4 : Value} {t : TypeId} (h : w.heap[b]? = some (.cells #[v0, v1, v2, v3, v4] t)) :
    w.cell? ⟨b, 0, none⟩ = some v0 ∧ w.cell? ⟨b, 1, none⟩ = some v1 ∧ w.cell? ⟨b, 2, none⟩ = some v2 ∧ w.cell? ⟨b, 3, none⟩ = some v3 ∧ w.cell? ⟨b, 4, none⟩ = some v4 :=
  ⟨cell_at h rfl, cell_at h rfl, cell_at h rfl, cell_at h rfl, cell_at h rfl⟩
theorem u8_wrap19 {x : Nat} (h : x < 256) : IntKind.u8.wrap (x : Int) = (x : Int) := IntWalk.u8_in _ (by omega)
theorem Ay.footlt {A : Ar} (h : Ay N w0 w a L A) (y : Nat) (hy : L.foot A.many y) : y < w.heap.size := by
  rcases hy with rfl | rfl | rfl | ⟨k, hk, rfl⟩
  · obtain ⟨c', hc, _⟩ := h.ar.heap.own; exact lt_block hc
  · obtain ⟨c', hc, _⟩ := h.ar.heap.tab; exact lt_block hc
  · obtain ⟨c', hc, _⟩ := h.ar.gl; exact lt_block hc
  · obtain ⟨c', hc, _⟩ := h.ar.st k hk; exact lt_block hc
def Mv.mo19 (x : Mv) (s : Sys) : Mo :=
  match x.kind % 8 with
  | 0 => .make (x.m % 2) (1 + (x.b % 4 : Nat)) false
  | 1 => .make (x.m % 2) (1 + (x.b % 4 : Nat)) false
  | 2 => .load (x.m % 2) (x.a % max (s.A.rt (x.m % 2)).n 1 : Nat) (x.b % 4 : Nat)
  | 3 => .store (x.m % 2) (x.a % max (s.A.rt (x.m % 2)).n 1 : Nat) (x.b % 4 : Nat) ((x.c % ((s.A.rt (x.m % 2)).n + 1) : Nat) - 1)
  | 4 => .store (x.m % 2) (x.a % max (s.A.rt (x.m % 2)).n 1 : Nat) (x.b % 4 : Nat) ((x.c % ((s.A.rt (x.m % 2)).n + 1) : Nat) - 1)
  | 5 => .drop (x.m % 2) (x.a % max (s.A.rt (x.m % 2)).n 1 : Nat)
  | 6 => .put (x.m % 2) (x.a % max (s.A.rt (x.m % 2)).n 1 : Nat) (x.b % 8 : Nat)
  | _ => .get (x.m % 2) (x.b % 8 : Nat)
theorem Mv.who19 (x : Mv) (s : Sys) : (x.mo19 s).who = x.m % 2 := by unfold Mv.mo19; split <;> rfl
set_option maxRecDepth 100000 in
set_option maxHeartbeats 1000000 in
theorem st_drop (x : Mv) (h : Ay N w0 w a L s.A) (hm : s.A.many = 2) (hx : x.Byte) (hk8 : x.kind % 8 = 5) :
    Calls Tryz.prog 80 #[x.val, .pointer (some ⟨a, 0, none⟩)] w fun e w' => e = .returned (.tuple #[]) ∧ Ay N w0 w' a L ((x.mo19 s).doR s).A ∧ Keeps (fun y => L.foot s.A.many y) w w' := by
  have hki : (x.kind : Int) % 8 = 5 := by omega
  obtain ⟨hb0, hb1, hb2, hb3, hb4⟩ := hx
  obtain ⟨mk, hmk⟩ : ∃ mk, x.m % 2 = mk := ⟨_, rfl⟩
  have hmkl : mk < 2 := by omega
  have hi1 : (x.m : Int) % 2 = (mk : Int) := by omega
  have hi2 : (x.m : Int).tmod 2 = (mk : Int) := by rw [Int.tmod_eq_emod_of_nonneg (by omega)]; exact hi1
  have hiw : IntKind.i64.wrap (mk : Int) = (mk : Int) := IntWalk.i64_in _ (by omega)
  have hiu : IntKind.u8.wrap (mk : Int) = (mk : Int) := u8_wrap19 (by omega)
  have HSA := hid (fun W (hk : Keeps (fun _ => False) w W) => astackall_ok a L s.A mk W (h.quiet hk).ar (by rw [hm]; exact hmkl))
  obtain ⟨n, hn⟩ : ∃ n, (s.A.rt mk).l.length = n := ⟨_, rfl⟩
  have hn2 : (s.A.rt mk).n = n := by rw [← hn]; simp [Sk.l]
  have hn32 : n ≤ 32 := by rw [← hn2]; exact (h.ok.rt mk (by rw [hm]; exact hmkl)).1
  obtain ⟨M, hM⟩ : ∃ M, max n 1 = M := ⟨_, rfl⟩
  have hM1 : 1 ≤ M ∧ M ≤ 32 := by omega
  have hmax : max (n : Int) 1 = (M : Int) := by omega
  have hMz : ¬ (M : Int) = 0 := by omega
  have HN := hid hn
  obtain ⟨pa, hpa⟩ : ∃ pa, x.a % M = pa := ⟨_, rfl⟩
  have hpaM : pa < M := by rw [← hpa]; exact Nat.mod_lt _ (by omega)
  have hpa1 : (x.a : Int) % (M : Int) = (pa : Int) := by rw [← hpa]; simp
  have hpa2 : (x.a : Int).tmod (M : Int) = (pa : Int) := by rw [Int.tmod_eq_emod_of_nonneg (by omega)]; exact hpa1
  have hwa : IntKind.i64.wrap (x.a : Int) = (x.a : Int) := IntWalk.i64_in _ (by omega)
  have hwc : IntKind.i64.wrap (x.c : Int) = (x.c : Int) := IntWalk.i64_in _ (by omega)
  have hwp : IntKind.i64.wrap (pa : Int) = (pa : Int) := IntWalk.i64_in _ (by omega)
  obtain ⟨qb, hqb⟩ : ∃ qb, x.b % 4 = qb := ⟨_, rfl⟩
  have hqb8 : qb < 8 := by omega
  have hqb1 : (x.b : Int) % 4 = (qb : Int) := by omega
  have hqb2 : (x.b : Int).tmod 4 = (qb : Int) := by rw [Int.tmod_eq_emod_of_nonneg (by omega)]; exact hqb1
  have hqbw : IntKind.i64.wrap (qb : Int) = (qb : Int) := IntWalk.i64_in _ (by omega)
  have hqbu : IntKind.u8.wrap (qb : Int) = (qb : Int) := u8_wrap19 (by omega)
  obtain ⟨pc, hpc⟩ : ∃ pc, x.c % (n + 1) = pc := ⟨_, rfl⟩
  have hpcn : pc < n + 1 := by rw [← hpc]; exact Nat.mod_lt _ (by omega)
  have hn1 : ¬ ((n : Int) + 1) = 0 := by omega
  have hnw : IntKind.i64.wrap ((n : Int) + 1) = (n : Int) + 1 := IntWalk.i64_in _ (by omega)
  have hpc1 : (x.c : Int) % ((n : Int) + 1) = (pc : Int) := by rw [← hpc]; simp
  have hpc2 : (x.c : Int).tmod ((n : Int) + 1) = (pc : Int) := by rw [Int.tmod_eq_emod_of_nonneg (by omega)]; exact hpc1
  have hpcw : IntKind.i64.wrap ((pc : Int) - 1) = (pc : Int) - 1 := IntWalk.i64_in _ (by omega)
  have hmo : x.mo19 s = (match x.kind % 8 with
    | 0 => .make mk (1 + (x.b % 4 : Nat)) false
    | 1 => .make mk (1 + (x.b % 4 : Nat)) false
    | 2 => .load mk pa (x.b % 4 : Nat)
    | 3 => .store mk pa (x.b % 4 : Nat) ((pc : Nat) - 1)
    | 4 => .store mk pa (x.b % 4 : Nat) ((pc : Nat) - 1)
    | 5 => .drop mk pa
    | 6 => .put mk pa (x.b % 8 : Nat)
    | _ => .get mk (x.b % 8 : Nat)) := by
    unfold Mv.mo19
    rw [hmk, hn2, hM, hpa, hpc]
    all_goals rfl
  obtain ⟨wA, hwA⟩ : ∃ wA, w.alloc (.cells #[.int .u8 x.kind, .int .u8 x.m, .int .u8 x.a, .int .u8 x.b, .int .u8 x.c] 123) = wA := ⟨_, rfl⟩
  have kA : Keeps (fun _ => False) w wA := by rw [← hwA]; exact (Keeps.refl _ _).alloc _
  have qA : wA.heap[w.heap.size]? = some (.cells #[.int .u8 x.kind, .int .u8 x.m, .int .u8 x.a, .int .u8 x.b, .int .u8 x.c] 123) := by rw [← hwA]; exact alloc_new
  have HKA := hid kA; have HWA := hid hwA; have HH := hid h
  have HCF := hid (fun W (hk : Keeps (fun _ => False) wA W) => cells5' (block_keep qA hk (fun h => h)))
  have hfl := h.footlt
  have HCG := hid (fun W (hk : Keeps (fun y => L.foot s.A.many y) wA W) => cells5' (block_keep qA hk (fun hf => by have := hfl _ hf; omega)))
  have hw0 := lt_block qA
  obtain ⟨b0, b1, b2, b3, b4⟩ := HCF.out wA (Keeps.refl _ _)
  clear hfl hwA kA qA hn hn2 hM hpa hpc hb0 hb1 hb2 hb3 hb4 hmk
  have hmo' : ((x.mo19 s).doR s).A = (s.A.dropR mk pa).A := by rw [hmo, hk8]; rfl
  rw [hmo']
  have HA := hid (fun W (hk : Keeps (fun _ => False) w W) => (HH.out.quiet hk).drop mk pa)
  clear hmo'
  clear hmo hk8 hqb h
  unfold Mv.val
  go_enter Tryz.func80, Tryz.ntmps80
  go_wp2_with fail
  rw [HWA.out]
  go_wp2_with fail
  refine (HSA.out _ HKA.out).mono ?_
  rintro e w1 ⟨v5, rfl, hr5, k5⟩
  obtain ⟨p5, c5, hv5⟩ := own_shape hr5
  obtain rfl := hv5
  have HK1 := hid k5
  have HKW := hid (HKA.out.trans k5)
  clear b0 b1 b2 b3 b4
  obtain ⟨b0, b1, b2, b3, b4⟩ := HCF.out w1 k5
  rw [HN.out]
  clear k5 hr5
  go_wp2_with fail
  refine (HA.out _ HKW.out).mono ?_
  rintro e w3 ⟨rfl, hs3, hk3⟩
  have HS3 := hid hs3
  have HK3 := hid (HKW.out.up.trans hk3)
  clear hs3 hk3
  go_wp2_with fail
  go_end0
  exact ⟨rfl, HS3.out, HK3.out⟩
set_option maxRecDepth 100000 in
set_option maxHeartbeats 1000000 in
theorem st_make0 (x : Mv) (h : Ay N w0 w a L s.A) (hm : s.A.many = 2) (hx : x.Byte) (hk8 : x.kind % 8 = 0) :
    Calls Tryz.prog 80 #[x.val, .pointer (some ⟨a, 0, none⟩)] w fun e w' => e = .returned (.tuple #[]) ∧ Ay N w0 w' a L ((x.mo19 s).doR s).A ∧ Keeps (fun y => L.foot s.A.many y) w w' := by
  have hki : (x.kind : Int) % 8 = 0 := by omega
  obtain ⟨hb0, hb1, hb2, hb3, hb4⟩ := hx
  obtain ⟨mk, hmk⟩ : ∃ mk, x.m % 2 = mk := ⟨_, rfl⟩
  have hmkl : mk < 2 := by omega
  have hi1 : (x.m : Int) % 2 = (mk : Int) := by omega
  have hi2 : (x.m : Int).tmod 2 = (mk : Int) := by rw [Int.tmod_eq_emod_of_nonneg (by omega)]; exact hi1
  have hiw : IntKind.i64.wrap (mk : Int) = (mk : Int) := IntWalk.i64_in _ (by omega)
  have hiu : IntKind.u8.wrap (mk : Int) = (mk : Int) := u8_wrap19 (by omega)
  have HSA := hid (fun W (hk : Keeps (fun _ => False) w W) => astackall_ok a L s.A mk W (h.quiet hk).ar (by rw [hm]; exact hmkl))
  obtain ⟨n, hn⟩ : ∃ n, (s.A.rt mk).l.length = n := ⟨_, rfl⟩
  have hn2 : (s.A.rt mk).n = n := by rw [← hn]; simp [Sk.l]
  have hn32 : n ≤ 32 := by rw [← hn2]; exact (h.ok.rt mk (by rw [hm]; exact hmkl)).1
  obtain ⟨M, hM⟩ : ∃ M, max n 1 = M := ⟨_, rfl⟩
  have hM1 : 1 ≤ M ∧ M ≤ 32 := by omega
  have hmax : max (n : Int) 1 = (M : Int) := by omega
  have hMz : ¬ (M : Int) = 0 := by omega
  have HN := hid hn
  obtain ⟨pa, hpa⟩ : ∃ pa, x.a % M = pa := ⟨_, rfl⟩
  have hpaM : pa < M := by rw [← hpa]; exact Nat.mod_lt _ (by omega)
  have hpa1 : (x.a : Int) % (M : Int) = (pa : Int) := by rw [← hpa]; simp
  have hpa2 : (x.a : Int).tmod (M : Int) = (pa : Int) := by rw [Int.tmod_eq_emod_of_nonneg (by omega)]; exact hpa1
  have hwa : IntKind.i64.wrap (x.a : Int) = (x.a : Int) := IntWalk.i64_in _ (by omega)
  have hwc : IntKind.i64.wrap (x.c : Int) = (x.c : Int) := IntWalk.i64_in _ (by omega)
  have hwp : IntKind.i64.wrap (pa : Int) = (pa : Int) := IntWalk.i64_in _ (by omega)
  obtain ⟨qb, hqb⟩ : ∃ qb, x.b % 4 = qb := ⟨_, rfl⟩
  have hqb8 : qb < 8 := by omega
  have hqb1 : (x.b : Int) % 4 = (qb : Int) := by omega
  have hqb2 : (x.b : Int).tmod 4 = (qb : Int) := by rw [Int.tmod_eq_emod_of_nonneg (by omega)]; exact hqb1
  have hqbw : IntKind.i64.wrap (qb : Int) = (qb : Int) := IntWalk.i64_in _ (by omega)
  have hqbu : IntKind.u8.wrap (qb : Int) = (qb : Int) := u8_wrap19 (by omega)
  obtain ⟨pc, hpc⟩ : ∃ pc, x.c % (n + 1) = pc := ⟨_, rfl⟩
  have hpcn : pc < n + 1 := by rw [← hpc]; exact Nat.mod_lt _ (by omega)
  have hn1 : ¬ ((n : Int) + 1) = 0 := by omega
  have hnw : IntKind.i64.wrap ((n : Int) + 1) = (n : Int) + 1 := IntWalk.i64_in _ (by omega)
  have hpc1 : (x.c : Int) % ((n : Int) + 1) = (pc : Int) := by rw [← hpc]; simp
  have hpc2 : (x.c : Int).tmod ((n : Int) + 1) = (pc : Int) := by rw [Int.tmod_eq_emod_of_nonneg (by omega)]; exact hpc1
  have hpcw : IntKind.i64.wrap ((pc : Int) - 1) = (pc : Int) - 1 := IntWalk.i64_in _ (by omega)
  have hmo : x.mo19 s = (match x.kind % 8 with
    | 0 => .make mk (1 + (x.b % 4 : Nat)) false
    | 1 => .make mk (1 + (x.b % 4 : Nat)) false
    | 2 => .load mk pa (x.b % 4 : Nat)
    | 3 => .store mk pa (x.b % 4 : Nat) ((pc : Nat) - 1)
    | 4 => .store mk pa (x.b % 4 : Nat) ((pc : Nat) - 1)
    | 5 => .drop mk pa
    | 6 => .put mk pa (x.b % 8 : Nat)
    | _ => .get mk (x.b % 8 : Nat)) := by
    unfold Mv.mo19
    rw [hmk, hn2, hM, hpa, hpc]
    all_goals rfl
  obtain ⟨wA, hwA⟩ : ∃ wA, w.alloc (.cells #[.int .u8 x.kind, .int .u8 x.m, .int .u8 x.a, .int .u8 x.b, .int .u8 x.c] 123) = wA := ⟨_, rfl⟩
  have kA : Keeps (fun _ => False) w wA := by rw [← hwA]; exact (Keeps.refl _ _).alloc _
  have qA : wA.heap[w.heap.size]? = some (.cells #[.int .u8 x.kind, .int .u8 x.m, .int .u8 x.a, .int .u8 x.b, .int .u8 x.c] 123) := by rw [← hwA]; exact alloc_new
  have HKA := hid kA; have HWA := hid hwA; have HH := hid h
  have HCF := hid (fun W (hk : Keeps (fun _ => False) wA W) => cells5' (block_keep qA hk (fun h => h)))
  have hfl := h.footlt
  have HCG := hid (fun W (hk : Keeps (fun y => L.foot s.A.many y) wA W) => cells5' (block_keep qA hk (fun hf => by have := hfl _ hf; omega)))
  have hw0 := lt_block qA
  obtain ⟨b0, b1, b2, b3, b4⟩ := HCF.out wA (Keeps.refl _ _)
  clear hfl hwA kA qA hn hn2 hM hpa hpc hb0 hb1 hb2 hb3 hb4 hmk
  have hmo' : ((x.mo19 s).doR s).A = (s.A.makeR mk (1 + (qb : Nat)) false).A := by rw [hmo, hk8, hqb]; rfl
  rw [hmo']
  have HA := hid (fun W (hk : Keeps (fun _ => False) w W) => (HH.out.quiet hk).make mk (1 + (qb : Nat)) false)
  clear hmo'
  have hqw : IntKind.i64.wrap (1 + (qb : Int)) = 1 + (qb : Int) := IntWalk.i64_in _ (by omega)
  clear hmo hk8 hqb h
  unfold Mv.val
  go_enter Tryz.func80, Tryz.ntmps80
  go_wp2_with fail
  rw [HWA.out]
  go_wp2_with fail
  refine (HSA.out _ HKA.out).mono ?_
  rintro e w1 ⟨v5, rfl, hr5, k5⟩
  obtain ⟨p5, c5, hv5⟩ := own_shape hr5
  obtain rfl := hv5
  have HK1 := hid k5
  have HKW := hid (HKA.out.trans k5)
  clear b0 b1 b2 b3 b4
  obtain ⟨b0, b1, b2, b3, b4⟩ := HCF.out w1 k5
  rw [HN.out]
  clear k5 hr5
  go_wp2_with fail
  refine (HA.out _ HKW.out).mono ?_
  rintro e w3 ⟨rfl, hs3, hk3⟩
  have HS3 := hid hs3
  have HK3 := hid (HKW.out.up.trans hk3)
  clear hs3 hk3
  go_wp2_with fail
  go_end0
  exact ⟨rfl, HS3.out, HK3.out⟩
set_option maxRecDepth 100000 in
set_option maxHeartbeats 1000000 in
theorem st_make1 (x : Mv) (h : Ay N w0 w a L s.A) (hm : s.A.many = 2) (hx : x.Byte) (hk8 : x.kind % 8 = 1) :
    Calls Tryz.prog 80 #[x.val, .pointer (some ⟨a, 0, none⟩)] w fun e w' => e = .returned (.tuple #[]) ∧ Ay N w0 w' a L ((x.mo19 s).doR s).A ∧ Keeps (fun y => L.foot s.A.many y) w w' := by
  have hki : (x.kind : Int) % 8 = 1 := by omega
  obtain ⟨hb0, hb1, hb2, hb3, hb4⟩ := hx
  obtain ⟨mk, hmk⟩ : ∃ mk, x.m % 2 = mk := ⟨_, rfl⟩
  have hmkl : mk < 2 := by omega
  have hi1 : (x.m : Int) % 2 = (mk : Int) := by omega
  have hi2 : (x.m : Int).tmod 2 = (mk : Int) := by rw [Int.tmod_eq_emod_of_nonneg (by omega)]; exact hi1
  have hiw : IntKind.i64.wrap (mk : Int) = (mk : Int) := IntWalk.i64_in _ (by omega)
  have hiu : IntKind.u8.wrap (mk : Int) = (mk : Int) := u8_wrap19 (by omega)
  have HSA := hid (fun W (hk : Keeps (fun _ => False) w W) => astackall_ok a L s.A mk W (h.quiet hk).ar (by rw [hm]; exact hmkl))
  obtain ⟨n, hn⟩ : ∃ n, (s.A.rt mk).l.length = n := ⟨_, rfl⟩
  have hn2 : (s.A.rt mk).n = n := by rw [← hn]; simp [Sk.l]
  have hn32 : n ≤ 32 := by rw [← hn2]; exact (h.ok.rt mk (by rw [hm]; exact hmkl)).1
  obtain ⟨M, hM⟩ : ∃ M, max n 1 = M := ⟨_, rfl⟩
  have hM1 : 1 ≤ M ∧ M ≤ 32 := by omega
  have hmax : max (n : Int) 1 = (M : Int) := by omega
  have hMz : ¬ (M : Int) = 0 := by omega
  have HN := hid hn
  obtain ⟨pa, hpa⟩ : ∃ pa, x.a % M = pa := ⟨_, rfl⟩
  have hpaM : pa < M := by rw [← hpa]; exact Nat.mod_lt _ (by omega)
  have hpa1 : (x.a : Int) % (M : Int) = (pa : Int) := by rw [← hpa]; simp
  have hpa2 : (x.a : Int).tmod (M : Int) = (pa : Int) := by rw [Int.tmod_eq_emod_of_nonneg (by omega)]; exact hpa1
  have hwa : IntKind.i64.wrap (x.a : Int) = (x.a : Int) := IntWalk.i64_in _ (by omega)
  have hwc : IntKind.i64.wrap (x.c : Int) = (x.c : Int) := IntWalk.i64_in _ (by omega)
  have hwp : IntKind.i64.wrap (pa : Int) = (pa : Int) := IntWalk.i64_in _ (by omega)
  obtain ⟨qb, hqb⟩ : ∃ qb, x.b % 4 = qb := ⟨_, rfl⟩
  have hqb8 : qb < 8 := by omega
  have hqb1 : (x.b : Int) % 4 = (qb : Int) := by omega
  have hqb2 : (x.b : Int).tmod 4 = (qb : Int) := by rw [Int.tmod_eq_emod_of_nonneg (by omega)]; exact hqb1
  have hqbw : IntKind.i64.wrap (qb : Int) = (qb : Int) := IntWalk.i64_in _ (by omega)
  have hqbu : IntKind.u8.wrap (qb : Int) = (qb : Int) := u8_wrap19 (by omega)
  obtain ⟨pc, hpc⟩ : ∃ pc, x.c % (n + 1) = pc := ⟨_, rfl⟩
  have hpcn : pc < n + 1 := by rw [← hpc]; exact Nat.mod_lt _ (by omega)
  have hn1 : ¬ ((n : Int) + 1) = 0 := by omega
  have hnw : IntKind.i64.wrap ((n : Int) + 1) = (n : Int) + 1 := IntWalk.i64_in _ (by omega)
  have hpc1 : (x.c : Int) % ((n : Int) + 1) = (pc : Int) := by rw [← hpc]; simp
  have hpc2 : (x.c : Int).tmod ((n : Int) + 1) = (pc : Int) := by rw [Int.tmod_eq_emod_of_nonneg (by omega)]; exact hpc1
  have hpcw : IntKind.i64.wrap ((pc : Int) - 1) = (pc : Int) - 1 := IntWalk.i64_in _ (by omega)
  have hmo : x.mo19 s = (match x.kind % 8 with
    | 0 => .make mk (1 + (x.b % 4 : Nat)) false
    | 1 => .make mk (1 + (x.b % 4 : Nat)) false
    | 2 => .load mk pa (x.b % 4 : Nat)
    | 3 => .store mk pa (x.b % 4 : Nat) ((pc : Nat) - 1)
    | 4 => .store mk pa (x.b % 4 : Nat) ((pc : Nat) - 1)
    | 5 => .drop mk pa
    | 6 => .put mk pa (x.b % 8 : Nat)
    | _ => .get mk (x.b % 8 : Nat)) := by
    unfold Mv.mo19
    rw [hmk, hn2, hM, hpa, hpc]
    all_goals rfl
  obtain ⟨wA, hwA⟩ : ∃ wA, w.alloc (.cells #[.int .u8 x.kind, .int .u8 x.m, .int .u8 x.a, .int .u8 x.b, .int .u8 x.c] 123) = wA := ⟨_, rfl⟩
  have kA : Keeps (fun _ => False) w wA := by rw [← hwA]; exact (Keeps.refl _ _).alloc _
  have qA : wA.heap[w.heap.size]? = some (.cells #[.int .u8 x.kind, .int .u8 x.m, .int .u8 x.a, .int .u8 x.b, .int .u8 x.c] 123) := by rw [← hwA]; exact alloc_new
  have HKA := hid kA; have HWA := hid hwA; have HH := hid h
  have HCF := hid (fun W (hk : Keeps (fun _ => False) wA W) => cells5' (block_keep qA hk (fun h => h)))
  have hfl := h.footlt
  have HCG := hid (fun W (hk : Keeps (fun y => L.foot s.A.many y) wA W) => cells5' (block_keep qA hk (fun hf => by have := hfl _ hf; omega)))
  have hw0 := lt_block qA
  obtain ⟨b0, b1, b2, b3, b4⟩ := HCF.out wA (Keeps.refl _ _)
  clear hfl hwA kA qA hn hn2 hM hpa hpc hb0 hb1 hb2 hb3 hb4 hmk
  have hmo' : ((x.mo19 s).doR s).A = (s.A.makeR mk (1 + (qb : Nat)) false).A := by rw [hmo, hk8, hqb]; rfl
  rw [hmo']
  have HA := hid (fun W (hk : Keeps (fun _ => False) w W) => (HH.out.quiet hk).make mk (1 + (qb : Nat)) false)
  clear hmo'
  have hqw : IntKind.i64.wrap (1 + (qb : Int)) = 1 + (qb : Int) := IntWalk.i64_in _ (by omega)
  clear hmo hk8 hqb h
  unfold Mv.val
  go_enter Tryz.func80, Tryz.ntmps80
  go_wp2_with fail
  rw [HWA.out]
  go_wp2_with fail
  refine (HSA.out _ HKA.out).mono ?_
  rintro e w1 ⟨v5, rfl, hr5, k5⟩
  obtain ⟨p5, c5, hv5⟩ := own_shape hr5
  obtain rfl := hv5
  have HK1 := hid k5
  have HKW := hid (HKA.out.trans k5)
  clear b0 b1 b2 b3 b4
  obtain ⟨b0, b1, b2, b3, b4⟩ := HCF.out w1 k5
  rw [HN.out]
  clear k5 hr5
  go_wp2_with fail
  refine (HA.out _ HKW.out).mono ?_
  rintro e w3 ⟨rfl, hs3, hk3⟩
  have HS3 := hid hs3
  have HK3 := hid (HKW.out.up.trans hk3)
  clear hs3 hk3
  go_wp2_with fail
  go_end0
  exact ⟨rfl, HS3.out, HK3.out⟩
set_option maxRecDepth 100000 in
set_option maxHeartbeats 1000000 in
theorem st_load (x : Mv) (h : Ay N w0 w a L s.A) (hm : s.A.many = 2) (hx : x.Byte) (hk8 : x.kind % 8 = 2) :
    Calls Tryz.prog 80 #[x.val, .pointer (some ⟨a, 0, none⟩)] w fun e w' => e = .returned (.tuple #[]) ∧ Ay N w0 w' a L ((x.mo19 s).doR s).A ∧ Keeps (fun y => L.foot s.A.many y) w w' := by
  have hki : (x.kind : Int) % 8 = 2 := by omega
  obtain ⟨hb0, hb1, hb2, hb3, hb4⟩ := hx
  obtain ⟨mk, hmk⟩ : ∃ mk, x.m % 2 = mk := ⟨_, rfl⟩
  have hmkl : mk < 2 := by omega
  have hi1 : (x.m : Int) % 2 = (mk : Int) := by omega
  have hi2 : (x.m : Int).tmod 2 = (mk : Int) := by rw [Int.tmod_eq_emod_of_nonneg (by omega)]; exact hi1
  have hiw : IntKind.i64.wrap (mk : Int) = (mk : Int) := IntWalk.i64_in _ (by omega)
  have hiu : IntKind.u8.wrap (mk : Int) = (mk : Int) := u8_wrap19 (by omega)
  have HSA := hid (fun W (hk : Keeps (fun _ => False) w W) => astackall_ok a L s.A mk W (h.quiet hk).ar (by rw [hm]; exact hmkl))
  obtain ⟨n, hn⟩ : ∃ n, (s.A.rt mk).l.length = n := ⟨_, rfl⟩
  have hn2 : (s.A.rt mk).n = n := by rw [← hn]; simp [Sk.l]
  have hn32 : n ≤ 32 := by rw [← hn2]; exact (h.ok.rt mk (by rw [hm]; exact hmkl)).1
  obtain ⟨M, hM⟩ : ∃ M, max n 1 = M := ⟨_, rfl⟩
  have hM1 : 1 ≤ M ∧ M ≤ 32 := by omega
  have hmax : max (n : Int) 1 = (M : Int) := by omega
  have hMz : ¬ (M : Int) = 0 := by omega
  have HN := hid hn
  obtain ⟨pa, hpa⟩ : ∃ pa, x.a % M = pa := ⟨_, rfl⟩
  have hpaM : pa < M := by rw [← hpa]; exact Nat.mod_lt _ (by omega)
  have hpa1 : (x.a : Int) % (M : Int) = (pa : Int) := by rw [← hpa]; simp
  have hpa2 : (x.a : Int).tmod (M : Int) = (pa : Int) := by rw [Int.tmod_eq_emod_of_nonneg (by omega)]; exact hpa1
  have hwa : IntKind.i64.wrap (x.a : Int) = (x.a : Int) := IntWalk.i64_in _ (by omega)
  have hwc : IntKind.i64.wrap (x.c : Int) = (x.c : Int) := IntWalk.i64_in _ (by omega)
  have hwp : IntKind.i64.wrap (pa : Int) = (pa : Int) := IntWalk.i64_in _ (by omega)
  obtain ⟨qb, hqb⟩ : ∃ qb, x.b % 4 = qb := ⟨_, rfl⟩
  have hqb8 : qb < 8 := by omega
  have hqb1 : (x.b : Int) % 4 = (qb : Int) := by omega
  have hqb2 : (x.b : Int).tmod 4 = (qb : Int) := by rw [Int.tmod_eq_emod_of_nonneg (by omega)]; exact hqb1
  have hqbw : IntKind.i64.wrap (qb : Int) = (qb : Int) := IntWalk.i64_in _ (by omega)
  have hqbu : IntKind.u8.wrap (qb : Int) = (qb : Int) := u8_wrap19 (by omega)
  obtain ⟨pc, hpc⟩ : ∃ pc, x.c % (n + 1) = pc := ⟨_, rfl⟩
  have hpcn : pc < n + 1 := by rw [← hpc]; exact Nat.mod_lt _ (by omega)
  have hn1 : ¬ ((n : Int) + 1) = 0 := by omega
  have hnw : IntKind.i64.wrap ((n : Int) + 1) = (n : Int) + 1 := IntWalk.i64_in _ (by omega)
  have hpc1 : (x.c : Int) % ((n : Int) + 1) = (pc : Int) := by rw [← hpc]; simp
  have hpc2 : (x.c : Int).tmod ((n : Int) + 1) = (pc : Int) := by rw [Int.tmod_eq_emod_of_nonneg (by omega)]; exact hpc1
  have hpcw : IntKind.i64.wrap ((pc : Int) - 1) = (pc : Int) - 1 := IntWalk.i64_in _ (by omega)
  have hmo : x.mo19 s = (match x.kind % 8 with
    | 0 => .make mk (1 + (x.b % 4 : Nat)) false
    | 1 => .make mk (1 + (x.b % 4 : Nat)) false
    | 2 => .load mk pa (x.b % 4 : Nat)
    | 3 => .store mk pa (x.b % 4 : Nat) ((pc : Nat) - 1)
    | 4 => .store mk pa (x.b % 4 : Nat) ((pc : Nat) - 1)
    | 5 => .drop mk pa
    | 6 => .put mk pa (x.b % 8 : Nat)
    | _ => .get mk (x.b % 8 : Nat)) := by
    unfold Mv.mo19
    rw [hmk, hn2, hM, hpa, hpc]
    all_goals rfl
  obtain ⟨wA, hwA⟩ : ∃ wA, w.alloc (.cells #[.int .u8 x.kind, .int .u8 x.m, .int .u8 x.a, .int .u8 x.b, .int .u8 x.c] 123) = wA := ⟨_, rfl⟩
  have kA : Keeps (fun _ => False) w wA := by rw [← hwA]; exact (Keeps.refl _ _).alloc _
  have qA : wA.heap[w.heap.size]? = some (.cells #[.int .u8 x.kind, .int .u8 x.m, .int .u8 x.a, .int .u8 x.b, .int .u8 x.c] 123) := by rw [← hwA]; exact alloc_new
  have HKA := hid kA; have HWA := hid hwA; have HH := hid h
  have HCF := hid (fun W (hk : Keeps (fun _ => False) wA W) => cells5' (block_keep qA hk (fun h => h)))
  have hfl := h.footlt
  have HCG := hid (fun W (hk : Keeps (fun y => L.foot s.A.many y) wA W) => cells5' (block_keep qA hk (fun hf => by have := hfl _ hf; omega)))
  have hw0 := lt_block qA
  obtain ⟨b0, b1, b2, b3, b4⟩ := HCF.out wA (Keeps.refl _ _)
  clear hfl hwA kA qA hn hn2 hM hpa hpc hb0 hb1 hb2 hb3 hb4 hmk
  have hmo' : ((x.mo19 s).doR s).A = (s.A.loadR mk pa qb).A := by rw [hmo, hk8, hqb]; rfl
  rw [hmo']
  have HA := hid (fun W (hk : Keeps (fun _ => False) w W) => (HH.out.quiet hk).load mk pa qb)
  clear hmo'
  clear hmo hk8 hqb h
  unfold Mv.val
  go_enter Tryz.func80, Tryz.ntmps80
  go_wp2_with fail
  rw [HWA.out]
  go_wp2_with fail
  refine (HSA.out _ HKA.out).mono ?_
  rintro e w1 ⟨v5, rfl, hr5, k5⟩
  obtain ⟨p5, c5, hv5⟩ := own_shape hr5
  obtain rfl := hv5
  have HK1 := hid k5
  have HKW := hid (HKA.out.trans k5)
  clear b0 b1 b2 b3 b4
  obtain ⟨b0, b1, b2, b3, b4⟩ := HCF.out w1 k5
  rw [HN.out]
  clear k5 hr5
  go_wp2_with fail
  refine (HA.out _ HKW.out).mono ?_
  rintro e w3 ⟨rfl, hs3, hk3⟩
  have HS3 := hid hs3
  have HK3 := hid (HKW.out.up.trans hk3)
  clear hs3 hk3
  go_wp2_with fail
  go_end0
  exact ⟨rfl, HS3.out, HK3.out⟩
set_option maxRecDepth 100000 in
set_option maxHeartbeats 1000000 in
theorem st_put (x : Mv) (h : Ay N w0 w a L s.A) (hm : s.A.many = 2) (hx : x.Byte) (hk8 : x.kind % 8 = 6) :
    Calls Tryz.prog 80 #[x.val, .pointer (some ⟨a, 0, none⟩)] w fun e w' => e = .returned (.tuple #[]) ∧ Ay N w0 w' a L ((x.mo19 s).doR s).A ∧ Keeps (fun y => L.foot s.A.many y) w w' := by
  have hki : (x.kind : Int) % 8 = 6 := by omega
  obtain ⟨hb0, hb1, hb2, hb3, hb4⟩ := hx
  obtain ⟨mk, hmk⟩ : ∃ mk, x.m % 2 = mk := ⟨_, rfl⟩
  have hmkl : mk < 2 := by omega
  have hi1 : (x.m : Int) % 2 = (mk : Int) := by omega
  have hi2 : (x.m : Int).tmod 2 = (mk : Int) := by rw [Int.tmod_eq_emod_of_nonneg (by omega)]; exact hi1
  have hiw : IntKind.i64.wrap (mk : Int) = (mk : Int) := IntWalk.i64_in _ (by omega)
  have hiu : IntKind.u8.wrap (mk : Int) = (mk : Int) := u8_wrap19 (by omega)
  have HSA := hid (fun W (hk : Keeps (fun _ => False) w W) => astackall_ok a L s.A mk W (h.quiet hk).ar (by rw [hm]; exact hmkl))
  obtain ⟨n, hn⟩ : ∃ n, (s.A.rt mk).l.length = n := ⟨_, rfl⟩
  have hn2 : (s.A.rt mk).n = n := by rw [← hn]; simp [Sk.l]
  have hn32 : n ≤ 32 := by rw [← hn2]; exact (h.ok.rt mk (by rw [hm]; exact hmkl)).1
  obtain ⟨M, hM⟩ : ∃ M, max n 1 = M := ⟨_, rfl⟩
  have hM1 : 1 ≤ M ∧ M ≤ 32 := by omega
  have hmax : max (n : Int) 1 = (M : Int) := by omega
  have hMz : ¬ (M : Int) = 0 := by omega
  have HN := hid hn
  obtain ⟨pa, hpa⟩ : ∃ pa, x.a % M = pa := ⟨_, rfl⟩
  have hpaM : pa < M := by rw [← hpa]; exact Nat.mod_lt _ (by omega)
  have hpa1 : (x.a : Int) % (M : Int) = (pa : Int) := by rw [← hpa]; simp
  have hpa2 : (x.a : Int).tmod (M : Int) = (pa : Int) := by rw [Int.tmod_eq_emod_of_nonneg (by omega)]; exact hpa1
  have hwa : IntKind.i64.wrap (x.a : Int) = (x.a : Int) := IntWalk.i64_in _ (by omega)
  have hwc : IntKind.i64.wrap (x.c : Int) = (x.c : Int) := IntWalk.i64_in _ (by omega)
  have hwp : IntKind.i64.wrap (pa : Int) = (pa : Int) := IntWalk.i64_in _ (by omega)
  obtain ⟨qb, hqb⟩ : ∃ qb, x.b % 8 = qb := ⟨_, rfl⟩
  have hqb8 : qb < 8 := by omega
  have hqb1 : (x.b : Int) % 8 = (qb : Int) := by omega
  have hqb2 : (x.b : Int).tmod 8 = (qb : Int) := by rw [Int.tmod_eq_emod_of_nonneg (by omega)]; exact hqb1
  have hqbw : IntKind.i64.wrap (qb : Int) = (qb : Int) := IntWalk.i64_in _ (by omega)
  have hqbu : IntKind.u8.wrap (qb : Int) = (qb : Int) := u8_wrap19 (by omega)
  obtain ⟨pc, hpc⟩ : ∃ pc, x.c % (n + 1) = pc := ⟨_, rfl⟩
  have hpcn : pc < n + 1 := by rw [← hpc]; exact Nat.mod_lt _ (by omega)
  have hn1 : ¬ ((n : Int) + 1) = 0 := by omega
  have hnw : IntKind.i64.wrap ((n : Int) + 1) = (n : Int) + 1 := IntWalk.i64_in _ (by omega)
  have hpc1 : (x.c : Int) % ((n : Int) + 1) = (pc : Int) := by rw [← hpc]; simp
  have hpc2 : (x.c : Int).tmod ((n : Int) + 1) = (pc : Int) := by rw [Int.tmod_eq_emod_of_nonneg (by omega)]; exact hpc1
  have hpcw : IntKind.i64.wrap ((pc : Int) - 1) = (pc : Int) - 1 := IntWalk.i64_in _ (by omega)
  have hmo : x.mo19 s = (match x.kind % 8 with
    | 0 => .make mk (1 + (x.b % 4 : Nat)) false
    | 1 => .make mk (1 + (x.b % 4 : Nat)) false
    | 2 => .load mk pa (x.b % 4 : Nat)
    | 3 => .store mk pa (x.b % 4 : Nat) ((pc : Nat) - 1)
    | 4 => .store mk pa (x.b % 4 : Nat) ((pc : Nat) - 1)
    | 5 => .drop mk pa
    | 6 => .put mk pa (x.b % 8 : Nat)
    | _ => .get mk (x.b % 8 : Nat)) := by
    unfold Mv.mo19
    rw [hmk, hn2, hM, hpa, hpc]
    all_goals rfl
  obtain ⟨wA, hwA⟩ : ∃ wA, w.alloc (.cells #[.int .u8 x.kind, .int .u8 x.m, .int .u8 x.a, .int .u8 x.b, .int .u8 x.c] 123) = wA := ⟨_, rfl⟩
  have kA : Keeps (fun _ => False) w wA := by rw [← hwA]; exact (Keeps.refl _ _).alloc _
  have qA : wA.heap[w.heap.size]? = some (.cells #[.int .u8 x.kind, .int .u8 x.m, .int .u8 x.a, .int .u8 x.b, .int .u8 x.c] 123) := by rw [← hwA]; exact alloc_new
  have HKA := hid kA; have HWA := hid hwA; have HH := hid h
  have HCF := hid (fun W (hk : Keeps (fun _ => False) wA W) => cells5' (block_keep qA hk (fun h => h)))
  have hfl := h.footlt
  have HCG := hid (fun W (hk : Keeps (fun y => L.foot s.A.many y) wA W) => cells5' (block_keep qA hk (fun hf => by have := hfl _ hf; omega)))
  have hw0 := lt_block qA
  obtain ⟨b0, b1, b2, b3, b4⟩ := HCF.out wA (Keeps.refl _ _)
  clear hfl hwA kA qA hn hn2 hM hpa hpc hb0 hb1 hb2 hb3 hb4 hmk
  have hmo' : ((x.mo19 s).doR s).A = (s.A.putR mk pa qb).A := by rw [hmo, hk8, hqb]; rfl
  rw [hmo']
  have HA := hid (fun W (hk : Keeps (fun _ => False) w W) => (HH.out.quiet hk).put mk pa qb)
  clear hmo'
  clear hmo hk8 hqb h
  unfold Mv.val
  go_enter Tryz.func80, Tryz.ntmps80
  go_wp2_with fail
  rw [HWA.out]
  go_wp2_with fail
  refine (HSA.out _ HKA.out).mono ?_
  rintro e w1 ⟨v5, rfl, hr5, k5⟩
  obtain ⟨p5, c5, hv5⟩ := own_shape hr5
  obtain rfl := hv5
  have HK1 := hid k5
  have HKW := hid (HKA.out.trans k5)
  clear b0 b1 b2 b3 b4
  obtain ⟨b0, b1, b2, b3, b4⟩ := HCF.out w1 k5
  rw [HN.out]
  clear k5 hr5
  go_wp2_with fail
  refine (HA.out _ HKW.out).mono ?_
  rintro e w3 ⟨rfl, hs3, hk3⟩
  have HS3 := hid hs3
  have HK3 := hid (HKW.out.up.trans hk3)
  clear hs3 hk3
  go_wp2_with fail
  go_end0
  exact ⟨rfl, HS3.out, HK3.out⟩
set_option maxRecDepth 100000 in
set_option maxHeartbeats 1000000 in
theorem st_get (x : Mv) (h : Ay N w0 w a L s.A) (hm : s.A.many = 2) (hx : x.Byte) (hk8 : x.kind % 8 = 7) :
    Calls Tryz.prog 80 #[x.val, .pointer (some ⟨a, 0, none⟩)] w fun e w' => e = .returned (.tuple #[]) ∧ Ay N w0 w' a L ((x.mo19 s).doR s).A ∧ Keeps (fun y => L.foot s.A.many y) w w' := by
  have hki : (x.kind : Int) % 8 = 7 := by omega
  obtain ⟨hb0, hb1, hb2, hb3, hb4⟩ := hx
  obtain ⟨mk, hmk⟩ : ∃ mk, x.m % 2 = mk := ⟨_, rfl⟩
  have hmkl : mk < 2 := by omega
  have hi1 : (x.m : Int) % 2 = (mk : Int) := by omega
  have hi2 : (x.m : Int).tmod 2 = (mk : Int) := by rw [Int.tmod_eq_emod_of_nonneg (by omega)]; exact hi1
  have hiw : IntKind.i64.wrap (mk : Int) = (mk : Int) := IntWalk.i64_in _ (by omega)
  have hiu : IntKind.u8.wrap (mk : Int) = (mk : Int) := u8_wrap19 (by omega)
  have HSA := hid (fun W (hk : Keeps (fun _ => False) w W) => astackall_ok a L s.A mk W (h.quiet hk).ar (by rw [hm]; exact hmkl))
  obtain ⟨n, hn⟩ : ∃ n, (s.A.rt mk).l.length = n := ⟨_, rfl⟩
  have hn2 : (s.A.rt mk).n = n := by rw [← hn]; simp [Sk.l]
  have hn32 : n ≤ 32 := by rw [← hn2]; exact (h.ok.rt mk (by rw [hm]; exact hmkl)).1
  obtain ⟨M, hM⟩ : ∃ M, max n 1 = M := ⟨_, rfl⟩
  have hM1 : 1 ≤ M ∧ M ≤ 32 := by omega
  have hmax : max (n : Int) 1 = (M : Int) := by omega
  have hMz : ¬ (M : Int) = 0 := by omega
  have HN := hid hn
  obtain ⟨pa, hpa⟩ : ∃ pa, x.a % M = pa := ⟨_, rfl⟩
  have hpaM : pa < M := by rw [← hpa]; exact Nat.mod_lt _ (by omega)
  have hpa1 : (x.a : Int) % (M : Int) = (pa : Int) := by rw [← hpa]; simp
  have hpa2 : (x.a : Int).tmod (M : Int) = (pa : Int) := by rw [Int.tmod_eq_emod_of_nonneg (by omega)]; exact hpa1
  have hwa : IntKind.i64.wrap (x.a : Int) = (x.a : Int) := IntWalk.i64_in _ (by omega)
  have hwc : IntKind.i64.wrap (x.c : Int) = (x.c : Int) := IntWalk.i64_in _ (by omega)
  have hwp : IntKind.i64.wrap (pa : Int) = (pa : Int) := IntWalk.i64_in _ (by omega)
  obtain ⟨qb, hqb⟩ : ∃ qb, x.b % 8 = qb := ⟨_, rfl⟩
  have hqb8 : qb < 8 := by omega
  have hqb1 : (x.b : Int) % 8 = (qb : Int) := by omega
  have hqb2 : (x.b : Int).tmod 8 = (qb : Int) := by rw [Int.tmod_eq_emod_of_nonneg (by omega)]; exact hqb1
  have hqbw : IntKind.i64.wrap (qb : Int) = (qb : Int) := IntWalk.i64_in _ (by omega)
  have hqbu : IntKind.u8.wrap (qb : Int) = (qb : Int) := u8_wrap19 (by omega)
  obtain ⟨pc, hpc⟩ : ∃ pc, x.c % (n + 1) = pc := ⟨_, rfl⟩
  have hpcn : pc < n + 1 := by rw [← hpc]; exact Nat.mod_lt _ (by omega)
  have hn1 : ¬ ((n : Int) + 1) = 0 := by omega
  have hnw : IntKind.i64.wrap ((n : Int) + 1) = (n : Int) + 1 := IntWalk.i64_in _ (by omega)
  have hpc1 : (x.c : Int) % ((n : Int) + 1) = (pc : Int) := by rw [← hpc]; simp
  have hpc2 : (x.c : Int).tmod ((n : Int) + 1) = (pc : Int) := by rw [Int.tmod_eq_emod_of_nonneg (by omega)]; exact hpc1
  have hpcw : IntKind.i64.wrap ((pc : Int) - 1) = (pc : Int) - 1 := IntWalk.i64_in _ (by omega)
  have hmo : x.mo19 s = (match x.kind % 8 with
    | 0 => .make mk (1 + (x.b % 4 : Nat)) false
    | 1 => .make mk (1 + (x.b % 4 : Nat)) false
    | 2 => .load mk pa (x.b % 4 : Nat)
    | 3 => .store mk pa (x.b % 4 : Nat) ((pc : Nat) - 1)
    | 4 => .store mk pa (x.b % 4 : Nat) ((pc : Nat) - 1)
    | 5 => .drop mk pa
    | 6 => .put mk pa (x.b % 8 : Nat)
    | _ => .get mk (x.b % 8 : Nat)) := by
    unfold Mv.mo19
    rw [hmk, hn2, hM, hpa, hpc]
    all_goals rfl
  obtain ⟨wA, hwA⟩ : ∃ wA, w.alloc (.cells #[.int .u8 x.kind, .int .u8 x.m, .int .u8 x.a, .int .u8 x.b, .int .u8 x.c] 123) = wA := ⟨_, rfl⟩
  have kA : Keeps (fun _ => False) w wA := by rw [← hwA]; exact (Keeps.refl _ _).alloc _
  have qA : wA.heap[w.heap.size]? = some (.cells #[.int .u8 x.kind, .int .u8 x.m, .int .u8 x.a, .int .u8 x.b, .int .u8 x.c] 123) := by rw [← hwA]; exact alloc_new
  have HKA := hid kA; have HWA := hid hwA; have HH := hid h
  have HCF := hid (fun W (hk : Keeps (fun _ => False) wA W) => cells5' (block_keep qA hk (fun h => h)))
  have hfl := h.footlt
  have HCG := hid (fun W (hk : Keeps (fun y => L.foot s.A.many y) wA W) => cells5' (block_keep qA hk (fun hf => by have := hfl _ hf; omega)))
  have hw0 := lt_block qA
  obtain ⟨b0, b1, b2, b3, b4⟩ := HCF.out wA (Keeps.refl _ _)
  clear hfl hwA kA qA hn hn2 hM hpa hpc hb0 hb1 hb2 hb3 hb4 hmk
  have hmo' : ((x.mo19 s).doR s).A = (s.A.getR mk qb).A := by rw [hmo, hk8, hqb]; rfl
  rw [hmo']
  have HA := hid (fun W (hk : Keeps (fun _ => False) w W) => (HH.out.quiet hk).get mk qb)
  clear hmo'
  clear hmo hk8 hqb h
  unfold Mv.val
  go_enter Tryz.func80, Tryz.ntmps80
  go_wp2_with fail
  rw [HWA.out]
  go_wp2_with fail
  refine (HSA.out _ HKA.out).mono ?_
  rintro e w1 ⟨v5, rfl, hr5, k5⟩
  obtain ⟨p5, c5, hv5⟩ := own_shape hr5
  obtain rfl := hv5
  have HK1 := hid k5
  have HKW := hid (HKA.out.trans k5)
  clear b0 b1 b2 b3 b4
  obtain ⟨b0, b1, b2, b3, b4⟩ := HCF.out w1 k5
  rw [HN.out]
  clear k5 hr5
  go_wp2_with fail
  refine (HA.out _ HKW.out).mono ?_
  rintro e w3 ⟨rfl, hs3, hk3⟩
  have HS3 := hid hs3
  have HK3 := hid (HKW.out.up.trans hk3)
  clear hs3 hk3
  go_wp2_with fail
  go_end0
  exact ⟨rfl, HS3.out, HK3.out⟩
set_option maxRecDepth 100000 in
set_option maxHeartbeats 1000000 in
theorem st_store3 (x : Mv) (h : Ay N w0 w a L s.A) (hm : s.A.many = 2) (hx : x.Byte) (hk8 : x.kind % 8 = 3) :
    Calls Tryz.prog 80 #[x.val, .pointer (some ⟨a, 0, none⟩)] w fun e w' => e = .returned (.tuple #[]) ∧ Ay N w0 w' a L ((x.mo19 s).doR s).A ∧ Keeps (fun y => L.foot s.A.many y) w w' := by
  have hki : (x.kind : Int) % 8 = 3 := by omega
  obtain ⟨hb0, hb1, hb2, hb3, hb4⟩ := hx
  obtain ⟨mk, hmk⟩ : ∃ mk, x.m % 2 = mk := ⟨_, rfl⟩
  have hmkl : mk < 2 := by omega
  have hi1 : (x.m : Int) % 2 = (mk : Int) := by omega
  have hi2 : (x.m : Int).tmod 2 = (mk : Int) := by rw [Int.tmod_eq_emod_of_nonneg (by omega)]; exact hi1
  have hiw : IntKind.i64.wrap (mk : Int) = (mk : Int) := IntWalk.i64_in _ (by omega)
  have hiu : IntKind.u8.wrap (mk : Int) = (mk : Int) := u8_wrap19 (by omega)
  have HSA := hid (fun W (hk : Keeps (fun _ => False) w W) => astackall_ok a L s.A mk W (h.quiet hk).ar (by rw [hm]; exact hmkl))
  obtain ⟨n, hn⟩ : ∃ n, (s.A.rt mk).l.length = n := ⟨_, rfl⟩
  have hn2 : (s.A.rt mk).n = n := by rw [← hn]; simp [Sk.l]
  have hn32 : n ≤ 32 := by rw [← hn2]; exact (h.ok.rt mk (by rw [hm]; exact hmkl)).1
  obtain ⟨M, hM⟩ : ∃ M, max n 1 = M := ⟨_, rfl⟩
  have hM1 : 1 ≤ M ∧ M ≤ 32 := by omega
  have hmax : max (n : Int) 1 = (M : Int) := by omega
  have hMz : ¬ (M : Int) = 0 := by omega
  have HN := hid hn
  obtain ⟨pa, hpa⟩ : ∃ pa, x.a % M = pa := ⟨_, rfl⟩
  have hpaM : pa < M := by rw [← hpa]; exact Nat.mod_lt _ (by omega)
  have hpa1 : (x.a : Int) % (M : Int) = (pa : Int) := by rw [← hpa]; simp
  have hpa2 : (x.a : Int).tmod (M : Int) = (pa : Int) := by rw [Int.tmod_eq_emod_of_nonneg (by omega)]; exact hpa1
  have hwa : IntKind.i64.wrap (x.a : Int) = (x.a : Int) := IntWalk.i64_in _ (by omega)
  have hwc : IntKind.i64.wrap (x.c : Int) = (x.c : Int) := IntWalk.i64_in _ (by omega)
  have hwp : IntKind.i64.wrap (pa : Int) = (pa : Int) := IntWalk.i64_in _ (by omega)
  obtain ⟨qb, hqb⟩ : ∃ qb, x.b % 4 = qb := ⟨_, rfl⟩
  have hqb8 : qb < 8 := by omega
  have hqb1 : (x.b : Int) % 4 = (qb : Int) := by omega
  have hqb2 : (x.b : Int).tmod 4 = (qb : Int) := by rw [Int.tmod_eq_emod_of_nonneg (by omega)]; exact hqb1
  have hqbw : IntKind.i64.wrap (qb : Int) = (qb : Int) := IntWalk.i64_in _ (by omega)
  have hqbu : IntKind.u8.wrap (qb : Int) = (qb : Int) := u8_wrap19 (by omega)
  obtain ⟨pc, hpc⟩ : ∃ pc, x.c % (n + 1) = pc := ⟨_, rfl⟩
  have hpcn : pc < n + 1 := by rw [← hpc]; exact Nat.mod_lt _ (by omega)
  have hn1 : ¬ ((n : Int) + 1) = 0 := by omega
  have hnw : IntKind.i64.wrap ((n : Int) + 1) = (n : Int) + 1 := IntWalk.i64_in _ (by omega)
  have hpc1 : (x.c : Int) % ((n : Int) + 1) = (pc : Int) := by rw [← hpc]; simp
  have hpc2 : (x.c : Int).tmod ((n : Int) + 1) = (pc : Int) := by rw [Int.tmod_eq_emod_of_nonneg (by omega)]; exact hpc1
  have hpcw : IntKind.i64.wrap ((pc : Int) - 1) = (pc : Int) - 1 := IntWalk.i64_in _ (by omega)
  have hmo : x.mo19 s = (match x.kind % 8 with
    | 0 => .make mk (1 + (x.b % 4 : Nat)) false
    | 1 => .make mk (1 + (x.b % 4 : Nat)) false
    | 2 => .load mk pa (x.b % 4 : Nat)
    | 3 => .store mk pa (x.b % 4 : Nat) ((pc : Nat) - 1)
    | 4 => .store mk pa (x.b % 4 : Nat) ((pc : Nat) - 1)
    | 5 => .drop mk pa
    | 6 => .put mk pa (x.b % 8 : Nat)
    | _ => .get mk (x.b % 8 : Nat)) := by
    unfold Mv.mo19
    rw [hmk, hn2, hM, hpa, hpc]
    all_goals rfl
  obtain ⟨wA, hwA⟩ : ∃ wA, w.alloc (.cells #[.int .u8 x.kind, .int .u8 x.m, .int .u8 x.a, .int .u8 x.b, .int .u8 x.c] 123) = wA := ⟨_, rfl⟩
  have kA : Keeps (fun _ => False) w wA := by rw [← hwA]; exact (Keeps.refl _ _).alloc _
  have qA : wA.heap[w.heap.size]? = some (.cells #[.int .u8 x.kind, .int .u8 x.m, .int .u8 x.a, .int .u8 x.b, .int .u8 x.c] 123) := by rw [← hwA]; exact alloc_new
  have HKA := hid kA; have HWA := hid hwA; have HH := hid h
  have HCF := hid (fun W (hk : Keeps (fun _ => False) wA W) => cells5' (block_keep qA hk (fun h => h)))
  have hfl := h.footlt
  have HCG := hid (fun W (hk : Keeps (fun y => L.foot s.A.many y) wA W) => cells5' (block_keep qA hk (fun hf => by have := hfl _ hf; omega)))
  have hw0 := lt_block qA
  obtain ⟨b0, b1, b2, b3, b4⟩ := HCF.out wA (Keeps.refl _ _)
  clear hfl hwA kA qA hn hn2 hM hpa hpc hb0 hb1 hb2 hb3 hb4 hmk
  have hmo' : ((x.mo19 s).doR s).A = (s.A.storeR mk pa qb ((pc : Nat) - 1)).A := by rw [hmo, hk8, hqb]; rfl
  rw [hmo']
  have HA := hid (fun W (hk : Keeps (fun _ => False) w W) => (HH.out.quiet hk).store mk pa qb ((pc : Nat) - 1))
  clear hmo'
  clear hmo hk8 hqb h
  unfold Mv.val
  go_enter Tryz.func80, Tryz.ntmps80
  go_wp2_with fail
  rw [HWA.out]
  go_wp2_with fail
  refine (HSA.out _ HKA.out).mono ?_
  rintro e w1 ⟨v5, rfl, hr5, k5⟩
  obtain ⟨p5, c5, hv5⟩ := own_shape hr5
  obtain rfl := hv5
  have HK1 := hid k5
  have HKW := hid (HKA.out.trans k5)
  clear b0 b1 b2 b3 b4
  obtain ⟨b0, b1, b2, b3, b4⟩ := HCF.out w1 k5
  rw [HN.out]
  clear k5 hr5
  go_wp2_with fail
  have HPS := hid (fun W (hk : Keeps (fun y => L.foot s.A.many y) wA W) => And.intro (HCG.out W hk).2.2.2.1 (HCG.out W hk).2.2.2.2)
  clear b0 b1 b2 b3 b4
  go_region_held3 (fun W => W.cell? ⟨w.heap.size, 3, none⟩ = some (.int .u8 x.b) ∧ W.cell? ⟨w.heap.size, 4, none⟩ = some (.int .u8 x.c))
    ((refine HPS.out _ ?_; (repeat (first | with_reducible exact HK1.out.up | with_reducible refine Keeps.drewN ?_ _ | with_reducible refine Keeps.drew ?_ | with_reducible refine Keeps.trans ?_ hk3))))
    (first | (go_at_call 103; refine (HA.out _ (by (repeat (first | with_reducible exact HKW.out | with_reducible refine Keeps.drewN ?_ _ | with_reducible refine Keeps.drew ?_)))).mono ?_; rintro e w3 ⟨rfl, hs3, hk3⟩))
  have HS3 := hid hs3
  have HK3 := hid (show Keeps (fun y => L.foot s.A.many y) w w3 from Keeps.trans (Keeps.up (by (repeat (first | with_reducible exact HKW.out | with_reducible refine Keeps.drewN ?_ _ | with_reducible refine Keeps.drew ?_)))) hk3)
  clear hs3 hk3
  go_wp2_with fail
  go_end0
  exact ⟨rfl, HS3.out, HK3.out⟩
set_option maxRecDepth 100000 in
set_option maxHeartbeats 1000000 in
theorem st_store4 (x : Mv) (h : Ay N w0 w a L s.A) (hm : s.A.many = 2) (hx : x.Byte) (hk8 : x.kind % 8 = 4) :
    Calls Tryz.prog 80 #[x.val, .pointer (some ⟨a, 0, none⟩)] w fun e w' => e = .returned (.tuple #[]) ∧ Ay N w0 w' a L ((x.mo19 s).doR s).A ∧ Keeps (fun y => L.foot s.A.many y) w w' := by
  have hki : (x.kind : Int) % 8 = 4 := by omega
  obtain ⟨hb0, hb1, hb2, hb3, hb4⟩ := hx
  obtain ⟨mk, hmk⟩ : ∃ mk, x.m % 2 = mk := ⟨_, rfl⟩
  have hmkl : mk < 2 := by omega
  have hi1 : (x.m : Int) % 2 = (mk : Int) := by omega
  have hi2 : (x.m : Int).tmod 2 = (mk : Int) := by rw [Int.tmod_eq_emod_of_nonneg (by omega)]; exact hi1
  have hiw : IntKind.i64.wrap (mk : Int) = (mk : Int) := IntWalk.i64_in _ (by omega)
  have hiu : IntKind.u8.wrap (mk : Int) = (mk : Int) := u8_wrap19 (by omega)
  have HSA := hid (fun W (hk : Keeps (fun _ => False) w W) => astackall_ok a L s.A mk W (h.quiet hk).ar (by rw [hm]; exact hmkl))
  obtain ⟨n, hn⟩ : ∃ n, (s.A.rt mk).l.length = n := ⟨_, rfl⟩
  have hn2 : (s.A.rt mk).n = n := by rw [← hn]; simp [Sk.l]
  have hn32 : n ≤ 32 := by rw [← hn2]; exact (h.ok.rt mk (by rw [hm]; exact hmkl)).1
  obtain ⟨M, hM⟩ : ∃ M, max n 1 = M := ⟨_, rfl⟩
  have hM1 : 1 ≤ M ∧ M ≤ 32 := by omega
  have hmax : max (n : Int) 1 = (M : Int) := by omega
  have hMz : ¬ (M : Int) = 0 := by omega
  have HN := hid hn
  obtain ⟨pa, hpa⟩ : ∃ pa, x.a % M = pa := ⟨_, rfl⟩
  have hpaM : pa < M := by rw [← hpa]; exact Nat.mod_lt _ (by omega)
  have hpa1 : (x.a : Int) % (M : Int) = (pa : Int) := by rw [← hpa]; simp
  have hpa2 : (x.a : Int).tmod (M : Int) = (pa : Int) := by rw [Int.tmod_eq_emod_of_nonneg (by omega)]; exact hpa1
  have hwa : IntKind.i64.wrap (x.a : Int) = (x.a : Int) := IntWalk.i64_in _ (by omega)
  have hwc : IntKind.i64.wrap (x.c : Int) = (x.c : Int) := IntWalk.i64_in _ (by omega)
  have hwp : IntKind.i64.wrap (pa : Int) = (pa : Int) := IntWalk.i64_in _ (by omega)
  obtain ⟨qb, hqb⟩ : ∃ qb, x.b % 4 = qb := ⟨_, rfl⟩
  have hqb8 : qb < 8 := by omega
  have hqb1 : (x.b : Int) % 4 = (qb : Int) := by omega
  have hqb2 : (x.b : Int).tmod 4 = (qb : Int) := by rw [Int.tmod_eq_emod_of_nonneg (by omega)]; exact hqb1
  have hqbw : IntKind.i64.wrap (qb : Int) = (qb : Int) := IntWalk.i64_in _ (by omega)
  have hqbu : IntKind.u8.wrap (qb : Int) = (qb : Int) := u8_wrap19 (by omega)
  obtain ⟨pc, hpc⟩ : ∃ pc, x.c % (n + 1) = pc := ⟨_, rfl⟩
  have hpcn : pc < n + 1 := by rw [← hpc]; exact Nat.mod_lt _ (by omega)
  have hn1 : ¬ ((n : Int) + 1) = 0 := by omega
  have hnw : IntKind.i64.wrap ((n : Int) + 1) = (n : Int) + 1 := IntWalk.i64_in _ (by omega)
  have hpc1 : (x.c : Int) % ((n : Int) + 1) = (pc : Int) := by rw [← hpc]; simp
  have hpc2 : (x.c : Int).tmod ((n : Int) + 1) = (pc : Int) := by rw [Int.tmod_eq_emod_of_nonneg (by omega)]; exact hpc1
  have hpcw : IntKind.i64.wrap ((pc : Int) - 1) = (pc : Int) - 1 := IntWalk.i64_in _ (by omega)
  have hmo : x.mo19 s = (match x.kind % 8 with
    | 0 => .make mk (1 + (x.b % 4 : Nat)) false
    | 1 => .make mk (1 + (x.b % 4 : Nat)) false
    | 2 => .load mk pa (x.b % 4 : Nat)
    | 3 => .store mk pa (x.b % 4 : Nat) ((pc : Nat) - 1)
    | 4 => .store mk pa (x.b % 4 : Nat) ((pc : Nat) - 1)
    | 5 => .drop mk pa
    | 6 => .put mk pa (x.b % 8 : Nat)
    | _ => .get mk (x.b % 8 : Nat)) := by
    unfold Mv.mo19
    rw [hmk, hn2, hM, hpa, hpc]
    all_goals rfl
  obtain ⟨wA, hwA⟩ : ∃ wA, w.alloc (.cells #[.int .u8 x.kind, .int .u8 x.m, .int .u8 x.a, .int .u8 x.b, .int .u8 x.c] 123) = wA := ⟨_, rfl⟩
  have kA : Keeps (fun _ => False) w wA := by rw [← hwA]; exact (Keeps.refl _ _).alloc _
  have qA : wA.heap[w.heap.size]? = some (.cells #[.int .u8 x.kind, .int .u8 x.m, .int .u8 x.a, .int .u8 x.b, .int .u8 x.c] 123) := by rw [← hwA]; exact alloc_new
  have HKA := hid kA; have HWA := hid hwA; have HH := hid h
  have HCF := hid (fun W (hk : Keeps (fun _ => False) wA W) => cells5' (block_keep qA hk (fun h => h)))
  have hfl := h.footlt
  have HCG := hid (fun W (hk : Keeps (fun y => L.foot s.A.many y) wA W) => cells5' (block_keep qA hk (fun hf => by have := hfl _ hf; omega)))
  have hw0 := lt_block qA
  obtain ⟨b0, b1, b2, b3, b4⟩ := HCF.out wA (Keeps.refl _ _)
  clear hfl hwA kA qA hn hn2 hM hpa hpc hb0 hb1 hb2 hb3 hb4 hmk
  have hmo' : ((x.mo19 s).doR s).A = (s.A.storeR mk pa qb ((pc : Nat) - 1)).A := by rw [hmo, hk8, hqb]; rfl
  rw [hmo']
  have HA := hid (fun W (hk : Keeps (fun _ => False) w W) => (HH.out.quiet hk).store mk pa qb ((pc : Nat) - 1))
  clear hmo'
  clear hmo hk8 hqb h
  unfold Mv.val
  go_enter Tryz.func80, Tryz.ntmps80
  go_wp2_with fail
  rw [HWA.out]
  go_wp2_with fail
  refine (HSA.out _ HKA.out).mono ?_
  rintro e w1 ⟨v5, rfl, hr5, k5⟩
  obtain ⟨p5, c5, hv5⟩ := own_shape hr5
  obtain rfl := hv5
  have HK1 := hid k5
  have HKW := hid (HKA.out.trans k5)
  clear b0 b1 b2 b3 b4
  obtain ⟨b0, b1, b2, b3, b4⟩ := HCF.out w1 k5
  rw [HN.out]
  clear k5 hr5
  go_wp2_with fail
  have HPS := hid (fun W (hk : Keeps (fun y => L.foot s.A.many y) wA W) => And.intro (HCG.out W hk).2.2.2.1 (HCG.out W hk).2.2.2.2)
  clear b0 b1 b2 b3 b4
  go_region_held3 (fun W => W.cell? ⟨w.heap.size, 3, none⟩ = some (.int .u8 x.b) ∧ W.cell? ⟨w.heap.size, 4, none⟩ = some (.int .u8 x.c))
    ((refine HPS.out _ ?_; (repeat (first | with_reducible exact HK1.out.up | with_reducible refine Keeps.drewN ?_ _ | with_reducible refine Keeps.drew ?_ | with_reducible refine Keeps.trans ?_ hk3))))
    (first | (go_at_call 103; refine (HA.out _ (by (repeat (first | with_reducible exact HKW.out | with_reducible refine Keeps.drewN ?_ _ | with_reducible refine Keeps.drew ?_)))).mono ?_; rintro e w3 ⟨rfl, hs3, hk3⟩))
  have HS3 := hid hs3
  have HK3 := hid (show Keeps (fun y => L.foot s.A.many y) w w3 from Keeps.trans (Keeps.up (by (repeat (first | with_reducible exact HKW.out | with_reducible refine Keeps.drewN ?_ _ | with_reducible refine Keeps.drew ?_)))) hk3)
  clear hs3 hk3
  go_wp2_with fail
  go_end0
  exact ⟨rfl, HS3.out, HK3.out⟩
theorem step19 (x : Mv) (h : Ay N w0 w a L s.A) (hm : s.A.many = 2) (hx : x.Byte) :
    Calls Tryz.prog 80 #[x.val, .pointer (some ⟨a, 0, none⟩)] w fun e w' => e = .returned (.tuple #[]) ∧ Ay N w0 w' a L ((x.mo19 s).doR s).A ∧ Keeps (fun y => L.foot s.A.many y) w w' := by
  have hlt := Nat.mod_lt x.kind (show 0 < 8 by omega)
  obtain hk | hk | hk | hk | hk | hk | hk | hk : x.kind % 8 = 0 ∨ x.kind % 8 = 1 ∨ x.kind % 8 = 2 ∨ x.kind % 8 = 3 ∨ x.kind % 8 = 4 ∨ x.kind % 8 = 5 ∨ x.kind % 8 = 6 ∨ x.kind % 8 = 7 := by omega
  · exact st_make0 x h hm hx hk
  · exact st_make1 x h hm hx hk
  · exact st_load x h hm hx hk
  · exact st_store3 x h hm hx hk
  · exact st_store4 x h hm hx hk
  · exact st_drop x h hm hx hk
  · exact st_put x h hm hx hk
  · exact st_get x h hm hx hk
def moved (s : Sys) : List Mv → Sys
  | [] => s
  | x :: l => moved ((x.mo19 s).doR s) l
def Sys.pl19 (l : List Mv) : Sys := moved (Sys.new 40 2) (l.take 120)
structure Good19 (s : Sys) : Prop where
  ok : s.Ok
  safe : Safe s
  many : s.A.many = 2
theorem Good19.next {s : Sys} (h : Good19 s) (x : Mv) : Good19 ((x.mo19 s).doR s) := by
  have hw : (x.mo19 s).who < s.A.many := by rw [x.who19, h.many]; exact Nat.mod_lt _ (by omega)
  exact ⟨((x.mo19 s).next h.ok).ok, (x.mo19 s).safe h.ok h.safe hw, ((x.mo19 s).many h.ok).trans h.many⟩
theorem Good19.moved {s : Sys} (h : Good19 s) (l : List Mv) : Good19 (moved s l) := by
  induction l generalizing s with
  | nil => exact h
  | cons x l ih => exact ih (h.next x)
theorem moved_take {s : Sys} {l : List Mv} {k : Nat} {x : Mv} (h : l[k]? = some x) : Good19 (moved s (l.take k)) → moved s (l.take (k + 1)) = (x.mo19 (moved s (l.take k))).doR (moved s (l.take k)) := by
  intro _
  induction l generalizing s k with
  | nil => simp at h
  | cons y l ih =>
    cases k with
    | zero => simp at h; subst h; rfl
    | succ k =>
      rw [List.take_succ_cons, List.take_succ_cons]
      simp only [List.getElem?_cons_succ] at h
      exact ih h ‹_›
theorem good19_new : Good19 (Sys.new 40 2) := ⟨Sys.Ok.new (by omega) (by omega) (by omega) (by omega), safe_new 40 2, rfl⟩
theorem good19 (l : List Mv) : Good19 (Sys.pl19 l) := good19_new.moved _
end Go.Proofs.YtehmoikbeflkaaaGreat

/- Plain laws of reach: what the lists of names are; what is lost stays lost; what is freed. -/
namespace Go.Proofs.YtehmoikbeflkaaaGreat
set_option linter.unusedVariables false
set_option linter.unusedSimpArgs false

def Nd (A : Ar) : Prop := ∀ r, Rch A r → There A.H r
theorem in_glL {A : Ar} {i : Nat} (h : i < 8) (hz : (A.gl i).nz = true) : A.gl i ∈ A.glL :=
  List.mem_filter.2 ⟨List.mem_map.2 ⟨i, List.mem_range.2 h, rfl⟩, hz⟩
theorem in_stks {A : Ar} {k m i : Nat} (hm : m < k) (hi : i < (A.rt m).n) : (A.rt m).f i ∈ A.stks k :=
  List.mem_flatMap.2 ⟨m, List.mem_range.2 hm, List.mem_map.2 ⟨i, List.mem_range.2 hi, rfl⟩⟩
theorem orig_rch {A : Ar} {r : Rf} (h : r ∈ A.glL ++ A.stks A.many) : Rch A r := by
  rcases List.mem_append.1 h with h | h
  · obtain ⟨i, hi, rfl, hz⟩ := glL_mem h
    exact .var hi hz
  · obtain ⟨m, i, hm, hi, rfl⟩ := stks_mem h
    exact .root hm hi
theorem rq_iff {A : Ar} (nd : Nd A) {r : Rf} : r ∈ A.rq.keys ↔ Rch A r := by
  unfold Ar.rq
  rw [explQ_mem orig_there]
  constructor
  · intro h
    induction h with
    | base h => exact orig_rch (mem_hres.1 h).1
    | step _ h ih => exact .field ih (mem_kids.1 h).1 (mem_kids.1 h).2.1
  · intro h
    induction h with
    | @root m i h1 h2 => exact .base (mem_hres.2 ⟨List.mem_append_right _ (in_stks h1 h2), nd _ (.root h1 h2)⟩)
    | @var i h1 h2 => exact .base (mem_hres.2 ⟨List.mem_append_left _ (in_glL h1 h2), nd _ (.var h1 h2)⟩)
    | @field r q h1 h2 h3 ih => exact .step ih (mem_kids.2 ⟨h2, h3, nd _ (.field h1 h2 h3)⟩)
theorem tk_iff {T : Tb} {H : Hp} (e : H.T = T) {r : Rf} : r ∈ T.tk ↔ There H r := by
  subst e
  constructor
  · intro h
    obtain ⟨i, h1, h2, h3, h4⟩ := tk_of h
    exact There.of (by omega) (by omega) (by rw [h1, Int.toNat_natCast]; exact h3) (by rw [h1, Int.toNat_natCast]; exact h4)
  · intro h
    obtain ⟨h0, h1, h2, h3, h4⟩ := h.lt
    have := tk_mem h2 h3
    have e : (⟨(r.s.toNat : Nat), H.T.gn r.s.toNat⟩ : Rf) = r := by
      obtain ⟨s, g⟩ := r
      dsimp only at h0 h4 ⊢
      rw [h4, Int.toNat_of_nonneg h0]
    rwa [e] at this
theorem lost_iff {A : Ar} (nd : Nd A) {r : Rf} : r ∈ A.lostL ↔ There A.H r ∧ ¬ Rch A r := by
  unfold Ar.lostL
  rw [List.mem_filter, tk_iff rfl, Bool.not_eq_true', decide_eq_false_iff_not, rq_iff nd]
/-! what mutators do -/
theorem Good19.nd {s : Sys} (h : Good19 s) : Nd s.A := h.safe.nd
theorem lost_next {s : Sys} (h : Good19 s) (x : Mv) {r : Rf} (hr : There s.A.H r ∧ ¬ Rch s.A r) : There ((x.mo19 s).doR s).A.H r ∧ ¬ Rch ((x.mo19 s).doR s).A r := by
  have hw : (x.mo19 s).who < s.A.many := by rw [x.who19, h.many]; exact Nat.mod_lt _ (by omega)
  obtain ⟨N, hd⟩ := (x.mo19 s).did h.ok h.safe hw
  refine ⟨hd.th r hr.1, fun hx => ?_⟩
  rcases hd.rch r hx with h1 | h1
  · exact hr.2 h1
  · exact (hd.new r h1).2 hr.1
theorem lost_moved {s : Sys} (h : Good19 s) (l : List Mv) {r : Rf} (hr : There s.A.H r ∧ ¬ Rch s.A r) : There (moved s l).A.H r ∧ ¬ Rch (moved s l).A r := by
  induction l generalizing s with
  | nil => exact hr
  | cons x l ih => exact ih (h.next x) (lost_next h x hr)
theorem lost_stays {s : Sys} (h : Good19 s) (l : List Mv) : ∀ r ∈ s.A.lostL, r ∈ (moved s l).A.lostL := fun r hr =>
  (lost_iff (h.moved l).nd).2 (lost_moved h l ((lost_iff h.nd).1 hr))
/-! freeing -/
theorem give_same (T : Tb) {i j : Nat} (h : j ≠ i) : (T.give i).st j = T.st j ∧ (T.give i).gn j = T.gn j := by
  unfold Tb.give
  split
  · exact ⟨by show upd _ _ _ j = _; unfold upd; rw [if_neg h], by show upd _ _ _ j = _; unfold upd; rw [if_neg h]⟩
  · exact ⟨by show upd _ _ _ j = _; unfold upd; rw [if_neg h], by show upd _ _ _ j = _; unfold upd; rw [if_neg h]⟩
theorem give_st (T : Tb) (i : Nat) : (T.give i).st i ≠ 1 := by
  unfold Tb.give
  split
  · show upd _ _ _ i ≠ 1; unfold upd; rw [if_pos rfl]; decide
  · show upd _ _ _ i ≠ 1; unfold upd; rw [if_pos rfl]; decide
theorem freeR_of {A : Ar} {r : Rf} (h : There A.H r) : A.freeR r = ({ A with H := A.H.free r.s.toNat }, 0) := by
  unfold Ar.freeR Hp.freeR
  rw [if_neg (show ¬ ckV A.H.T r.s r.g ≠ 0 from fun hn => hn h)]
theorem free_there {A : Ar} {r : Rf} (h : There A.H r) {q : Rf} : There (A.freeR r).1.H q ↔ There A.H q ∧ q ≠ r := by
  rw [freeR_of h]
  show There (A.H.free r.s.toNat) q ↔ _
  obtain ⟨r0, r1, r2, r3, r4⟩ := h.lt
  constructor
  · intro hq
    obtain ⟨h0, h1, h2, h3, h4⟩ := hq.lt
    have hne : q.s.toNat ≠ r.s.toNat := fun e => by rw [e] at h3; exact give_st _ _ h3
    obtain ⟨e1, e2⟩ := give_same A.H.T hne
    have hn : (A.H.free r.s.toNat).T.n = A.H.T.n := Tb.give_n _ _
    refine ⟨There.of h0 (by rw [← hn]; exact h1) (e1.symm.trans h3) (e2.symm.trans h4), fun e => hne (by rw [e])⟩
  · rintro ⟨hq, hne⟩
    obtain ⟨h0, h1, h2, h3, h4⟩ := hq.lt
    have hns : q.s.toNat ≠ r.s.toNat := fun e => hne (hq.one h (by omega))
    obtain ⟨e1, e2⟩ := give_same A.H.T hns
    have hn : (A.H.free r.s.toNat).T.n = A.H.T.n := Tb.give_n _ _
    exact There.of h0 (by rw [hn]; exact h1) (e1.trans h3) (e2.trans h4)
theorem free_edge {A : Ar} {r : Rf} (h : There A.H r) {i : Nat} {q : Rf} (hi : i ≠ r.s.toNat) : Edge (A.freeR r).1.H i q ↔ Edge A.H i q := by
  rw [freeR_of h]
  show Edge (A.H.free r.s.toNat) i q ↔ _
  have hn : (A.H.free r.s.toNat).T.n = A.H.T.n := Tb.give_n _ _
  have e1 : (A.H.free r.s.toNat).T.st i = A.H.T.st i := (give_same A.H.T hi).1
  have e2 : (A.H.free r.s.toNat).ob i = A.H.ob i := updf_ne _ _ hi
  unfold Edge
  rw [hn, e1, e2]
theorem free_rch {A : Ar} (nd : Nd A) {r : Rf} (h : There A.H r) (hr : ¬ Rch A r) {q : Rf} : Rch (A.freeR r).1 q ↔ Rch A q := by
  have er : ∀ m, (A.freeR r).1.rt m = A.rt m := fun m => rfl
  have eg : ∀ i, (A.freeR r).1.gl i = A.gl i := fun i => rfl
  have em : (A.freeR r).1.many = A.many := rfl
  constructor
  · intro hq
    induction hq with
    | @root m i h1 h2 => exact .root h1 h2
    | @var i h1 h2 => exact .var h1 h2
    | @field x y h1 h2 h3 ih =>
      obtain ⟨t1, t2⟩ := (free_there h).1 h2
      have hns : x.s.toNat ≠ r.s.toNat := fun e => t2 (t1.one h (by have := t1.lt.1; have := h.lt.1; omega))
      exact .field ih t1 ((free_edge h hns).1 h3)
  · intro hq
    induction hq with
    | @root m i h1 h2 => exact .root (A := (A.freeR r).1) (m := m) (i := i) h1 h2
    | @var i h1 h2 => exact .var (A := (A.freeR r).1) (i := i) h1 h2
    | @field x y h1 h2 h3 ih =>
      have hne : x ≠ r := fun e => hr (e ▸ h1)
      have hns : x.s.toNat ≠ r.s.toNat := fun e => hne (h2.one h (by have := h2.lt.1; have := h.lt.1; omega))
      exact .field ih ((free_there h).2 ⟨h2, hne⟩) ((free_edge h hns).2 h3)
def freeds (A : Ar) : List Rf → Ar
  | [] => A
  | r :: l => freeds (A.freeR r).1 l
theorem freeds_snoc (A : Ar) (l : List Rf) (r : Rf) : freeds A (l ++ [r]) = ((freeds A l).freeR r).1 := by
  induction l generalizing A with
  | nil => rfl
  | cons x l ih => exact ih _
structure Frd (A : Ar) (l : List Rf) (B : Ar) : Prop where
  ok : B.Ok
  many : B.many = A.many
  th : ∀ q, There B.H q ↔ There A.H q ∧ q ∉ l
  rc : ∀ q, Rch B q ↔ Rch A q
theorem frd_take {A : Ar} (hok : A.Ok) (nd : Nd A) {l : List Rf} (hl : ∀ r ∈ l, There A.H r ∧ ¬ Rch A r) (hn : l.Nodup) : ∀ k, k ≤ l.length → Frd A (l.take k) (freeds A (l.take k))
  | 0, _ => ⟨hok, rfl, fun q => by simp [freeds], fun q => Iff.rfl⟩
  | k + 1, hk => by
    have ih := frd_take hok nd hl hn k (by omega)
    obtain ⟨r, hr⟩ : ∃ r, l[k]? = some r := ⟨_, List.getElem?_eq_getElem (by omega)⟩
    obtain ⟨t1, t2⟩ := hl r (List.mem_of_getElem? hr)
    have hnt : r ∉ l.take k := fun h => by
      obtain ⟨j, hj, he⟩ := List.getElem_of_mem h
      have hjk : j < k := by simp at hj; omega
      have : l[j]? = l[k]? := by rw [hr, ← he, List.getElem_take, List.getElem?_eq_getElem]
      have := (List.getElem?_inj (show j < _ by omega) hn).1 this
      omega
    have hth : There (freeds A (l.take k)).H r := (ih.th r).2 ⟨t1, hnt⟩
    have hnr : ¬ Rch (freeds A (l.take k)) r := fun h => t2 ((ih.rc r).1 h)
    have ndk : Nd (freeds A (l.take k)) := fun q hq => by
      have hq' := (ih.rc q).1 hq
      refine (ih.th q).2 ⟨nd q hq', fun hm => ?_⟩
      exact (hl q (List.mem_of_mem_take hm)).2 hq'
    rw [List.take_add_one, hr]
    show Frd A (l.take k ++ [r]) (freeds A (l.take k ++ [r]))
    rw [freeds_snoc]
    refine ⟨ih.ok.freeR r, ih.many, fun q => ?_, fun q => (free_rch ndk hth hnr).trans (ih.rc q)⟩
    rw [free_there hth, ih.th q, List.mem_append, List.mem_singleton]
    constructor
    · rintro ⟨⟨a1, a2⟩, a3⟩; exact ⟨a1, fun h => h.elim a2 a3⟩
    · rintro ⟨a1, a2⟩; exact ⟨⟨a1, fun h => a2 (.inl h)⟩, fun h => a2 (.inr h)⟩
theorem frd_nd {A B : Ar} (nd : Nd A) {l : List Rf} (hl : ∀ r ∈ l, There A.H r ∧ ¬ Rch A r) (h : Frd A l B) : Nd B := fun q hq => by
  have hq' := (h.rc q).1 hq
  exact (h.th q).2 ⟨nd q hq', fun hm => (hl q hm).2 hq'⟩
theorem srt_keys {A B : Ar} (na : Nd A) (nb : Nd B) (h : ∀ q, Rch B q ↔ Rch A q) : srt B.rq.keys = srt A.rq.keys := by
  have hp : B.rq.keys.Perm A.rq.keys := (List.perm_ext_iff_of_nodup (rq_nd B) (rq_nd A)).2 fun q => by rw [rq_iff nb, rq_iff na, h]
  exact srt_unique ((srt_perm _).trans hp) (srt_sorted _) (oneSlot_there fun r hr => rq_there hr)
theorem frd_all {A : Ar} (hok : A.Ok) (nd : Nd A) (hn : A.lostL.Nodup) : srt (freeds A A.lostL).rq.keys = srt A.rq.keys ∧ (freeds A A.lostL).lostL = [] := by
  have hl : ∀ r ∈ A.lostL, There A.H r ∧ ¬ Rch A r := fun r hr => (lost_iff nd).1 hr
  have h := frd_take hok nd hl hn _ (Nat.le_refl _)
  rw [List.take_length] at h
  have nb := frd_nd nd hl h
  refine ⟨srt_keys nd nb h.rc, ?_⟩
  refine List.eq_nil_iff_forall_not_mem.2 fun q hq => ?_
  obtain ⟨h1, h2⟩ := (lost_iff nb).1 hq
  obtain ⟨h3, h4⟩ := (h.th q).1 h1
  exact h4 ((lost_iff nd).2 ⟨h3, fun hx => h2 ((h.rc q).2 hx)⟩)
theorem frd_step {A : Ar} (hok : A.Ok) (nd : Nd A) (hn : A.lostL.Nodup) {k : Nat} {r : Rf} (hr : A.lostL[k]? = some r) : ((freeds A (A.lostL.take k)).freeR r).2 = 0 ∧ freeds A (A.lostL.take (k + 1)) = ((freeds A (A.lostL.take k)).freeR r).1 := by
  have hl : ∀ r ∈ A.lostL, There A.H r ∧ ¬ Rch A r := fun r hr => (lost_iff nd).1 hr
  have hk : k < A.lostL.length := (List.getElem?_eq_some_iff.1 hr).1
  have h := frd_take hok nd hl hn k (by omega)
  refine ⟨?_, by rw [List.take_add_one, hr]; exact freeds_snoc _ _ _⟩
  have hnt : r ∉ A.lostL.take k := fun hm => by
    obtain ⟨j, hj, he⟩ := List.getElem_of_mem hm
    have hjk : j < k := by simp at hj; omega
    have : A.lostL[j]? = A.lostL[k]? := by rw [hr, ← he, List.getElem_take, List.getElem?_eq_getElem]
    have := (List.getElem?_inj (show j < _ by omega) hn).1 this
    omega
  rw [freeR_of ((h.th r).2 ⟨(hl r (List.mem_of_getElem? hr)).1, hnt⟩)]
theorem tk_nd (T : Tb) : T.tk.Nodup := by
  unfold Tb.tk
  generalize T.n = n
  induction n with
  | zero => simp [Tb.inn]
  | succ n ih =>
    by_cases h : T.st n = 1
    · rw [Tb.inn_yes h, List.map_append]
      refine List.nodup_append.2 ⟨ih, by simp, fun x hx y hy => ?_⟩
      obtain ⟨⟨i, g⟩, hi, rfl⟩ := List.mem_map.1 hx
      have hlt := (Tb.inn_mem hi).2.2
      obtain rfl : y = rfOf (n, T.gn n) := by simpa using hy
      intro e
      have : ((i : Nat) : Int) = (n : Nat) := congrArg Rf.s e
      omega
    · rw [Tb.inn_no h]; exact ih
theorem lost_nd (A : Ar) : A.lostL.Nodup := (tk_nd _).filter _
theorem lost_len (A : Ar) : A.lostL.length ≤ A.H.T.n := Nat.le_trans (List.length_filter_le _ _) (tk_len _)
end Go.Proofs.YtehmoikbeflkaaaGreat

namespace Go.Proofs.YtehmoikbeflkaaaGreat
open Go.RowKit Go.ChangeShapes Go.WideShapes Go.ChangeAt Go.Deep
theorem Refs.cellk {w : World} {p : Option Addr} {n c : Nat} {l : List Rf} (h : Refs w (.slice p n c) l) {k : Nat} {r : Rf} (hk : l[k]? = some r) :
    ∃ g, p = some ⟨g, 0, none⟩ ∧ w.cell? ⟨g, k * 2, none⟩ = some (.int .i64 r.s) ∧ w.cell? ⟨g, k * 2 + 1, none⟩ = some (.int .u32 r.g) := by
  rcases h with ⟨h1, rfl⟩ | ⟨g, cap, cur, h1, h2, h3⟩
  · simp at hk
  · injection h1 with h1 h4 h5
    obtain ⟨a1, a2⟩ := h3 k r hk
    exact ⟨g, h1, cell_at h2 a1, cell_at h2 a2⟩
end Go.Proofs.YtehmoikbeflkaaaGreat
