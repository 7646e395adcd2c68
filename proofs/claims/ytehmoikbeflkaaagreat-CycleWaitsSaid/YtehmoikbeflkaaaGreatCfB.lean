/- estraylaw26: lost, reached: the walks. -/
import Derived.Test.YtehmoikbeflkaaaGreatCyS
import Derived.Test.YtehmoikbeflkaaaGreatRcM
import Derived.Test.YtehmoikbeflkaaaGreatCyK
import Derived.Test.YtehmoikbeflkaaaGreatRcH
import Derived.Deep.CutBlock
namespace Go.Proofs.YtehmoikbeflkaaaGreat
open Go.RowKit
set_option linter.unusedVariables false
set_option linter.unusedSimpArgs false

def Ar.handles (A : Ar) : List Rf := A.lostL.filter (fun r => (A.H.ob r.s.toNat).h)
theorem handles_mem {s : Sys} (nd : Nd s.A) {r : Rf} (h : r ∈ s.A.handles) : ∃ i : Nat, r = ⟨i, s.A.H.T.gn i⟩ ∧ s.lostS i ∧ (s.A.H.ob i).h = true := by
  obtain ⟨h1, h2⟩ := List.mem_filter.1 h
  obtain ⟨ht, hr⟩ := (lost_iff nd).1 h1
  obtain ⟨t1, t2, t3, t4, t5⟩ := ht.lt
  exact ⟨r.s.toNat, ht.eta, ⟨t3, t4, fun hx => hr (ht.eta ▸ hx)⟩, h2⟩
structure Ff (L : Nat → Prop) (G : Nat → Int) (D : Nat → Bool) (E : Nat) (k : Col) (F : List Rf) : Prop where
  as' : k.C.asked = false
  bg : k.C.begun = E + 1
  on : k.s.M.K.ph ≠ 0 → Fd L G D k F
  off : k.s.M.K.ph = 0 → FdEnd L G D k F
variable {L : Nat → Prop} {G : Nat → Int} {D : Nat → Bool} {E : Nat} {k : Col} {F : List Rf}

theorem step_C (room : Bool) (hp : k.s.M.K.ph ≠ 0) : (k.stepR room).c.C.asked = k.C.asked ∧ (k.stepR room).c.C.begun = k.C.begun := by
  unfold Col.stepR
  rw [if_neg hp]
  split
  · split
    · split
      · unfold Col.discover; dsimp only; split <;> exact ⟨rfl, rfl⟩
      · exact ⟨rfl, rfl⟩
    · unfold Col.discover; dsimp only; split <;> exact ⟨rfl, rfl⟩
  split
  · unfold Col.sweep; dsimp only; split <;> exact ⟨rfl, rfl⟩
  · unfold Col.mark; dsimp only; split <;> exact ⟨rfl, rfl⟩
theorem step_rest (room : Bool) (hp : k.s.M.K.ph = 0) (ha : k.C.asked = false) : k.stepR room = ⟨k, .no, false⟩ := by
  unfold Col.stepR; rw [if_pos hp, if_neg (by rw [ha]; decide)]
theorem Ff.step (h : Ff L G D E k F) (hok : k.Ok) (room : Bool) : Ff L G D E (k.stepR room).c ((k.stepR room).more F) := by
  by_cases hp : k.s.M.K.ph = 0
  · rw [step_rest room hp h.as']
    exact h
  · obtain ⟨s1, s2⟩ := step_C (k := k) room hp
    obtain ⟨f1, f2⟩ := (h.on hp).step hok hp room
    exact ⟨s1.trans h.as', s2.trans h.bg, f1, f2⟩
theorem Ff.ack (h : Ff L G D E k F) (hok : k.Ok) (i : Int) : Ff L G D E ⟨⟨k.s.A, (k.s.M.ackR k.s.A i).M⟩, k.C⟩ F := by
  obtain ⟨_, a2, _⟩ := Sys.ack_next hok.s i
  refine ⟨h.as', h.bg, fun hp => ?_, fun hp => ?_⟩
  · dsimp only at hp; rw [a2] at hp; exact (h.on hp).ack hok i
  · dsimp only at hp; rw [a2] at hp
    have h1 := h.off hp
    exact ⟨h1.ord, h1.all, h1.gone⟩
theorem Ff.mo (h : Ff L G D E k F) (hok : k.Ok) (x : Mo) : Ff L G D E ⟨x.doR k.s, k.C⟩ F := by
  have hK := (x.next hok.s).K
  refine ⟨h.as', h.bg, fun hp => ?_, fun hp => ?_⟩
  · dsimp only at hp; rw [hK] at hp; exact (h.on hp).mo hok x
  · dsimp only at hp; rw [hK] at hp
    have h1 := h.off hp
    exact ⟨h1.ord, h1.all, fun j hj => x.gone (h1.gone j hj)⟩
theorem Ff.turn (h : Ff L G D E k F) (hok : k.Ok) (x : Mv) (h12 : x.kind % 16 ≠ 12) (ha : 12 < x.kind % 16 → x.a % 8 = 0) : Ff L G D E (x.turn26 k F).1 (x.turn26 k F).2 := by
  unfold Mv.turn26
  by_cases h1 : x.kind % 16 < 10
  · rw [if_pos h1]; exact h.mo hok _
  by_cases h2 : x.kind % 16 < 12
  · rw [if_neg h1, if_pos h2]; exact h.ack hok _
  · rw [if_neg h1, if_neg h2, if_neg h12, ha (by omega)]
    exact h.step hok _
theorem Ff.begin {d : Col} (h : d.Ok) (hc : d.Clean) (hp : d.s.M.K.ph = 0) : Ff d.s.lostS d.s.A.H.T.gn (fun j => (d.s.A.H.ob j).h) d.s.M.K.cy d.begin [] := by
  refine ⟨rfl, (Col.begin_cy h hp).2.1, fun _ => Fd.begin h hc hp, fun h0 => ?_⟩
  have := (Col.begin_ok h hp).2.2
  omega
theorem Ff.cy (h : Ff L G D E k F) (hok : k.Ok) : (k.s.M.K.ph = 0 → k.s.M.K.cy = E + 1) ∧ (k.s.M.K.ph ≠ 0 → k.s.M.K.cy = E) := by
  have h1 := hok.bg
  rw [h.bg] at h1
  refine ⟨fun hp => ?_, fun hp => ?_⟩
  · rw [if_pos hp] at h1; omega
  · rw [if_neg hp] at h1; omega
theorem Ff.found (h : Ff L G D E k F) (hp : k.s.M.K.ph = 0) {i : Nat} (hl : L i) (hd : D i = true) : cnt ⟨i, G i⟩ F = 1 ∧ (ckV k.s.A.H.T i (G i) == 0) = false := by
  have h1 := h.off hp
  refine ⟨cnt_order h1.ord (h1.all i hl hd), ?_⟩
  have := (h1.gone i hl).not_there
  simpa [There] using this
theorem Ff.once (h : Ff L G D E k F) (hp : k.s.M.K.ph = 0) {r : Rf} (hr : r ∈ F) : cnt r F = 1 := cnt_order (h.off hp).ord hr
def Mv.tame26 (x : Mv) : Mv :=
  let k := if x.kind % 16 = 12 then 13 else x.kind
  ⟨k, x.m, if 12 < k % 16 then 0 else x.a, x.b, x.c⟩
theorem tame26_ok (x : Mv) : x.tame26.kind % 16 ≠ 12 ∧ (12 < x.tame26.kind % 16 → x.tame26.a % 8 = 0) := by
  unfold Mv.tame26
  dsimp only
  split
  · exact ⟨by decide, fun _ => by rw [if_pos (by decide)]⟩
  · rename_i h; exact ⟨h, fun h2 => by rw [if_pos h2]⟩
theorem tame26_byte {x : Mv} (h : x.Byte) : x.tame26.Byte := by
  obtain ⟨h0, h1, h2, h3, h4⟩ := h
  have e1 : (if x.kind % 16 = 12 then 13 else x.kind) < 256 := by split <;> omega
  have e2 : (if 12 < (if x.kind % 16 = 12 then 13 else x.kind) % 16 then 0 else x.a) < 256 := by
    generalize (if x.kind % 16 = 12 then 13 else x.kind) % 16 = q
    split <;> omega
  exact ⟨e1, h1, e2, h3, h4⟩
end Go.Proofs.YtehmoikbeflkaaaGreat

namespace Go.Proofs.YtehmoikbeflkaaaGreat
open Go.RowKit
set_option linter.unusedVariables false
set_option linter.unusedSimpArgs false
set_option linter.unusedSectionVars false

section
variable {w0 w w' : World} {p a m b c : Nat} {LA : ArL} {LM : MkL} {k : Col} {f : List Rf}

set_option maxRecDepth 100000 in
set_option maxHeartbeats 4000000 in
theorem plost (h : Pair w0 w p a m b c LA LM k f) (hok : k.Ok) : Calls Tryz.prog 71 #[.pointer (some ⟨p, 0, none⟩)] w
    fun e w' => ∃ v, e = .returned (.tuple #[v, .bool true]) ∧ Row w' w.heap.size v k.s.A.handles ∧ Keeps (fun _ => False) w w' := by
  have HP := hid (fun W (hk : Keeps (fun _ => False) w W) => h.same hk)
  have HTH := hid (fun r (hr : r ∈ k.s.A.lostL) => ((lost_iff hok.safe.nd).1 hr).1)
  have HLO := hid (lost_ok a LA k.s.A w h.q.tr.both.ar hok.s.a)
  have hll := lost_len k.s.A
  have hn2 := hok.s.a.n2
  obtain ⟨x0, x1, xl⟩ := pair_cells h
  obtain ⟨A, hA⟩ : ∃ A, k.s.A = A := ⟨_, rfl⟩
  have HOA := hid (fun W (hk : Keeps (fun _ => False) w W) => (h.same hk).q.tr.both.ar)
  have HPC := hid (fun W (hk : Keeps (fun _ => False) w W) => (pair_cells (h.same hk)).1)
  rw [hA] at HTH HLO hll hn2 HOA ⊢
  clear h hok hA HP
  go_enter Tryz.func71, Tryz.ntmps71
  go_wp2_with fail
  refine HLO.out.mono ?_
  rintro e w1 ⟨v1, rfl, hr1, k1⟩
  obtain ⟨T, hT⟩ : ∃ T, A.lostL = T := ⟨_, rfl⟩
  have HHN := hid (show T.filter (fun r => (A.H.ob r.s.toNat).h) = A.handles from by rw [← hT]; rfl)
  rw [hT] at hr1 HTH hll
  obtain ⟨p1, c1, rfl⟩ := hr1.refs.slice
  have HR1 := hid hr1.refs; have HK1 := hid k1
  clear hr1 k1 hT HLO x0 x1 xl
  go_wp2_with fail
  go_loopw [6, 7] (fun s6 ix wr => ∃ (j : Nat) (q : Option Addr) (d : Nat) (l : List Rf), j ≤ T.length ∧ ix = .int .i64 j ∧ s6 = .slice q l.length d ∧ l = (T.take j).filter (fun r => (A.H.ob r.s.toNat).h) ∧ Hid (Row wr w1.heap.size (.slice q l.length d) l) ∧ Hid (Keeps (fun _ => False) w1 wr)) (fun _ ix _ => T.length - (intOf ix).toNat)
  case atStart => exact ⟨0, none, 0, [], Nat.zero_le _, rfl, rfl, by simp, hid (Row.nil _ _), hid (Keeps.refl _ _)⟩
  case round =>
    obtain ⟨j, q, d, l, hj, rfl, rfl, hl, HR, HK⟩ := hrel
    have hj0 : (0 : Int) ≤ j := by omega
    have hln : l.length ≤ 256 := by rw [hl]; exact Nat.le_trans (List.length_filter_le _ _) (Nat.le_trans (List.length_take_le _ _) (by omega))
    have HL := hid hl
    clear hl
    obtain ⟨wq, hwq⟩ : ∃ wq, wr = wq := ⟨_, rfl⟩
    rw [hwq] at HK HR ⊢
    clear hwq
    by_cases hlt : j < T.length
    · have hlt' : (j : Int) < (T.length : Int) := by omega
      obtain ⟨r, hr⟩ : ∃ r, T[j]? = some r := ⟨_, List.getElem?_eq_getElem hlt⟩
      obtain ⟨g, rfl, d0, d1⟩ := (HR1.out.keeps HK.out (fun _ _ h => h)).cellk hr
      have HRT := hid hr
      have hth := HTH.out r (List.mem_of_getElem? hr)
      obtain ⟨o, ho⟩ : ∃ o, A.H.ob r.s.toNat = o := ⟨_, rfl⟩
      have HO := hid ho
      have HPS := hid (fun W (hk : Keeps (fun _ => False) wq W) => (show W.cell? ⟨p, 0, none⟩ = some (.pointer (some ⟨a, 0, none⟩)) ∧ W.cell? ⟨g, j * 2, none⟩ = some (.int .i64 r.s) ∧ W.cell? ⟨g, j * 2 + 1, none⟩ = some (.int .u32 r.g) from by
        obtain ⟨g1, hg1, b0, b1⟩ := (HR1.out.keeps (HK.out.trans hk) (fun _ _ h => h)).cellk hr
        injection hg1 with hg1; injection hg1 with hg1
        subst hg1
        exact ⟨HPC.out W ((HK1.out.trans HK.out).trans hk), b0, b1⟩))
      have HOB := hid (fun W (hk : Keeps (fun _ => False) wq W) => (show Calls Tryz.prog 158 #[.pointer (some ⟨a, 0, none⟩), .agg #[.int .i64 r.s, .int .u32 r.g]] W (fun e w' => e = .returned (.tuple #[.agg #[.int .i64 o.n, .int .i64 o.f0.s, .int .u32 o.f0.g, .int .i64 o.f1.s, .int .u32 o.f1.g, .int .i64 o.f2.s, .int .u32 o.f2.g, .int .i64 o.f3.s, .int .u32 o.f3.g, .bool o.h], .int .i64 0]) ∧ Keeps (fun _ => False) W w') from by
        obtain ⟨o', k', hoc, hcall⟩ := aobject_any a LA A r W (HOA.out W ((HK1.out.trans HK.out).trans hk))
        rcases hoc with ⟨rfl, _, rfl⟩ | ⟨h1, h2, _⟩
        · rw [ho] at hcall; exact hcall
        · rw [show ckV A.H.T r.s r.g = 0 from hth] at h2
          rw [← h2] at h1; simp at h1))
      clear hr hth ho d0 d1
      go_upto_region 6 with (fail)
      go_cut [8, 9] (fun s8 s9 wx => ∃ B : Nat, s8 = .pointer (some ⟨B, 0, none⟩) ∧ s9 = .int .i64 0 ∧ Hid (Keeps (fun _ => False) wq wx) ∧ Hid (wx.cell? ⟨B, 9, none⟩ = some (.bool o.h) ∧ B < wx.heap.size))
      case first =>
        refine wp_region_noPanic ?_
        refine wp_region_held_drew (S := (fun W => W.cell? ⟨p, 0, none⟩ = some (.pointer (some ⟨a, 0, none⟩)) ∧ W.cell? ⟨g, j * 2, none⟩ = some (.int .i64 r.s) ∧ W.cell? ⟨g, j * 2 + 1, none⟩ = some (.int .u32 r.g))) (by kernel_rfl) ?_ (fun hHeld => ?_)
        · exact HPS.out _ ((Keeps.refl _ _).drew)
        refine wpAnyH_take (i := 0) (v := ?_) rfl (by kernel_rfl) (by kernel_rfl) (by kernel_rfl) (fun _ _ _ h => h) (Or.inl ⟨by rfl, ?_⟩) (by assumption) ?_
        rotate_left
        · (intro w hSw; (try dsimp only at hSw); simp only [List.getElem_toArray, List.getElem_cons_zero, List.getElem_cons_succ]; go_simp; (first | done | with_reducible rfl))
        simp only [List.getElem_toArray, List.getElem_cons_zero, List.getElem_cons_succ, Act.put, List.setIfInBounds_toArray, List.set_cons_zero, List.set_cons_succ]
        refine wpAnyH_take (i := 1) (v := ?_) rfl (by kernel_rfl) (by kernel_rfl) (by kernel_rfl) (fun _ _ _ h => h) (Or.inl ⟨by rfl, ?_⟩) (by assumption) ?_
        rotate_left
        · (intro w hSw; (try dsimp only at hSw); simp only [List.getElem_toArray, List.getElem_cons_zero, List.getElem_cons_succ]; go_simp; (first | done | with_reducible rfl))
        simp only [List.getElem_toArray, List.getElem_cons_zero, List.getElem_cons_succ, Act.put, List.setIfInBounds_toArray, List.set_cons_zero, List.set_cons_succ]
        refine wpAnyH_take (i := 2) (v := ?_) rfl (by kernel_rfl) (by kernel_rfl) (by kernel_rfl) (fun _ _ _ h => h) (Or.inl ⟨by rfl, ?_⟩) (by assumption) ?_
        rotate_left
        · (intro w hSw; (try dsimp only at hSw); simp only [List.getElem_toArray, List.getElem_cons_zero, List.getElem_cons_succ]; go_simp; (first | done | with_reducible rfl))
        simp only [List.getElem_toArray, List.getElem_cons_zero, List.getElem_cons_succ, Act.put, List.setIfInBounds_toArray, List.set_cons_zero, List.set_cons_succ]
        refine wpAnyH_take (i := 3) (v := ?_) rfl (by kernel_rfl) (by kernel_rfl) (by kernel_rfl) (fun _ _ _ h => h) (Or.inl ⟨by rfl, ?_⟩) (by assumption) ?_
        rotate_left
        · (intro w hSw; (try dsimp only at hSw); simp only [List.getElem_toArray, List.getElem_cons_zero, List.getElem_cons_succ]; go_simp; (first | done | with_reducible rfl))
        simp only [List.getElem_toArray, List.getElem_cons_zero, List.getElem_cons_succ, Act.put, List.setIfInBounds_toArray, List.set_cons_zero, List.set_cons_succ]
        refine wpAnyH_take (i := 4) (v := ?_) rfl (by kernel_rfl) (by kernel_rfl) (by kernel_rfl) (fun _ _ _ h => h) (Or.inl ⟨by rfl, ?_⟩) (by assumption) ?_
        rotate_left
        · (intro w hSw; (try dsimp only at hSw); simp only [List.getElem_toArray, List.getElem_cons_zero, List.getElem_cons_succ]; go_simp; (first | done | with_reducible rfl))
        simp only [List.getElem_toArray, List.getElem_cons_zero, List.getElem_cons_succ, Act.put, List.setIfInBounds_toArray, List.set_cons_zero, List.set_cons_succ]
        refine wpAnyH_take (i := 5) (v := ?_) rfl (by kernel_rfl) (by kernel_rfl) (by kernel_rfl) (fun _ _ _ h => h) (Or.inl ⟨by rfl, ?_⟩) (by assumption) ?_
        rotate_left
        · (intro w hSw; (try dsimp only at hSw); simp only [List.getElem_toArray, List.getElem_cons_zero, List.getElem_cons_succ]; go_simp; (first | done | with_reducible rfl))
        simp only [List.getElem_toArray, List.getElem_cons_zero, List.getElem_cons_succ, Act.put, List.setIfInBounds_toArray, List.set_cons_zero, List.set_cons_succ]
        refine wpAnyH_take (i := 6) (v := ?_) rfl (by kernel_rfl) (by kernel_rfl) (by kernel_rfl) (fun _ _ _ h => h) (Or.inl ⟨by rfl, ?_⟩) (by assumption) ?_
        rotate_left
        · (intro w hSw; (try dsimp only at hSw); simp only [List.getElem_toArray, List.getElem_cons_zero, List.getElem_cons_succ]; go_simp; (first | done | with_reducible rfl))
        simp only [List.getElem_toArray, List.getElem_cons_zero, List.getElem_cons_succ, Act.put, List.setIfInBounds_toArray, List.set_cons_zero, List.set_cons_succ]
        refine wpAnyH_take (i := 7) (v := ?_) rfl (by kernel_rfl) (by kernel_rfl) (by kernel_rfl) (fun _ _ _ h => h) (Or.inl ⟨by rfl, ?_⟩) (by assumption) ?_
        rotate_left
        · (intro w hSw; (try dsimp only at hSw); simp only [List.getElem_toArray, List.getElem_cons_zero, List.getElem_cons_succ]; go_simp; (first | done | with_reducible rfl))
        simp only [List.getElem_toArray, List.getElem_cons_zero, List.getElem_cons_succ, Act.put, List.setIfInBounds_toArray, List.set_cons_zero, List.set_cons_succ]
        refine wpAnyH_ready (rs := [8, 12]) (by kernel_rfl) (by simp) ?_
        refine AllReadyH.cons rfl (fun K hK => ?_) (AllReadyH.cons rfl (fun K hK => ?_) AllReadyH.nil)
        · go_simp
          go_at_call 158; refine (HOB.out _ (by (repeat (first | with_reducible exact Keeps.refl _ _ | with_reducible refine Keeps.drewN ?_ _ | with_reducible refine Keeps.drew ?_ | with_reducible refine Keeps.alloc ?_ _ | with_reducible refine Keeps.trans ?_ k9)))).mono ?_; rintro e w9 ⟨rfl, k9⟩
          refine hK.out _ _ ?_ (fun hHeld => ?_)
          · exact HPS.out _ (by (repeat (first | with_reducible exact Keeps.refl _ _ | with_reducible refine Keeps.drewN ?_ _ | with_reducible refine Keeps.drew ?_ | with_reducible refine Keeps.alloc ?_ _ | with_reducible refine Keeps.trans ?_ k9)))
          clear hK K
          try dsimp only [Act.put, List.setIfInBounds_toArray, List.set_cons_zero, List.set_cons_succ]
          refine wpAnyH_take (i := 9) (v := ?_) rfl (by kernel_rfl) (by kernel_rfl) (by kernel_rfl) (fun _ _ _ h => h) (Or.inl ⟨by rfl, ?_⟩) (by assumption) ?_
          rotate_left
          · (intro w hSw; (try dsimp only at hSw); simp only [List.getElem_toArray, List.getElem_cons_zero, List.getElem_cons_succ]; go_simp; (first | done | with_reducible rfl))
          simp only [List.getElem_toArray, List.getElem_cons_zero, List.getElem_cons_succ, Act.put, List.setIfInBounds_toArray, List.set_cons_zero, List.set_cons_succ]
          refine wpAnyH_take (i := 10) (v := ?_) rfl (by kernel_rfl) (by kernel_rfl) (by kernel_rfl) (fun _ _ _ h => h) (Or.inl ⟨by rfl, ?_⟩) (by assumption) ?_
          rotate_left
          · (intro w hSw; (try dsimp only at hSw); simp only [List.getElem_toArray, List.getElem_cons_zero, List.getElem_cons_succ]; go_simp; (first | done | with_reducible rfl))
          simp only [List.getElem_toArray, List.getElem_cons_zero, List.getElem_cons_succ, Act.put, List.setIfInBounds_toArray, List.set_cons_zero, List.set_cons_succ]
          refine wpAnyH_take (i := 11) (v := ?_) rfl (by kernel_rfl) (by kernel_rfl) (by kernel_rfl) (fun _ _ _ h => h) (Or.inl ⟨by rfl, ?_⟩) (by assumption) ?_
          rotate_left
          · (intro w hSw; (try dsimp only at hSw); simp only [List.getElem_toArray, List.getElem_cons_zero, List.getElem_cons_succ]; go_simp; (first | done | with_reducible rfl))
          simp only [List.getElem_toArray, List.getElem_cons_zero, List.getElem_cons_succ, Act.put, List.setIfInBounds_toArray, List.set_cons_zero, List.set_cons_succ]
          refine wpAnyH_ready (rs := [12]) (by kernel_rfl) (by simp) ?_
          refine AllReadyH.cons rfl (fun K hK => ?_) ?_
          rotate_left
          · exact AllReadyH.nil
          go_simp
          refine hK.out _ _ ?_ (fun hHeld => ?_)
          · exact HPS.out _ (by (repeat (first | with_reducible exact Keeps.refl _ _ | with_reducible refine Keeps.drewN ?_ _ | with_reducible refine Keeps.drew ?_ | with_reducible refine Keeps.alloc ?_ _ | with_reducible refine Keeps.trans ?_ k9)))
          clear hK K
          try dsimp only [Act.put, List.setIfInBounds_toArray, List.set_cons_zero, List.set_cons_succ]
          refine wpAnyH_ready (rs := [13]) (by kernel_rfl) (by simp) ?_
          refine AllReadyH.cons rfl (fun K hK => ?_) ?_
          rotate_left
          · exact AllReadyH.nil
          go_simp
          refine hK.out _ _ ?_ (fun hHeld => ?_)
          · exact HPS.out _ (by (repeat (first | with_reducible exact Keeps.refl _ _ | with_reducible refine Keeps.drewN ?_ _ | with_reducible refine Keeps.drew ?_ | with_reducible refine Keeps.alloc ?_ _ | with_reducible refine Keeps.trans ?_ k9)))
          clear hK K
          try dsimp only [Act.put, List.setIfInBounds_toArray, List.set_cons_zero, List.set_cons_succ]
          refine wpAnyH_take (i := 14) (v := ?_) rfl (by kernel_rfl) (by kernel_rfl) (by kernel_rfl) (fun _ _ _ h => h) (Or.inl ⟨by rfl, ?_⟩) (by assumption) ?_
          rotate_left
          · (intro w hSw; (try dsimp only at hSw); simp only [List.getElem_toArray, List.getElem_cons_zero, List.getElem_cons_succ]; go_simp; (first | done | with_reducible rfl))
          simp only [List.getElem_toArray, List.getElem_cons_zero, List.getElem_cons_succ, Act.put, List.setIfInBounds_toArray, List.set_cons_zero, List.set_cons_succ]
          refine wpAnyH_done (by kernel_rfl) ?_ _
          refine NoPanic.normal ?_
          all_goals
            go_wp2_with fail
            go_meet
            exact ⟨_, rfl, rfl, hid (by (repeat (first | with_reducible exact Keeps.refl _ _ | with_reducible refine Keeps.drewN ?_ _ | with_reducible refine Keeps.drew ?_ | with_reducible refine Keeps.alloc ?_ _ | with_reducible refine Keeps.trans ?_ k9))), hid ⟨cell_at alloc_new rfl, lt_block alloc_new⟩⟩
        · go_simp
          refine hK.out _ _ ?_ (fun hHeld => ?_)
          · exact HPS.out _ (by (repeat (first | with_reducible exact Keeps.refl _ _ | with_reducible refine Keeps.drewN ?_ _ | with_reducible refine Keeps.drew ?_ | with_reducible refine Keeps.alloc ?_ _ | with_reducible refine Keeps.trans ?_ k9)))
          clear hK K
          try dsimp only [Act.put, List.setIfInBounds_toArray, List.set_cons_zero, List.set_cons_succ]
          refine wpAnyH_ready (rs := [8]) (by kernel_rfl) (by simp) ?_
          refine AllReadyH.cons rfl (fun K hK => ?_) ?_
          rotate_left
          · exact AllReadyH.nil
          go_simp
          go_at_call 158; refine (HOB.out _ (by (repeat (first | with_reducible exact Keeps.refl _ _ | with_reducible refine Keeps.drewN ?_ _ | with_reducible refine Keeps.drew ?_ | with_reducible refine Keeps.alloc ?_ _ | with_reducible refine Keeps.trans ?_ k9)))).mono ?_; rintro e w9 ⟨rfl, k9⟩
          refine hK.out _ _ ?_ (fun hHeld => ?_)
          · exact HPS.out _ (by (repeat (first | with_reducible exact Keeps.refl _ _ | with_reducible refine Keeps.drewN ?_ _ | with_reducible refine Keeps.drew ?_ | with_reducible refine Keeps.alloc ?_ _ | with_reducible refine Keeps.trans ?_ k9)))
          clear hK K
          try dsimp only [Act.put, List.setIfInBounds_toArray, List.set_cons_zero, List.set_cons_succ]
          refine wpAnyH_take (i := 9) (v := ?_) rfl (by kernel_rfl) (by kernel_rfl) (by kernel_rfl) (fun _ _ _ h => h) (Or.inl ⟨by rfl, ?_⟩) (by assumption) ?_
          rotate_left
          · (intro w hSw; (try dsimp only at hSw); simp only [List.getElem_toArray, List.getElem_cons_zero, List.getElem_cons_succ]; go_simp; (first | done | with_reducible rfl))
          simp only [List.getElem_toArray, List.getElem_cons_zero, List.getElem_cons_succ, Act.put, List.setIfInBounds_toArray, List.set_cons_zero, List.set_cons_succ]
          refine wpAnyH_take (i := 10) (v := ?_) rfl (by kernel_rfl) (by kernel_rfl) (by kernel_rfl) (fun _ _ _ h => h) (Or.inl ⟨by rfl, ?_⟩) (by assumption) ?_
          rotate_left
          · (intro w hSw; (try dsimp only at hSw); simp only [List.getElem_toArray, List.getElem_cons_zero, List.getElem_cons_succ]; go_simp; (first | done | with_reducible rfl))
          simp only [List.getElem_toArray, List.getElem_cons_zero, List.getElem_cons_succ, Act.put, List.setIfInBounds_toArray, List.set_cons_zero, List.set_cons_succ]
          refine wpAnyH_take (i := 11) (v := ?_) rfl (by kernel_rfl) (by kernel_rfl) (by kernel_rfl) (fun _ _ _ h => h) (Or.inl ⟨by rfl, ?_⟩) (by assumption) ?_
          rotate_left
          · (intro w hSw; (try dsimp only at hSw); simp only [List.getElem_toArray, List.getElem_cons_zero, List.getElem_cons_succ]; go_simp; (first | done | with_reducible rfl))
          simp only [List.getElem_toArray, List.getElem_cons_zero, List.getElem_cons_succ, Act.put, List.setIfInBounds_toArray, List.set_cons_zero, List.set_cons_succ]
          have qB : w9.heap[wq.heap.size]? = some (.cells #[.int .i64 0, .int .i64 0, .int .u32 0, .int .i64 0, .int .u32 0, .int .i64 0, .int .u32 0, .int .i64 0, .int .u32 0, .bool false] 136) := block_keep (show (wq.alloc _).drew.heap[wq.heap.size]? = some _ from alloc_new) k9 (fun h => h)
          have e0 := cell_at (i := 0) qB rfl; have ff0 := frozen_block qB 0
          have e1 := cell_at (i := 1) qB rfl; have ff1 := frozen_block qB 1
          have e2 := cell_at (i := 2) qB rfl; have ff2 := frozen_block qB 2
          have e3 := cell_at (i := 3) qB rfl; have ff3 := frozen_block qB 3
          have e4 := cell_at (i := 4) qB rfl; have ff4 := frozen_block qB 4
          have e5 := cell_at (i := 5) qB rfl; have ff5 := frozen_block qB 5
          have e6 := cell_at (i := 6) qB rfl; have ff6 := frozen_block qB 6
          have e7 := cell_at (i := 7) qB rfl; have ff7 := frozen_block qB 7
          have e8 := cell_at (i := 8) qB rfl; have ff8 := frozen_block qB 8
          have e9 := cell_at (i := 9) qB rfl; have ff9 := frozen_block qB 9
          have k8 : Keeps (fun _ => False) wq w9 := (by (repeat (first | with_reducible exact Keeps.refl _ _ | with_reducible refine Keeps.drewN ?_ _ | with_reducible refine Keeps.drew ?_ | with_reducible refine Keeps.alloc ?_ _ | with_reducible refine Keeps.trans ?_ k9)))
          have qC := (set_block (set_block (set_block (set_block (set_block (set_block (set_block (set_block (set_block (set_block qB 0 (.int .i64 o.n)) 1 (.int .i64 o.f0.s)) 2 (.int .u32 o.f0.g)) 3 (.int .i64 o.f1.s)) 4 (.int .u32 o.f1.g)) 5 (.int .i64 o.f2.s)) 6 (.int .u32 o.f2.g)) 7 (.int .i64 o.f3.s)) 8 (.int .u32 o.f3.g)) 9 (.bool o.h))
          have kC := ((((((((((k8.setCell (p := ⟨wq.heap.size, 0, none⟩) (.inr (Nat.le_refl _)) (.int .i64 o.n)).setCell (p := ⟨wq.heap.size, 1, none⟩) (.inr (Nat.le_refl _)) (.int .i64 o.f0.s)).setCell (p := ⟨wq.heap.size, 2, none⟩) (.inr (Nat.le_refl _)) (.int .u32 o.f0.g)).setCell (p := ⟨wq.heap.size, 3, none⟩) (.inr (Nat.le_refl _)) (.int .i64 o.f1.s)).setCell (p := ⟨wq.heap.size, 4, none⟩) (.inr (Nat.le_refl _)) (.int .u32 o.f1.g)).setCell (p := ⟨wq.heap.size, 5, none⟩) (.inr (Nat.le_refl _)) (.int .i64 o.f2.s)).setCell (p := ⟨wq.heap.size, 6, none⟩) (.inr (Nat.le_refl _)) (.int .u32 o.f2.g)).setCell (p := ⟨wq.heap.size, 7, none⟩) (.inr (Nat.le_refl _)) (.int .i64 o.f3.s)).setCell (p := ⟨wq.heap.size, 8, none⟩) (.inr (Nat.le_refl _)) (.int .u32 o.f3.g)).setCell (p := ⟨wq.heap.size, 9, none⟩) (.inr (Nat.le_refl _)) (.bool o.h))
          obtain ⟨wz, hwz⟩ : ∃ wz, ((((((((((w9.setCell ⟨wq.heap.size, 0, none⟩ (.int .i64 o.n)).setCell ⟨wq.heap.size, 1, none⟩ (.int .i64 o.f0.s)).setCell ⟨wq.heap.size, 2, none⟩ (.int .u32 o.f0.g)).setCell ⟨wq.heap.size, 3, none⟩ (.int .i64 o.f1.s)).setCell ⟨wq.heap.size, 4, none⟩ (.int .u32 o.f1.g)).setCell ⟨wq.heap.size, 5, none⟩ (.int .i64 o.f2.s)).setCell ⟨wq.heap.size, 6, none⟩ (.int .u32 o.f2.g)).setCell ⟨wq.heap.size, 7, none⟩ (.int .i64 o.f3.s)).setCell ⟨wq.heap.size, 8, none⟩ (.int .u32 o.f3.g)).setCell ⟨wq.heap.size, 9, none⟩ (.bool o.h)) = wz := ⟨_, rfl⟩
          rw [hwz] at qC kC
          have q9 : wz.cell? ⟨wq.heap.size, 9, none⟩ = some (.bool o.h) := cell_at qC (by simp)
          have l9 := lt_block qC
          clear qC
          refine wpAnyH_ready (rs := [13]) (by kernel_rfl) (by simp) ?_
          refine AllReadyH.cons rfl (fun K hK => ?_) ?_
          rotate_left
          · exact AllReadyH.nil
          go_simp
          refine hK.out _ _ ?_ (fun hHeld => ?_)
          · exact HPS.out _ (by (repeat (first | with_reducible exact kC | with_reducible refine Keeps.drewN ?_ _ | with_reducible refine Keeps.drew ?_)))
          clear hK K
          try dsimp only [Act.put, List.setIfInBounds_toArray, List.set_cons_zero, List.set_cons_succ]
          refine wpAnyH_take (i := 14) (v := ?_) rfl (by kernel_rfl) (by kernel_rfl) (by kernel_rfl) (fun _ _ _ h => h) (Or.inl ⟨by rfl, ?_⟩) (by assumption) ?_
          rotate_left
          · (intro w hSw; (try dsimp only at hSw); simp only [List.getElem_toArray, List.getElem_cons_zero, List.getElem_cons_succ]; go_simp; (first | done | with_reducible rfl))
          simp only [List.getElem_toArray, List.getElem_cons_zero, List.getElem_cons_succ, Act.put, List.setIfInBounds_toArray, List.set_cons_zero, List.set_cons_succ]
          refine wpAnyH_done (by kernel_rfl) ?_ _
          refine NoPanic.normal ?_
          all_goals
            clear e0 e1 e2 e3 e4 e5 e6 e7 e8 e9 ff0 ff1 ff2 ff3 ff4 ff5 ff6 ff7 ff8 ff9
            go_wp2_with fail
            go_meet
            exact ⟨_, rfl, rfl, hid (by (repeat (first | with_reducible exact kC | with_reducible refine Keeps.drewN ?_ _ | with_reducible refine Keeps.drew ?_))), hid ⟨q9, l9⟩⟩
      case rest =>
      obtain ⟨B, rfl, rfl, HKX, HBX⟩ := hcut
      obtain ⟨wv, hwv⟩ : ∃ wv, wc = wv := ⟨_, rfl⟩
      rw [hwv] at HKX HBX ⊢
      clear hwv
      have HKV := hid (HK.out.trans HKX.out)
      have HRV := hid (HR.out.keeps HKX.out (fun _ _ _ _ h => h))
      obtain ⟨y0, b0, b1⟩ := HPS.out wv HKX.out
      obtain ⟨z9, zl⟩ := HBX.out
      have HTK := hid (show T.take (j + 1) = T.take j ++ [r] from by rw [List.take_add_one, HRT.out]; rfl)
      obtain ⟨bo, hbo⟩ : ∃ bo, o.h = bo := ⟨_, rfl⟩
      rw [hbo] at z9
      have HB := hid (show (A.H.ob r.s.toNat).h = bo from by rw [HO.out]; exact hbo)
      clear HPS HOB hbo HBX
      rcases bo with _ | _
      · have HF := hid (show (T.take (j + 1)).filter (fun r => (A.H.ob r.s.toNat).h) = l by rw [HTK.out, List.filter_append, ← HL.out]; simp [HB.out])
        go_wp2_with fail
        exact ⟨⟨j + 1, q, d, l, by omega, by go_num, rfl, HF.out.symm, HRV, HKV⟩, by simp [intOf]; omega⟩
      · have HF := hid (show (T.take (j + 1)).filter (fun r => (A.H.ob r.s.toNat).h) = l ++ [r] by rw [HTK.out, List.filter_append, ← HL.out]; simp [HB.out])
        have HRO := hid (refs_one (alloc_new (w := wv) (o := .cells #[.int .i64 r.s, .int .u32 r.g] 33)))
        have HVD := hid (HRV.out.keeps ((Keeps.refl (fun _ => False) _).alloc (.cells #[.int .i64 r.s, .int .u32 r.g] 33)) (fun _ _ _ _ h => h))
        have hsz := HKV.out.size
        go_wp2_with (first
          | (at_builtin; refine wpList_append_refs _ rfl _ _ rfl w1.heap.size _ _ l [r] rfl rfl HVD.out HRO.out (by rw [List.length_singleton]; omega) (by rw [World.size_alloc]; omega) ?_; intro v5 w5 hr5 hk5 ho5; obtain ⟨p5, c5, rfl⟩ := hr5.refs.slice)
          | fail)
        have HR5 := hid hr5
        have hlt5 := HVD.out.lt
        refine ⟨⟨j + 1, p5, c5, l ++ [r], by omega, by go_num, by rw [List.length_append]; rfl, HF.out.symm, HR5, ?_⟩, by simp [intOf]; omega⟩
        exact hid ((HKV.out.alloc _).trans' hk5 (fun _ _ h => h) (fun y hy hz => by have := (hlt5 y hz).1; omega))
    · obtain rfl : j = T.length := by omega
      have hlt' : ¬ (T.length : Int) < (T.length : Int) := by omega
      have HLL := hid (show l = A.handles from by rw [HL.out, List.take_length]; exact HHN.out)
      go_wp2_with fail
      go_ret2
      exact ⟨_, rfl, HLL.out ▸ HR.out.mono HK1.out.size, HK1.out.trans HK.out⟩
end

section
variable {w0 w w' : World} {p a m b c : Nat} {LA : ArL} {LM : MkL} {k : Col} {f L : List Rf} {v : Value}
theorem pair_nil (h : Pair w0 w p a m b c LA LM k f) : Pair w0 (w.setCell ⟨p, 2, none⟩ (.slice none 0 0)) p a m b c LA LM k [] := by
  obtain ⟨hq, ⟨v, hown, hrow⟩, hp⟩ := h
  have ks := keeps_set1 w p 2 (.slice none 0 0)
  exact ⟨hq.oth hown ks hp (by decide) (by decide) (by decide) (by decide) (by decide) (by decide) (by decide) (by decide) (by decide) (by decide) (by decide) (by decide) (by decide) (by decide), ⟨_, (set_block hown 2 _).trans rfl, Row.nil _ _⟩, hp⟩
structure Lst (w : World) (p : Nat) (v : Value) (L : List Rf) : Prop where
  refs : Refs w v L
  ap : ∀ y u, v.ownBlock = some y → w.cell? ⟨p, 2, none⟩ = some u → u.ownBlock ≠ some y
theorem Lst.same (h : Lst w p v L) (hp : Pair w0 w p a m b c LA LM k f) (hk : Keeps (fun _ => False) w w') : Lst w' p v L := by
  refine ⟨h.refs.keeps hk (fun _ _ h => h), fun y u hy hu => ?_⟩
  obtain ⟨u2, h2⟩ := hp.c2
  obtain ⟨u3, h3, _⟩ := hp.ex
  have hpl := lt_block h3
  have e : w'.cell? ⟨p, 2, none⟩ = some u2 := (World.cell?_of_block (w := w) (w' := w') (a := ⟨p, 2, none⟩) (hk.block p hpl (fun h => h))).trans h2
  obtain rfl := Option.some.inj (hu.symm.trans e)
  exact h.ap y u hy h2
theorem Lst.pk (h : Lst w p v L) (hp : Pair w0 w p a m b c LA LM k f) (hk : PKeep w w' p (foot3 LA LM b c k.s)) : Lst w' p v L := by
  obtain ⟨hr, hap⟩ := h
  rcases hr with ⟨rfl, rfl⟩ | ⟨g, cap, cur, rfl, hg, hc⟩
  · exact ⟨.inl ⟨rfl, rfl⟩, fun y u hy => by cases hy⟩
  · obtain ⟨u3, h3, _⟩ := hp.ex
    obtain ⟨b1, b2⟩ := hk.block hg (hp.q.rowfoot hg) (type_ne hg h3 (by decide)) (fun v hv => hap g v rfl hv)
    refine ⟨.inr ⟨g, cap, cur, rfl, b1, hc⟩, fun y u hy hu => ?_⟩
    obtain rfl : g = y := Option.some.inj hy
    exact b2 u hu
theorem pair_ask' (h : Pair w0 w p a m b c LA LM k f) (hb : k.C.begun < 4611686018427387904) : Calls Tryz.prog 73 #[.pointer (some ⟨c, 0, none⟩)] w
    fun e w' => e = .returned (.bool k.askR.2) ∧ Pair w0 w' p a m b c LA LM k.askR.1 f ∧ PKeep w w' p (foot3 LA LM b c k.s) := by
  refine (cyask h.q hb).mono ?_
  rintro e w' ⟨rfl, hq, hk⟩
  exact ⟨rfl, h.fin hk hq⟩
end

theorem u8_natC {x : Int} (h : (Lit.int .u8 x).wf = true) : ∃ k : Nat, x = k ∧ k < 256 := by
  have e1 : IntKind.u8.min = 0 := by decide
  have e2 : IntKind.u8.max = 255 := by decide
  simp [Lit.wf, e1, e2] at h
  exact ⟨x.toNat, by omega, by omega⟩
end Go.Proofs.YtehmoikbeflkaaaGreat
