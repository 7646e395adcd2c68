/- estrayref18: Stack, Globals; Free, Make, Load. -/
import Derived.Test.YtnjgkhgdgpahfaaGreatRfF
import Derived.Test.YtnjgkhgdgpahfaaGreatRcF
import Derived.Test.YtnjgkhgdgpahfaaGreatMgA
import Derived.OrdersHeld
import Derived.Deep.RegionHeld
import Derived.Deep.RegionHeld3
namespace Go.Proofs.YtnjgkhgdgpahfaaGreat
open Go.RowKit
set_option linter.unusedVariables false
set_option linter.unusedSimpArgs false

/-! names in any part of a row -/
def RefsO (w : World) (u : Value) (m : List Rf) : Prop :=
  (∃ c, u = .slice none 0 c ∧ m = []) ∨ ∃ g o cap cur, u = .slice (some ⟨g, o, none⟩) m.length cap ∧ w.heap[g]? = some (.cells cur 39) ∧ ∀ (j : Nat) (r : Rf), m[j]? = some r → cur[o + j * 2]? = some (.int .i64 r.s) ∧ cur[o + (j * 2 + 1)]? = some (.int .u32 r.g)
theorem Refs.o {w : World} {u : Value} {m : List Rf} (h : Refs w u m) : RefsO w u m := by
  rcases h with ⟨rfl, rfl⟩ | ⟨g, cap, cur, rfl, hg, hc⟩
  · exact .inl ⟨0, rfl, rfl⟩
  · exact .inr ⟨g, 0, cap, cur, rfl, hg, fun j r hj => by rw [Nat.zero_add, Nat.zero_add]; exact hc j r hj⟩
def CapOk : Value → Prop
  | .slice _ n c => n ≤ c
  | _ => True
structure RefsC (w : World) (v : Value) (l : List Rf) : Prop where
  r : Refs w v l
  c : CapOk v
theorem RefsC.keeps {w w' : World} {v : Value} {l : List Rf} {S : Nat → Prop} (h : RefsC w v l) (hk : Keeps S w w') (hS : ∀ k, v.ownBlock = some k → ¬ S k) : RefsC w' v l := ⟨h.r.keeps hk hS, h.c⟩
theorem RefsC.o {w : World} {v : Value} {l : List Rf} (h : RefsC w v l) : RefsO w v l := h.r.o
theorem RefsC.slice {w : World} {v : Value} {l : List Rf} (h : RefsC w v l) : ∃ p c, v = .slice p l.length c := h.r.slice
theorem RefsO.keeps {w w' : World} {u : Value} {m : List Rf} {S : Nat → Prop} (h : RefsO w u m) (hk : Keeps S w w') (hS : ∀ k, u.ownBlock = some k → ¬ S k) : RefsO w' u m := by
  rcases h with h | ⟨g, o, cap, cur, rfl, hg, hc⟩
  · exact .inl h
  · exact .inr ⟨g, o, cap, cur, rfl, block_keep hg hk (hS g rfl), hc⟩
/-! the arena -/
structure L18 where
  hb : Nat
  hr : Nat
  sr : Nat
  sv : Nat → Value
structure R18 (w : World) (x : Nat) (L : L18) (A : Ar) : Prop where
  own : ∃ c cap, w.heap[x]? = some (.cells c 84) ∧ c.size = 20 ∧ c[0]? = some (.bool true) ∧ c[1]? = some (.int .i64 A.H.T.n) ∧ c[2]? = some (.pointer (some ⟨L.hb, 0, none⟩)) ∧ c[3]? = some (.slice (some ⟨L.sr, 0, none⟩) A.many cap) ∧ Rfs c 4 8 A.gl ∧ A.many ≤ cap ∧ cap ≤ maxLen
  heap : R14 w L.hb L.hr A.H
  row : ∃ c, w.heap[L.sr]? = some (.cells c 101) ∧ ∀ m, m < A.many → c[m]? = some (L.sv m)
  st : ∀ m, m < A.many → RefsC w (L.sv m) (A.rt m).l
  ok : A.Ok
def Alien (S : Nat → Prop) (w : World) : Prop := ∀ y c t, w.heap[y]? = some (.cells c t) → t = 84 ∨ t = 158 ∨ t = 161 ∨ t = 101 ∨ t = 39 → ¬ S y
theorem Alien.no (w : World) : Alien (fun _ => False) w := fun _ _ _ _ _ h => h
theorem Alien.new {w : World} {S : Nat → Prop} (h : ∀ y, S y → w.heap.size ≤ y) : Alien S w := fun y c t hy _ hs => by have := lt_block hy; have := h y hs; omega
section
variable {w w' : World} {x : Nat} {L : L18} {A : Ar}
theorem R18.keeps {S : Nat → Prop} (h : R18 w x L A) (hk : Keeps S w w') (hS : Alien S w) : R18 w' x L A := by
  obtain ⟨c, cap, h1, h2⟩ := h.own
  obtain ⟨cr, r1, r2⟩ := h.row
  obtain ⟨_, _, _, a1⟩ := h.heap.own
  obtain ⟨_, a2, _⟩ := h.heap.row
  refine ⟨⟨c, cap, block_keep h1 hk (hS _ _ _ h1 (.inl rfl)), h2⟩, h.heap.keeps hk (hS _ _ _ a1 (by simp)) (hS _ _ _ a2 (by simp)), ⟨cr, block_keep r1 hk (hS _ _ _ r1 (by simp)), r2⟩, fun m hm => (h.st m hm).keeps hk (fun k hk' => ?_), h.ok⟩
  rcases (h.st m hm).r with ⟨e, _⟩ | ⟨g, cap, cur, e, hg, _⟩
  · rw [e] at hk'; cases hk'
  · rw [e] at hk'
    obtain rfl : g = k := Option.some.inj hk'
    exact hS _ _ _ hg (by simp)
theorem R18.k0 (h : R18 w x L A) (hk : Keeps (fun _ => False) w w') : R18 w' x L A := h.keeps hk (Alien.no w)
theorem R18.lt (h : R18 w x L A) : x < w.heap.size ∧ L.sr < w.heap.size := by
  obtain ⟨c, cap, h1, h2⟩ := h.own
  obtain ⟨cr, r1, r2⟩ := h.row
  exact ⟨lt_block h1, lt_block r1⟩
theorem R18.made (h : R18 w x L A) : w.cell? ⟨x, 0, none⟩ = some (.bool true) := by
  obtain ⟨c, cap, h1, _, h2, _⟩ := h.own
  exact cell_at h1 h2
theorem R18.c1 (h : R18 w x L A) : w.cell? ⟨x, 1, none⟩ = some (.int .i64 A.H.T.n) := by
  obtain ⟨c, cap, h1, _, _, h2, _⟩ := h.own
  exact cell_at h1 h2
theorem R18.c2 (h : R18 w x L A) : w.cell? ⟨x, 2, none⟩ = some (.pointer (some ⟨L.hb, 0, none⟩)) := by
  obtain ⟨c, cap, h1, _, _, _, h2, _⟩ := h.own
  exact cell_at h1 h2
theorem R18.c3 (h : R18 w x L A) : ∃ cap, A.many ≤ cap ∧ cap ≤ maxLen ∧ w.cell? ⟨x, 3, none⟩ = some (.slice (some ⟨L.sr, 0, none⟩) A.many cap) := by
  obtain ⟨c, cap, h1, _, _, _, _, h2, _, a, b⟩ := h.own
  exact ⟨cap, a, b, cell_at h1 h2⟩
theorem R18.gl (h : R18 w x L A) {i : Nat} (hi : i < 8) : w.cell? ⟨x, 4 + i * 2, none⟩ = some (.int .i64 (A.gl i).s) ∧ w.cell? ⟨x, 4 + i * 2 + 1, none⟩ = some (.int .u32 (A.gl i).g) := by
  obtain ⟨c, cap, h1, _, _, _, _, _, h2, _⟩ := h.own
  obtain ⟨a, b⟩ := h2 i hi
  exact ⟨cell_at h1 a, cell_at h1 b⟩
theorem R18.sc (h : R18 w x L A) {m : Nat} (hm : m < A.many) : w.cell? ⟨L.sr, m, none⟩ = some (L.sv m) := by
  obtain ⟨cr, r1, r2⟩ := h.row
  exact cell_at r1 (r2 m hm)
theorem R18.sl (h : R18 w x L A) {m : Nat} (hm : m < A.many) : ∃ p c, L.sv m = .slice p (A.rt m).n c ∧ (A.rt m).n ≤ 32 := by
  obtain ⟨p, c, e⟩ := (h.st m hm).slice
  rw [rt_len] at e
  exact ⟨p, c, e, (h.ok.rt m hm).1⟩
theorem valid18 (x : Nat) (w : World) (h : w.cell? ⟨x, 0, none⟩ = some (.bool true)) :
    Calls Tryz.prog 66 #[.pointer (some ⟨x, 0, none⟩)] w fun e w' => e = .returned (.bool true) ∧ w' = w := by
  go_enter Tryz.func66, Tryz.ntmps66
  go_wp2
  go_ret
  exact ⟨rfl, rfl⟩
theorem sizes18 (h : R18 w x L A) :
    Calls Tryz.prog 29 #[.pointer (some ⟨x, 0, none⟩)] w fun e w' => e = .returned (.tuple #[.int .i64 A.H.T.n, .int .i64 A.many]) ∧ Keeps (fun _ => False) w w' := by
  have HM := hid h.made
  have c1 := h.c1
  obtain ⟨cap, a1, a2, c3⟩ := h.c3
  clear h a1 a2
  go_enter Tryz.func29, Tryz.ntmps29
  go_wp2_with fail
  refine (valid18 x _ HM.out).mono ?_
  rintro e w' ⟨rfl, h'⟩
  obtain rfl := h'.symm
  go_wp2_with fail
  go_quiet (fail)
  go_wp2
  go_ret2
  exact ⟨rfl, by repeat (first | exact Keeps.refl _ _ | apply Keeps.drewN)⟩
end

end Go.Proofs.YtnjgkhgdgpahfaaGreat

namespace Go.Proofs.YtnjgkhgdgpahfaaGreat

section
variable {P : Program} {ops : Array Oper} {Q : Exit → Act → World → Prop} {md : Region.Mode} {S : World → Prop} {t : Nat}
def predB (md : Region.Mode) (ops : Array Oper) (j k : Nat) : Bool := ((ops[j]?).map (·.after.any fun e => Region.binds md e && e.on == k)).getD false
def stepL (md : Region.Mode) (ops : Array Oper) (l : List Nat) : List Nat := (List.range ops.size).filter fun k => l.any fun j => predB md ops j k
def waitsL (md : Region.Mode) (ops : Array Oper) : Nat → List Nat → Nat → Bool
  | 0, _, _ => false
  | f + 1, l, i => (stepL md ops l).contains i || waitsL md ops f (stepL md ops l) i
def Dn (md : Region.Mode) (ops : Array Oper) (listed : Array Bool) : Prop := ∀ j k, predB md ops j k = true → listed.getD j false = true → listed.getD k false = true
def dnB (md : Region.Mode) (ops : Array Oper) (listed : Array Bool) : Bool := (List.range ops.size).all fun j => !listed.getD j false || ((ops[j]?).map (·.after.all fun e => !Region.binds md e || listed.getD e.on false)).getD false
theorem predB_of {j k : Nat} (h : predB md ops j k = true) : ∃ o, ops[j]? = some o ∧ ∃ e ∈ o.after, Region.binds md e = true ∧ e.on = k := by
  unfold predB at h
  rcases ho : ops[j]? with _ | o
  · rw [ho] at h; cases h
  · rw [ho] at h
    simp only [Option.map_some, Option.getD_some] at h
    rw [← Array.any_toList] at h
    obtain ⟨e, he, h1⟩ := List.any_eq_true.1 h
    have he := Array.mem_toList_iff.1 he
    simp only [Bool.and_eq_true, beq_iff_eq] at h1
    exact ⟨o, rfl, e, he, h1.1, h1.2⟩
theorem dn_of {listed : Array Bool} (h : dnB md ops listed = true) : Dn md ops listed := by
  intro j k hp hj
  obtain ⟨o, ho, e, he, hb, rfl⟩ := predB_of hp
  have h1 := List.all_eq_true.1 h j (List.mem_range.2 (Array.getElem?_eq_some_iff.1 ho).1)
  rw [hj, ho] at h1
  simp only [Bool.not_true, Bool.false_or, Option.map_some, Option.getD_some, Array.all_eq_true_iff_forall_mem] at h1
  have := h1 e he
  rw [hb] at this
  simpa using this
theorem Dn.set {listed : Array Bool} (h : Dn md ops listed) {j : Nat} (hj : j ∈ Region.ready md ops listed) : Dn md ops (listed.setIfInBounds j true) := by
  intro a b hp ha
  by_cases e : a = j
  · subst e
    obtain ⟨_, o, ho, hall⟩ := mem_ready.1 hj
    obtain ⟨o', ho', e, he, hb, rfl⟩ := predB_of hp
    rw [ho] at ho'
    obtain rfl := Option.some.inj ho'
    exact getD_set_true (hall e he hb)
  · rw [getD_set_ne false (Ne.symm e)] at ha
    exact getD_set_true (h a b hp ha)
theorem Dn.waits {listed : Array Bool} (h : Dn md ops listed) : ∀ (f : Nat) (l : List Nat) (i : Nat), waitsL md ops f l i = true → (∀ j ∈ l, ∀ k, predB md ops j k = true → listed.getD k false = true) → listed.getD i false = true
  | 0, _, _, h0, _ => by cases h0
  | f + 1, l, i, h0, hl => by
    have hm : ∀ k ∈ stepL md ops l, listed.getD k false = true := fun k hk => by
      obtain ⟨_, hk⟩ := List.mem_filter.1 hk
      obtain ⟨j, hj, hp⟩ := List.any_eq_true.1 hk
      exact hl j hj k hp
    unfold waitsL at h0
    rcases Bool.or_eq_true _ _ ▸ h0 with h1 | h1
    · exact hm i (by simpa using h1)
    · exact Dn.waits h f _ i h1 (fun j hj k hp => h j k hp (hm j hj))
theorem Dn.last {listed : Array Bool} (h : Dn md ops listed) {f i : Nat} (hw : waitsL md ops f [t] i = true) (ht : t ∈ Region.ready md ops listed) : listed.getD i false = true := by
  refine h.waits f [t] i hw (fun j hj k hp => ?_)
  rw [List.mem_singleton.1 hj] at hp
  obtain ⟨_, o, ho, hall⟩ := mem_ready.1 ht
  obtain ⟨o', ho', e, he, hb, rfl⟩ := predB_of hp
  rw [ho] at ho'
  obtain rfl := Option.some.inj ho'
  exact hall e he hb
def wpAnyT (P : Program) (md : Region.Mode) (ops : Array Oper) (Q : Exit → Act → World → Prop) (S : World → Prop) (t : Nat) : Nat → Array Bool → Act → World → Prop
  | 0, listed, a, w => Region.ready md ops listed = [] ∧ Q .normal a w
  | fuel + 1, listed, a, w =>
    (Region.ready md ops listed = [] → Q .normal a w) ∧
    ∀ i ∈ Region.ready md ops listed, wpOp P ops Q i (fun a' w' => (i = t → Region.ready md ops (listed.setIfInBounds i true) = [] ∧ Q .normal a' w') ∧ (i ≠ t → S w' ∧ wpAnyT P md ops Q S t fuel (listed.setIfInBounds i true) a' w')) a w
theorem wpAny_of_T : ∀ (fuel : Nat) (listed : Array Bool) (a : Act) (w : World), wpAnyT P md ops Q S t fuel listed a w → wpAny P md ops Q fuel listed a w
  | 0, _, _, _, h => h
  | fuel + 1, _, _, _, h => ⟨h.1, fun i hi => wpOp_mono (fun a' w' h' => by
      by_cases e : i = t
      · obtain ⟨h1, h2⟩ := h'.1 e
        cases fuel with
        | zero => exact ⟨h1, h2⟩
        | succ f => exact ⟨fun _ => h2, by rw [h1]; simp⟩
      · exact wpAny_of_T fuel _ a' w' (h'.2 e).2) (h.2 i hi)⟩
theorem wpAnyT_first {i : Nat} {oi : Oper} {v : Value} (hi : ops[i]? = some oi) (hsel : ∀ (j : Nat) (o : Oper) cs b, ops[j]? = some o → o.op ≠ .select cs b)
    (hQ : ∀ c a w, Q (.panic c) (a.put oi.dst v) w → Q (.panic c) a w) {f : Nat} (hw : waitsL md ops f [t] i = true) (hit : i ≠ t) :
    ∀ (fuel : Nat) (listed : Array Bool) (a : Act) (w : World), Dn md ops listed →
      (∀ j oj, ops[j]? = some oj → j ≠ i → listed.getD j true = false → (∀ e ∈ oj.after, Region.binds md e = true → e.on ≠ i) → oi.apart ops oj = true) →
      i ∈ Region.ready md ops listed → YieldsIf P ops S oi v a → S w →
      wpAnyT P md ops Q S t fuel (listed.setIfInBounds i true) (a.put oi.dst v) w → wpAnyT P md ops Q S t (fuel + 1) listed a w := by
  intro fuel
  induction fuel with
  | zero =>
    intro listed a w _ _ hr hy hS H
    refine ⟨fun h => (by rw [h] at hr; cases hr), fun j hj => ?_⟩
    by_cases hji : j = i
    · subst hji; exact hy.wpOp hi hS ⟨fun e => absurd e hit, fun _ => ⟨hS, H⟩⟩
    · have := ready_mono hj hji
      rw [H.1] at this
      cases this
  | succ fuel ih =>
    intro listed a w hD hfree hr hy hS H
    refine ⟨fun h => (by rw [h] at hr; cases hr), fun j hj => ?_⟩
    by_cases hji : j = i
    · subst hji; exact hy.wpOp hi hS ⟨fun e => absurd e hit, fun _ => ⟨hS, H⟩⟩
    · have hjt : j ≠ t := by
        rintro rfl
        have h1 := hD.last hw hj
        have h0 := (mem_ready.1 hr).1
        rcases Nat.lt_or_ge i listed.size with h' | h'
        · simp [h'] at h0 h1; rw [h0] at h1; cases h1
        · simp [Array.getElem?_eq_none h'] at h1
      have h1 := H.2 j (ready_mono hj hji)
      obtain ⟨hjun, oj, hoj, hall⟩ := mem_ready.1 hj
      have hnot : ∀ e ∈ oj.after, Region.binds md e = true → e.on ≠ i := fun e he hb heq => by
        have h1 := hall e he hb
        have h0 := (mem_ready.1 hr).1
        rw [heq] at h1
        rcases Nat.lt_or_ge i listed.size with h' | h'
        · simp [h'] at h0 h1; rw [h0] at h1; cases h1
        · simp [Array.getElem?_eq_none h'] at h1
      have h2 := wpOp_putIf hoj (hfree j oj hoj hji hjun hnot) (fun cs b => hsel i oi cs b hi) (fun cs b => hsel j oj cs b hoj) hQ hy h1
      have hfree' : ∀ k ok, ops[k]? = some ok → k ≠ i → (listed.setIfInBounds j true).getD k true = false →
          (∀ e ∈ ok.after, Region.binds md e = true → e.on ≠ i) → oi.apart ops ok = true := fun k ok hk hki hun hno => by
        refine hfree k ok hk hki ?_ hno
        by_cases hjk : j = k
        · subst hjk; exact hjun
        · rw [getD_set_ne true hjk] at hun; exact hun
      refine wpOp_mono (fun a' w' h3 => ⟨fun e => absurd e hjt, fun _ => ⟨(h3.2.2 hjt).1, ih (listed.setIfInBounds j true) a' w' (hD.set hj) hfree' (ready_mono hr (Ne.symm hji)) h3.1 (h3.2.2 hjt).1 ?_⟩⟩) h2
      rw [Array.setIfInBounds_comm _ _ hji]
      exact (h3.2.2 hjt).2
theorem wpAnyT_take {i : Nat} {oi : Oper} {v : Value} {fuel : Nat} {listed : Array Bool} {a : Act} {w : World} (hi : ops[i]? = some oi)
    (hs : Region.noSelect ops = true) (hf : Region.free md ops listed i = true) (hr : (Region.ready md ops listed).contains i = true) (hd : (dnB md ops listed && (waitsL md ops 12 [t] i && !(i == t))) = true)
    (hQ : ∀ c a w, Q (.panic c) (a.put oi.dst v) w → Q (.panic c) a w) (hy : YieldsIf P ops S oi v a) (hS : S w)
    (h : wpAnyT P md ops Q S t fuel (listed.setIfInBounds i true) (a.put oi.dst v) w) : wpAnyT P md ops Q S t (fuel + 1) listed a w := by
  simp only [Bool.and_eq_true, Bool.not_eq_true', beq_eq_false_iff_ne] at hd
  exact wpAnyT_first hi (Region.noSelect_spec hs) hQ hd.2.1 hd.2.2 fuel listed a w (dn_of hd.1) (Region.free_spec hi hf) (by simpa using hr) hy hS h
def AllReadyT (P : Program) (md : Region.Mode) (ops : Array Oper) (Q : Exit → Act → World → Prop) (S : World → Prop) (t : Nat) (fuel : Nat) (listed : Array Bool) (a : Act) (w : World) (rs : List Nat) : Prop :=
  ∀ i ∈ rs, wpOp P ops Q i (fun a' w' => (i = t → Region.ready md ops (listed.setIfInBounds i true) = [] ∧ Q .normal a' w') ∧ (i ≠ t → S w' ∧ wpAnyT P md ops Q S t fuel (listed.setIfInBounds i true) a' w')) a w
theorem AllReadyT.nil {fuel : Nat} {listed : Array Bool} {a : Act} {w : World} : AllReadyT P md ops Q S t fuel listed a w [] := fun _ h => by cases h
theorem AllReadyT.cons {fuel : Nat} {listed : Array Bool} {a : Act} {w : World} {i : Nat} {o : Oper} {rs : List Nat} (ho : ops[i]? = some o) (hit : (i == t) = false)
    (h : ∀ K' : Act → World → Prop, Shut (∀ a w, S w → (S w → wpAnyT P md ops Q S t fuel (listed.setIfInBounds i true) a w) → K' a w) → if Region.wanted o (yielded ops a.tmps) = true then Oper.wp P o a w K' Q else K' (a.put o.dst undef) w)
    (hs : AllReadyT P md ops Q S t fuel listed a w rs) : AllReadyT P md ops Q S t fuel listed a w (i :: rs) := fun j hj => by
  rcases List.mem_cons.1 hj with rfl | hj
  · exact wpOp_step ho (fun K' hK => h K' (fun a w hS hW => hK a w ⟨fun e => by simp [e] at hit, fun _ => ⟨hS, hW hS⟩⟩))
  · exact hs j hj
theorem AllReadyT.last {fuel : Nat} {listed : Array Bool} {a : Act} {w : World} {o : Oper} (ho : ops[t]? = some o) (hr : Region.ready md ops (listed.setIfInBounds t true) = [])
    (h : ∀ K' : Act → World → Prop, Shut (∀ a w, Q .normal a w → K' a w) → if Region.wanted o (yielded ops a.tmps) = true then Oper.wp P o a w K' Q else K' (a.put o.dst undef) w) :
    AllReadyT P md ops Q S t fuel listed a w [t] := fun j hj => by
  obtain rfl := List.mem_singleton.1 hj
  exact wpOp_step ho (fun K' hK => h K' (fun a w hq => hK a w ⟨fun _ => ⟨hr, hq⟩, fun e => absurd rfl e⟩))
theorem wpAnyT_ready {rs : List Nat} {fuel : Nat} {listed : Array Bool} {a : Act} {w : World} (hr : Region.ready md ops listed = rs) (hne : rs ≠ [])
    (h : AllReadyT P md ops Q S t fuel listed a w rs) : wpAnyT P md ops Q S t (fuel + 1) listed a w := ⟨fun h0 => absurd (hr ▸ h0) hne, hr ▸ h⟩
theorem wp_region_last {id : Nat} {a : Act} {w : World} (t : Nat) (S : World → Prop) (hm : P.follows .mixedOrders = true) (hS : S w.drew)
    (h : S w.drew → wpAnyT P .any ops (NoPanic Q) S t ops.size (Array.replicate ops.size false) a w.drew) : (Code.region id ops true).wp P Q a w :=
  wp_region_noPanic (wp_region_any hm (wpAny_of_T _ _ _ _ (h hS)))
end

end Go.Proofs.YtnjgkhgdgpahfaaGreat

namespace Go.Proofs.YtnjgkhgdgpahfaaGreat
open Go.RowKit
set_option linter.unusedVariables false
set_option linter.unusedSimpArgs false

theorem rows_info : ∃ i, Tryz.prog.info? 101 = some i ∧ i.zero = some (.slice none 0 0) ∧ i.size = 1 ∧ i.bytes = 24 := by
  have h : (Tryz.prog.info? 101).map (fun i => (i.zero, i.size, i.bytes)) = some (some (.slice none 0 0), 1, 24) := by kernel_rfl
  rcases hi : Tryz.prog.info? 101 with _ | i
  · rw [hi] at h; cases h
  · rw [hi] at h
    simp only [Option.map_some, Option.some.injEq, Prod.mk.injEq] at h
    exact ⟨i, rfl, h.1, h.2.1, h.2.2⟩
def Up18 (x N : Nat) (L : L18) (A' : Ar) (w w' : World) : Prop := Keeps (fun y => y = x ∨ y = L.hb) w w' ∧ ∃ L', L'.hb = L.hb ∧ R18 w' x L' A' ∧
  ∀ m k, m < A'.many → (L'.sv m).ownBlock = some k → (∃ m', m' < A'.many ∧ (L.sv m').ownBlock = some k) ∨ N ≤ k
section
variable {w w' : World} {x : Nat} {L : L18} {A : Ar}
theorem svL_len (L : L18) : ∀ i, ((fun i => [L.sv i]) i).length = 1 := fun _ => rfl
theorem R18.svs (h : R18 w x L A) : ∀ j u, (slotsL (fun i => [L.sv i]) A.many)[j]? = some u → w.cell? ((⟨L.sr, 0, none⟩ : Addr).add j) = some u := by
  intro j u hu
  have hj : j < A.many := by
    have := (List.getElem?_eq_some_iff.1 hu).1
    rw [slotsL_len (svL_len L)] at this
    omega
  have := slotsL_get (svL_len L) A.many j 0 hj (by omega)
  rw [Nat.mul_one, Nat.add_zero, hu] at this
  rw [Addr.add_mid, Nat.zero_add, h.sc hj, this]; rfl
end

end Go.Proofs.YtnjgkhgdgpahfaaGreat

namespace Go.Proofs.YtnjgkhgdgpahfaaGreat
open Go.RowKit
set_option linter.unusedVariables false
set_option linter.unusedSimpArgs false

section
variable {w w' : World} {x : Nat} {L : L18} {A : Ar}
theorem Up18.stay {N : Nat} (h : R18 w x L A) (hk : Keeps (fun _ => False) w w') : Up18 x N L A w w' := ⟨hk.up, L, rfl, h.k0 hk, fun m k hm hk => .inl ⟨m, hm, hk⟩⟩
theorem R18.setH {H' : Hp} {r' : Nat} (h : R18 w x L A) (hk : Keeps (fun y => y = L.hb) w w') (hH : R14 w' L.hb r' H') (hn : H'.T.n = A.H.T.n) (hok : ({ A with H := H' } : Ar).Ok) : R18 w' x { L with hr := r' } { A with H := H' } := by
  obtain ⟨c, cap, h1, h2, h3, h4, h5⟩ := h.own
  obtain ⟨cr, r1, r2⟩ := h.row
  obtain ⟨_, _, _, a1⟩ := h.heap.own
  refine ⟨⟨c, cap, block_keep h1 hk (type_ne h1 a1 (by decide)), h2, h3, by rw [hn]; exact h4, h5⟩, hH, ⟨cr, block_keep r1 hk (type_ne r1 a1 (by decide)), r2⟩, fun m hm => (h.st m hm).keeps hk (fun k hk' e => ?_), hok⟩
  rcases (h.st m hm).r with ⟨e', _⟩ | ⟨g, cap, cur, e', hg, _⟩
  · rw [e'] at hk'; cases hk'
  · rw [e'] at hk'
    obtain rfl : g = k := Option.some.inj hk'
    exact type_ne hg a1 (by decide) e
end

end Go.Proofs.YtnjgkhgdgpahfaaGreat
