/- Rows of attempts; maps with resources of the outer world as keys. -/
import Derived.Test.YtcagogkgnnckaaaGreatDoorAuP
import Derived.Test.YtcagogkgnnckaaaGreatDoorCgA
import Derived.Maps.OwnOps
import Derived.DeepKeys4
namespace Go.Proofs.YtcagogkgnnckaaaGreatDoor
open Go.RowKit
open Go.Maps (Keyed)
set_option linter.unusedVariables false
set_option linter.unusedSimpArgs false

/-! rows of attempts -/
structure AtCell (w : World) (b o : Nat) (x : At) : Prop where
  c0 : w.cell? ⟨b, o, none⟩ = some (.int .i64 x.t)
  c1 : w.cell? ⟨b, o + 1, none⟩ = some (.int .i64 x.o.1)
  c2 : w.cell? ⟨b, o + 2, none⟩ = some (.int .i64 x.o.2.1)
  c3 : w.cell? ⟨b, o + 3, none⟩ = some (.int .u32 x.o.2.2)
  c4 : w.cell? ⟨b, o + 4, none⟩ = some (.int .i64 x.y)
  c5 : w.cell? ⟨b, o + 5, none⟩ = some (.int .i64 x.s)
/-- numbers that fit -/
structure At.Wf (x : At) : Prop where
  t : (Lit.int .i64 x.t).wf = true
  k : (Lit.int .i64 x.o.1).wf = true
  i : (Lit.int .i64 x.o.2.1).wf = true
  g : (Lit.int .u32 x.o.2.2).wf = true
def Ou.Wf (o : Ou) : Prop := (Lit.int .i64 o.1).wf = true ∧ (Lit.int .i64 o.2.1).wf = true ∧ (Lit.int .u32 o.2.2).wf = true
def Ou.val (o : Ou) : Value := .agg #[.int .i64 o.1, .int .i64 o.2.1, .int .u32 o.2.2]
def AtRow (w : World) (v : Value) (l : List At) : Prop := ∃ a cap, v = .slice a l.length cap ∧ l.length ≤ cap ∧ cap ≤ maxLen ∧ (∀ x ∈ l, x.Wf) ∧ (l = [] ∨ ∃ b off, a = some ⟨b, off, none⟩ ∧ b < w.heap.size ∧ ∀ (i : Nat) (x : At), l[i]? = some x → AtCell w b (off + i * 6) x)
theorem AtCell.same {w w' : World} {b o : Nat} {x : At} (h : AtCell w b o x) (hb : w'.heap[b]? = w.heap[b]?) : AtCell w' b o x := by
  have e := fun k => World.cell?_of_block (w := w) (w' := w') (a := ⟨b, k, none⟩) hb
  exact ⟨(e _).trans h.c0, (e _).trans h.c1, (e _).trans h.c2, (e _).trans h.c3, (e _).trans h.c4, (e _).trans h.c5⟩
theorem AtRow.keeps {w w' : World} {v : Value} {l : List At} {S : Nat → Prop} (h : AtRow w v l) (hk : Keeps S w w') (hS : ∀ k, k < w.heap.size → ¬ S k) : AtRow w' v l := by
  obtain ⟨a, cap, rfl, h1, h2, h3, h4⟩ := h
  refine ⟨a, cap, rfl, h1, h2, h3, ?_⟩
  rcases h4 with h4 | ⟨b, off, rfl, hb, hx⟩
  · exact .inl h4
  · exact .inr ⟨b, off, rfl, Nat.lt_of_lt_of_le hb hk.size, fun i x hi => (hx i x hi).same (hk.block b hb (hS b hb))⟩

/-! maps -/
theorem outer_row : (38 : TypeId) < Tryz.prog.types.size := of_decide_eq_true (by kernel_rfl)
theorem outer_wide : (match Tryz.prog.underlying 38 with | some (.array _ _) | some (.struct _) => true | _ => false) = true := by rw [Tryz.underlying38]
set_option maxRecDepth 100000 in
theorem outer_law : Keyed Tryz.prog 38 := Keyed.of_law (deep_law_laid Tryz.laidOut (m := 2) (by omega) outer_row (by kernel_rfl) outer_wide)
theorem outer_cells : Tryz.prog.cellsOf 38 = 3 := by kernel_rfl
theorem outer_formed {c0 c1 c2 : Value} : (Value.agg #[c0, c1, c2]).formed Tryz.prog 38 = true := by simp [Value.formed, Tryz.underlying38, outer_cells]
theorem outer_keytype : Tryz.prog.keyType 38 = true := by kernel_rfl
theorem size_pos {P : Program} {k : TypeId} (h : k < P.types.size) : ∃ d, P.types.size = d + 1 := ⟨_, (Nat.sub_add_cancel (Nat.lt_of_le_of_lt (Nat.zero_le _) h)).symm⟩
theorem keyLits_int {P : Program} {t : TypeId} {q : IntKind} (h : P.underlying t = some (.int q)) (d : Nat) {n : Int} (hw : (Lit.int q n).wf = true) : P.keyLits (d + 1) t [.int q n] = some [.int q n] := by
  simp [Program.keyLits, h, hw]
theorem Ou.Wf.key {o : Ou} (h : o.Wf) : ∃ kl, keyOf Tryz.prog 38 o.val = some kl := by
  have h1 : Tryz.prog.cellsOf 3 = 1 := by kernel_rfl
  have h2 : Tryz.prog.cellsOf 26 = 1 := by kernel_rfl
  obtain ⟨d, hd⟩ : ∃ d, Tryz.prog.types.size = d + 1 := size_pos outer_row
  have k1 := fun d => keyLits_int (P := Tryz.prog) Tryz.underlying3 d h.1
  have k2 := fun d => keyLits_int (P := Tryz.prog) Tryz.underlying3 d h.2.1
  have k3 := fun d => keyLits_int (P := Tryz.prog) Tryz.underlying26 d h.2.2
  apply Option.isSome_iff_exists.1
  unfold keyOf Ou.val
  rw [Tryz.underlying38]
  simp only [outer_keytype, outer_formed, Bool.and_self, if_true]
  rw [hd]
  unfold Program.keyLits
  rw [Tryz.underlying38]
  simp [Value.cells, outer_cells, h1, h2, k1, k2, k3]
theorem Ou.val_inj {o p : Ou} (h : o.val = p.val) : o = p := by
  obtain ⟨a, b, c⟩ := o; obtain ⟨d, e, f⟩ := p
  simp [Ou.val] at h
  obtain ⟨rfl, rfl, rfl⟩ := h
  rfl
/-- the map at block b says f -/
def OM (w : World) (b : Nat) (f : Ou → Option Value) : Prop :=
  ∃ es clock, w.heap[b]? = some (.map es clock) ∧ (∀ e ∈ es.toList, ∃ o : Ou, o.Wf ∧ e.key = o.val) ∧ (es.toList.map (·.key)).Nodup ∧ ∀ o v, f o = some v ↔ ∃ e ∈ es.toList, e.key = o.val ∧ e.val = v
theorem OM.lt {w : World} {b : Nat} {f : Ou → Option Value} (h : OM w b f) : b < w.heap.size := by
  obtain ⟨es, c, h1, _⟩ := h; exact lt_block h1
theorem OM.keeps {w w' : World} {b : Nat} {f : Ou → Option Value} {S : Nat → Prop} (h : OM w b f) (hk : Keeps S w w') (hS : ¬ S b) : OM w' b f := by
  obtain ⟨es, c, h1, h2⟩ := h
  exact ⟨es, c, block_keep h1 hk hS, h2⟩
theorem OM.made (w : World) : OM (w.alloc (.map #[] 0)) w.heap.size (fun _ => none) := ⟨#[], 0, alloc_new, by simp, by simp, by simp⟩
theorem OM.look {w : World} {b : Nat} {f : Ou → Option Value} (h : OM w b f) {t e : TypeId} (ht : Tryz.prog.underlying t = some (.map 38 e)) {z : Value} (hz : (zeroValue e).run Tryz.prog w = .ok z w) {o : Ou} (ho : o.Wf) (c : Bool) :
    (Instr.lookup t (.map (some b)) o.val c).run Tryz.prog w = .ok (if c then .tuple #[(f o).getD z, .bool (f o).isSome] else (f o).getD z) w := by
  obtain ⟨es, clock, hb, hk, hn, hf⟩ := h
  obtain ⟨kl, hkey⟩ := ho.key
  have hks : ∀ e ∈ es.toList, ∃ l, keyOf Tryz.prog 38 e.key = some l := fun e he => by
    obtain ⟨p, hp, e1⟩ := hk e he
    obtain ⟨kl, h1⟩ := hp.key
    exact ⟨kl, by rw [e1]; exact h1⟩
  rcases outer_law.find w hkey es.toList hks with ⟨h1, hno⟩ | ⟨j, e0, h1, hj, he⟩
  · have hf0 : f o = none := by
      cases h0 : f o with
      | none => rfl
      | some v => obtain ⟨e, he, e1, _⟩ := (hf o v).1 h0; exact absurd e1 (hno e he)
    rw [hf0]
    simp [Instr.lookup, run_underlying ht, MapKept.run_getObj_map hb, outer_law.check w _ hkey, h1, hz, Result.andThen]
  · have hf0 : f o = some e0.val := (hf o _).2 ⟨e0, List.mem_of_getElem? hj, he, rfl⟩
    rw [hf0]
    simp [Instr.lookup, run_underlying ht, MapKept.run_getObj_map hb, outer_law.check w _ hkey, h1, Result.andThen]
theorem nodup_at {α : Type} {l : List α} (h : l.Nodup) {i j : Nat} {x : α} (hi : l[i]? = some x) (hj : l[j]? = some x) : i = j := by
  obtain ⟨hi1, hi2⟩ := List.getElem?_eq_some_iff.1 hi
  obtain ⟨hj1, hj2⟩ := List.getElem?_eq_some_iff.1 hj
  have hp := List.pairwise_iff_getElem.1 h
  rcases Nat.lt_trichotomy i j with c | c | c
  · exact absurd (hi2.trans hj2.symm) (hp i j hi1 hj1 c)
  · exact c
  · exact absurd (hj2.trans hi2.symm) (hp j i hj1 hi1 c)
theorem OM.put {w : World} {b : Nat} {f : Ou → Option Value} (h : OM w b f) {t e : TypeId} (ht : Tryz.prog.underlying t = some (.map 38 e)) {o : Ou} (ho : o.Wf) (v : Value) :
    ∃ M X, w.heap[b]? = some M ∧ (∀ W : World, W.heap[b]? = some M → (Instr.mapUpdate t (.map (some b)) o.val v).run Tryz.prog W = .ok () (Go.ChangeMaps.setBlock W b X)) ∧ ∀ W : World, W.heap[b]? = some M → OM (Go.ChangeMaps.setBlock W b X) b (fun x => if x = o then some v else f x) := by
  obtain ⟨es, clock, hb0, hk, hn, hf⟩ := h
  obtain ⟨kl, hkey⟩ := ho.key
  have hks : ∀ e ∈ es.toList, ∃ l, keyOf Tryz.prog 38 e.key = some l := fun e he => by
    obtain ⟨p, hp, e1⟩ := hk e he
    obtain ⟨kl, h1⟩ := hp.key
    exact ⟨kl, by rw [e1]; exact h1⟩
  rcases outer_law.find w hkey es.toList hks with ⟨_, hno⟩ | ⟨j, e0, _, hj, he⟩
  · refine ⟨_, .map (es.push ⟨o.val, v, clock⟩) (clock + 1), hb0, fun W hb => ?_, fun W hb => ⟨_, _, Go.ChangeMaps.heap_setBlock_same hb _, ?_, ?_, ?_⟩⟩
    · rcases outer_law.find W hkey es.toList hks with ⟨h1, _⟩ | ⟨j, e0, _, hj, he⟩
      · simp [Instr.mapUpdate, run_underlying ht, MapKept.run_getObj_map hb, outer_law.check W false hkey, h1, MapKept.run_setObj_map _ hb, Result.andThen, Go.ChangeMaps.setBlock]
      · exact absurd he (hno e0 (List.mem_of_getElem? hj))
    · intro e he
      simp only [Array.toList_push, List.mem_append, List.mem_singleton] at he
      rcases he with he | rfl
      · exact hk e he
      · exact ⟨o, ho, rfl⟩
    · simp only [Array.toList_push, List.map_append, List.map_cons, List.map_nil]
      rw [List.nodup_append]
      refine ⟨hn, by simp, ?_⟩
      intro a ha c hc e
      simp only [List.mem_singleton] at hc
      obtain ⟨e', he', rfl⟩ := List.mem_map.1 ha
      exact hno e' he' (e.trans hc)
    · intro x u
      simp only [Array.toList_push, List.mem_append, List.mem_singleton]
      by_cases hx : x = o
      · subst hx
        simp only [if_true, Option.some.injEq]
        constructor
        · rintro rfl; exact ⟨_, .inr rfl, rfl, rfl⟩
        · rintro ⟨e', he' | rfl, e1, e2⟩
          · exact absurd e1 (hno e' he')
          · exact e2
      · simp only [if_neg hx]
        rw [hf]
        constructor
        · rintro ⟨e', he', h⟩; exact ⟨e', .inl he', h⟩
        · rintro ⟨e', he' | rfl, e1, e2⟩
          · exact ⟨e', he', e1, e2⟩
          · exact absurd (Ou.val_inj e1).symm hx
  · obtain ⟨hj1, hj2⟩ := List.getElem?_eq_some_iff.1 hj
    have hj3 : es[j]? = some e0 := by simpa using hj
    have hml : (es.modify j fun e => { e with key := o.val, val := v }).toList = es.toList.set j { e0 with key := o.val, val := v } := by
      apply List.ext_getElem?
      intro i
      rw [Array.getElem?_toList, Array.getElem?_modify, List.getElem?_set]
      by_cases hij : j = i
      · subst hij; simp [hj3, hj1]; simpa using hj1
      · simp [hij]
    refine ⟨_, .map (es.modify j fun e => { e with key := o.val, val := v }) clock, hb0, fun W hb => ?_, fun W hb => ⟨_, _, Go.ChangeMaps.heap_setBlock_same hb _, ?_, ?_, ?_⟩⟩
    · have hst := outer_law.stays W hkey
      rcases outer_law.find W hkey es.toList hks with ⟨_, hno⟩ | ⟨j', e1, h1, hj', he'⟩
      · exact absurd he (hno e0 (List.mem_of_getElem? hj))
      · obtain rfl : j' = j := nodup_at hn (x := o.val) (by rw [List.getElem?_map, hj', Option.map_some, he']) (by rw [List.getElem?_map, hj, Option.map_some, he])
        simp [Instr.mapUpdate, run_underlying ht, MapKept.run_getObj_map hb, outer_law.check W false hkey, h1, hj3, he, hst, MapKept.run_setObj_map _ hb, Result.andThen, Go.ChangeMaps.setBlock]
    · rw [hml]
      intro e' he'
      rcases List.mem_or_eq_of_mem_set he' with he' | rfl
      · exact hk e' he'
      · exact ⟨o, ho, rfl⟩
    · rw [hml, List.map_set]
      have : (es.toList.map (·.key)).set j o.val = es.toList.map (·.key) := by
        apply List.ext_getElem?
        intro i
        rw [List.getElem?_set]
        by_cases hij : j = i
        · subst hij; simp [hj3, he]; simpa using hj1
        · simp [hij]
      rw [this]
      exact hn
    · intro x u
      rw [hml]
      by_cases hx : x = o
      · subst hx
        simp only [if_true, Option.some.injEq]
        constructor
        · rintro rfl
          exact ⟨{ e0 with key := x.val, val := v }, List.mem_of_getElem? (i := j) (by rw [List.getElem?_set]; simp [show j < es.size by simpa using hj1]), rfl, rfl⟩
        · rintro ⟨e', he', e1, e2⟩
          obtain ⟨i, hi⟩ := List.mem_iff_getElem?.1 he'
          rw [List.getElem?_set] at hi
          by_cases hij : j = i
          · subst hij
            simp [show j < es.size by simpa using hj1] at hi
            subst hi
            exact e2
          · rw [if_neg hij] at hi
            have : i = j := nodup_at hn (x := x.val) (by rw [List.getElem?_map, hi, Option.map_some, e1]) (by rw [List.getElem?_map, hj, Option.map_some, he])
            exact absurd this.symm hij
      · simp only [if_neg hx]
        rw [hf]
        constructor
        · rintro ⟨e', he', e1, e2⟩
          obtain ⟨i, hi⟩ := List.mem_iff_getElem?.1 he'
          have hij : ¬ j = i := by
            rintro rfl
            rw [hj] at hi
            cases hi
            exact hx (Ou.val_inj (e1.symm.trans he))
          exact ⟨e', List.mem_of_getElem? (i := i) (by rw [List.getElem?_set, if_neg hij]; exact hi), e1, e2⟩
        · rintro ⟨e', he', e1, e2⟩
          rcases List.mem_or_eq_of_mem_set he' with he' | rfl
          · exact ⟨e', he', e1, e2⟩
          · exact absurd (Ou.val_inj e1).symm hx
theorem OM.set {w : World} {b : Nat} {f : Ou → Option Value} (h : OM w b f) {t e : TypeId} (ht : Tryz.prog.underlying t = some (.map 38 e)) {o : Ou} (ho : o.Wf) (v : Value) :
    ∃ w', (Instr.mapUpdate t (.map (some b)) o.val v).run Tryz.prog w = .ok () w' ∧ OM w' b (fun x => if x = o then some v else f x) ∧ Keeps (fun y => y = b) w w' := by
  obtain ⟨M, X, h1, h2, h3⟩ := h.put ht ho v
  obtain ⟨es, clock, hb, _⟩ := h
  exact ⟨_, h2 w h1, h3 w h1, ⟨rfl, rfl, rfl, by simp [Go.ChangeMaps.setBlock], fun i _ hi => Go.ChangeMaps.heap_setBlock_other hb _ hi⟩⟩
end Go.Proofs.YtcagogkgnnckaaaGreatDoor
