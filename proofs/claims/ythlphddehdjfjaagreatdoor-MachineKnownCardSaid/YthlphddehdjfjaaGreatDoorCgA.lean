/- From a walk that answers true and keeps all that was there to the row's 'post'. -/
import Derived.Test.YthlphddehdjfjaaGreatDoorRows
import Derived.Test.YthlphddehdjfjaaGreatDoorMgA
import Derived.ProofKit
import Derived.Deep.Slices
import Derived.Deep.Fields
import Derived.ChangeSame
namespace Go.Proofs.YthlphddehdjfjaaGreatDoor
open Go.ChangeShapes Go.WideShapes Go.ChangeAt Go.RowKit Go.Deep

theorem Tryz.own : ownKnob Tryz.prog.godebug = none := by kernel_rfl
theorem Tryz.laidOut : laidOutB Tryz.prog = true := by kernel_rfl

section
variable {H : Type} {enc : TypeId × Value → H} {P : Program}

end

end Go.Proofs.YthlphddehdjfjaaGreatDoor

/- Arguments that are read: flat layouts (integers, bools, strings, structs of these), and slices of such elements, as cells. -/
namespace Go.Proofs.YthlphddehdjfjaaGreatDoor
open Go.ChangeShapes Go.WideShapes Go.ChangeAt Go.RowKit Go.Deep

inductive Flat where
  | int (k : IntKind)
  | bool
  | string

def Flat.Ok : Flat → Value → Prop
  | .int k, v => ∃ n, v = .int k n ∧ (Lit.int k n).wf = true
  | .bool, v => ∃ b, v = .bool b
  | .string, v => ∃ s : ByteArray, v = .string s ∧ s.size ≤ maxLen

/-- the cells of a list of fields, one behind the other -/
def flatFields (F : TypeId → Option (List Flat)) (P : Program) : List Field → Nat → Option (List Flat)
  | [], _ => some []
  | f :: fs, off =>
    match F f.type, flatFields F P fs (off + P.cellsOf f.type) with
    | some a, some b => if f.offset = off ∧ a.length = P.cellsOf f.type then some (a ++ b) else none
    | _, _ => none

def flat (P : Program) : Nat → TypeId → Option (List Flat)
  | 0, _ => none
  | n + 1, t =>
    match P.underlying t with
    | some (.int k) => some [.int k]
    | some .bool => some [.bool]
    | some .string => some [.string]
    | some (.struct fs) => flatFields (flat P n) P fs.toList 0
    | _ => none

/-- the values of a flat layout, from place o on -/
def FlatAt (ks : List Flat) (o : Nat) (cs : List Value) : Prop := ∀ i k, ks[i]? = some k → ∃ v, cs[o + i]? = some v ∧ k.Ok v

section
variable {H : Type} {enc : TypeId × Value → H} {P : Program} {w : World} {base : Nat} {spare : Nat → Bool} {held : Bool}

theorem flatFields_at {F : TypeId → Option (List Flat)} {cs : List Value} : ∀ (fs : List Field) (off : Nat) (ks : List Flat), flatFields F P fs off = some ks →
    (∀ f, f ∈ fs → ∀ ks', F f.type = some ks' → FlatAt ks' 0 (List.take (P.cellsOf f.type) (List.drop f.offset cs))) → FlatAt ks off cs
  | [], off, ks, h, _ => by
    simp only [flatFields, Option.some.injEq] at h
    subst h
    intro i k hk
    simp at hk
  | f :: fs, off, ks, h, hf => by
    simp only [flatFields] at h
    split at h
    · rename_i a b ha hb
      split at h
      · rename_i hoff
        simp only [Option.some.injEq] at h
        subst h
        intro i k hk
        by_cases hi : i < a.length
        · rw [List.getElem?_append_left hi] at hk
          obtain ⟨v, hv, hok⟩ := hf f (by simp) a ha i k hk
          refine ⟨v, ?_, hok⟩
          rw [List.getElem?_take] at hv
          split at hv
          · rw [List.getElem?_drop, hoff.1] at hv
            simpa using hv
          · cases hv
        · rw [List.getElem?_append_right (by omega)] at hk
          obtain ⟨v, hv, hok⟩ := flatFields_at fs _ b hb (fun g hg => hf g (by simp [hg])) (i - a.length) k hk
          refine ⟨v, ?_, hok⟩
          rw [← hv]
          congr 1
          omega
      · cases h
    · cases h

theorem flat_at : ∀ (n : Nat) (t : TypeId) (ks : List Flat), flat P n t = some ks → ∀ (fuel : Nat) (cs : List Value) (x : DataW H × List MemPlace),
    DataW.trod enc P w base spare held fuel t cs = some x → FlatAt ks 0 cs
  | 0, _, _, h, _, _, _, _ => by simp [flat] at h
  | n + 1, t, ks, h, fuel, cs, x, ht => by
    simp only [flat] at h
    split at h
    · rename_i k hu
      simp only [Option.some.injEq] at h
      subst h
      obtain ⟨m, rfl, _, hw⟩ := DataW.trod_int hu ht
      intro i k' hk
      match i, hk with
      | 0, hk =>
        simp only [List.getElem?_cons_zero, Option.some.injEq] at hk
        subst hk
        exact ⟨_, rfl, m, rfl, hw⟩
      | i + 1, hk => simp at hk
    · rename_i hu
      simp only [Option.some.injEq] at h
      subst h
      obtain ⟨m, rfl, _⟩ := DataW.trod_bool hu ht
      intro i k' hk
      match i, hk with
      | 0, hk =>
        simp only [List.getElem?_cons_zero, Option.some.injEq] at hk
        subst hk
        exact ⟨_, rfl, m, rfl⟩
      | i + 1, hk => simp at hk
    · rename_i hu
      simp only [Option.some.injEq] at h
      subst h
      obtain ⟨m, rfl, _, hw⟩ := DataW.trod_string hu ht
      intro i k' hk
      match i, hk with
      | 0, hk =>
        simp only [List.getElem?_cons_zero, Option.some.injEq] at hk
        subst hk
        exact ⟨_, rfl, m, rfl, hw⟩
      | i + 1, hk => simp at hk
    · rename_i fs hu
      obtain ⟨xs, m, _, _, hlen, hxs, hf⟩ := DataW.trod_struct hu ht
      refine flatFields_at fs.toList 0 ks h ?_
      intro f hfm ks' hks'
      obtain ⟨i, hi, hfi⟩ := List.getElem_of_mem hfm
      have hi' : fs[i]? = some f := by
        rw [← hfi]; simp at hi; simp [hi]
      have h1 := hf i f hi'
      have h2 : i < xs.length := by rw [hxs]; simpa using hi
      rw [List.getElem?_eq_getElem h2] at h1
      exact flat_at n f.type ks' hks' _ _ _ h1
    · cases h

/-- the cells of element i of a slice, from its first cell on -/
def CellsAt (w : World) (b o : Nat) (ks : List Flat) : Prop := ∀ j k, ks[j]? = some k → ∃ v, w.cell? ⟨b, o + j, none⟩ = some v ∧ k.Ok v

theorem open_flat_slice {t e : TypeId} {ks : List Flat} {r : Reach} {b0 : Nat} {v : Value} {d : DataW H} {p : List MemPlace} (ht : P.underlying t = some (.slice e)) (hfl : flat P 8 e = some ks) (hC : P.cellsOf e = ks.length) (h0 : 0 < ks.length)
    (hv : Value.okWide P w r b0 t v) (h : DataW.Trod enc P w base spare held t v d p) :
    ∃ a len cap, v = .slice a len cap ∧ len ≤ cap ∧ cap ≤ maxLen ∧ (len = 0 ∨ ∃ b off, a = some ⟨b, off, none⟩ ∧ b < w.heap.size ∧ ∀ i, i < len → CellsAt w b (off + i * ks.length) ks) := by
  obtain ⟨a, len, cap, rfl⟩ := okWide_slice ht hv
  obtain ⟨fuel, hf⟩ := h
  rcases open_slice ht hf with ⟨h1, _⟩ | ⟨a', len', cap', m, n, D, Pl, hcs, hb, hl, hm, hmm, hx, hi⟩
  · simp [Value.cells] at h1
    obtain ⟨rfl, rfl, rfl⟩ := h1
    exact ⟨none, 0, 0, rfl, Nat.le_refl _, Nat.zero_le _, .inl rfl⟩
  · simp [Value.cells] at hcs
    obtain ⟨rfl, rfl, rfl⟩ := hcs
    refine ⟨_, _, _, rfl, hl, hm, ?_⟩
    by_cases hz : len = 0
    · exact .inl hz
    refine .inr ?_
    have hlm : len ≤ m := by rw [hmm]; split <;> omega
    obtain ⟨cs0, hc0, ht0⟩ := hi 0 (by omega)
    obtain ⟨_, hl0, hat0⟩ := World.cells?_some hc0
    have hsp : ∃ u, w.cell? a' = some u := by
      have h2 := hat0 0 (by omega)
      have h3 : cs0[0]? = some (cs0[0]'(by omega)) := List.getElem?_eq_getElem (by omega)
      rw [h3] at h2
      exact ⟨cs0[0]'(by omega), by simpa [Addr.add] using h2⟩
    obtain ⟨u, hu⟩ := hsp
    obtain ⟨ab, ao, asp⟩ := a'
    have hspn : asp = none := by
      cases asp with
      | none => rfl
      | some s =>
        exfalso
        simp only [World.cell?] at hu
        split at hu
        · simp at hu
        · cases hu
    subst hspn
    refine ⟨ab, ao, rfl, World.block_lt_of_cell? _ _ hu, fun i hil => ?_⟩
    obtain ⟨cs', hc, ht'⟩ := hi i (by omega)
    obtain ⟨_, hcl, hat⟩ := World.cells?_some hc
    have hfa := flat_at (P := P) (w := w) 8 e ks hfl _ _ _ ht'
    intro j k hk
    obtain ⟨v, hv1, hok⟩ := hfa j k hk
    have hj : j < P.cellsOf e := by
      rw [hC]
      exact (List.getElem?_eq_some_iff.1 hk).1
    refine ⟨v, ?_, hok⟩
    have := hat j hj
    rw [Nat.zero_add] at hv1
    rw [hv1] at this
    rw [← this, add_add, hC]
    unfold Addr.add
    split
    · rename_i hz0
      rw [show ao + i * ks.length + j = ao from by omega]
    · rw [Nat.add_assoc]

end

end Go.Proofs.YthlphddehdjfjaaGreatDoor

/- An argument that is a struct of flat fields, as its cells. -/
namespace Go.Proofs.YthlphddehdjfjaaGreatDoor
open Go.ChangeShapes Go.WideShapes Go.ChangeAt Go.RowKit Go.Deep

section
variable {H : Type} {enc : TypeId × Value → H} {P : Program} {w : World} {base : Nat} {spare : Nat → Bool} {held : Bool}

theorem open_flat_struct {t : TypeId} {fs : Array Field} {ks : List Flat} {r : Reach} {b0 : Nat} {v : Value} {d : DataW H} {p : List MemPlace} (ht : P.underlying t = some (.struct fs)) (hfl : flat P 8 t = some ks) (hC : P.cellsOf t = ks.length)
    (hv : Value.okWide P w r b0 t v) (h : DataW.Trod enc P w base spare held t v d p) : ∃ cs, v = .agg cs ∧ cs.size = ks.length ∧ ∀ (i : Nat) (k : Flat), ks[i]? = some k → ∃ u, cs[i]? = some u ∧ k.Ok u := by
  obtain ⟨cs, rfl, hs⟩ := okWide_struct ht hv
  obtain ⟨fuel, hf⟩ := h
  refine ⟨cs, rfl, hs.trans hC, fun i k hk => ?_⟩
  obtain ⟨u, hu, hok⟩ := flat_at 8 t ks hfl _ _ _ hf i k hk
  refine ⟨u, ?_, hok⟩
  simpa [Value.cells] using hu
end

theorem arr_eq {cs : Array Value} {l : List Value} (hs : cs.size = l.length) (h : ∀ (i : Nat) (u : Value), l[i]? = some u → cs[i]? = some u) : cs = l.toArray := by
  apply Array.ext_getElem?
  intro i
  by_cases hi : i < l.length
  · have := h i _ (List.getElem?_eq_getElem hi)
    rw [this]; simp [hi]
  · rw [Array.getElem?_eq_none (by omega)]; simp; omega

end Go.Proofs.YthlphddehdjfjaaGreatDoor

/- The fields of a struct argument; a slice of flat structs among its cells. -/
namespace Go.Proofs.YthlphddehdjfjaaGreatDoor
open Go.ChangeShapes Go.WideShapes Go.ChangeAt Go.RowKit Go.Deep

section
variable {H : Type} {enc : TypeId × Value → H} {P : Program} {w : World} {base : Nat} {spare : Nat → Bool} {held : Bool}

theorem open_flat_slice_at {t e : TypeId} {ks : List Flat} {fuel : Nat} {cs : List Value} {x : DataW H × List MemPlace} (ht : P.underlying t = some (.slice e)) (hfl : flat P 8 e = some ks) (hC : P.cellsOf e = ks.length) (h0 : 0 < ks.length)
    (hf : DataW.trod enc P w base spare held fuel t cs = some x) :
    ∃ a len cap, cs = [.slice a len cap] ∧ len ≤ cap ∧ cap ≤ maxLen ∧ (len = 0 ∨ ∃ b off, a = some ⟨b, off, none⟩ ∧ b < w.heap.size ∧ ∀ i, i < len → CellsAt w b (off + i * ks.length) ks) := by
  rcases open_slice ht hf with ⟨h1, _⟩ | ⟨a', len', cap', m, n, D, Pl, hcs, hb, hl, hm, hmm, hx, hi⟩
  · exact ⟨none, 0, 0, h1, Nat.le_refl _, Nat.zero_le _, .inl rfl⟩
  · refine ⟨_, _, _, hcs, hl, hm, ?_⟩
    by_cases hz : len' = 0
    · exact .inl hz
    refine .inr ?_
    have hlm : len' ≤ m := by rw [hmm]; split <;> omega
    obtain ⟨cs0, hc0, ht0⟩ := hi 0 (by omega)
    obtain ⟨_, hl0, hat0⟩ := World.cells?_some hc0
    have hsp : ∃ u, w.cell? a' = some u := by
      have h2 := hat0 0 (by omega)
      have h3 : cs0[0]? = some (cs0[0]'(by omega)) := List.getElem?_eq_getElem (by omega)
      rw [h3] at h2
      exact ⟨cs0[0]'(by omega), by simpa [Addr.add] using h2⟩
    obtain ⟨u, hu⟩ := hsp
    obtain ⟨ab, ao, asp⟩ := a'
    have hspn : asp = none := by
      cases asp with
      | none => rfl
      | some s =>
        exfalso
        simp only [World.cell?] at hu
        split at hu
        · simp at hu
        · cases hu
    subst hspn
    refine ⟨ab, ao, rfl, World.block_lt_of_cell? _ _ hu, fun i hil => ?_⟩
    obtain ⟨cs', hc, ht'⟩ := hi i (by omega)
    obtain ⟨_, hcl, hat⟩ := World.cells?_some hc
    have hfa := flat_at (P := P) (w := w) 8 e ks hfl _ _ _ ht'
    intro j k hk
    obtain ⟨v, hv1, hok⟩ := hfa j k hk
    have hj : j < P.cellsOf e := by
      rw [hC]
      exact (List.getElem?_eq_some_iff.1 hk).1
    refine ⟨v, ?_, hok⟩
    have := hat j hj
    rw [Nat.zero_add] at hv1
    rw [hv1] at this
    rw [← this, add_add, hC]
    unfold Addr.add
    split
    · rename_i hz0
      rw [show ao + i * ks.length + j = ao from by omega]
    · rw [Nat.add_assoc]


/-- each field of a struct, read by itself -/
theorem open_fields {t : TypeId} {fs : Array Field} {r : Reach} {b0 : Nat} {v : Value} {d : DataW H} {p : List MemPlace} (ht : P.underlying t = some (.struct fs))
    (hv : Value.okWide P w r b0 t v) (h : DataW.Trod enc P w base spare held t v d p) : ∃ cs, v = .agg cs ∧ cs.size = P.cellsOf t ∧ ∀ (i : Nat) (f : Field), fs[i]? = some f → ∃ n x, DataW.trod enc P w base spare held n f.type ((cs.toList.drop f.offset).take (P.cellsOf f.type)) = some x := by
  obtain ⟨cs, rfl, hs⟩ := okWide_struct ht hv
  obtain ⟨fuel, hf⟩ := h
  obtain ⟨xs, m, _, _, hlen, hxs, hfi⟩ := DataW.trod_struct ht hf
  refine ⟨cs, rfl, hs, fun i f hi => ?_⟩
  have h2 : i < xs.length := by
    rw [hxs]
    exact (Array.getElem?_eq_some_iff.1 hi).1
  have h1 := hfi i f hi
  rw [List.getElem?_eq_getElem h2] at h1
  exact ⟨m, _, h1⟩
end

end Go.Proofs.YthlphddehdjfjaaGreatDoor

namespace Go.Proofs.YthlphddehdjfjaaGreatDoor
open Go.ChangeShapes Go.WideShapes Go.ChangeAt Go.RowKit Go.Deep

abbrev cX : OpenClaim := { program := "", sum := "", func := "", spec := "", unfollowed := true, recurses := true, plainKeys := false, apart := false }
theorem and2 {a b : Bool} (h : a = true) (k : b = true) : (a && b) = true := by rw [h, k]; rfl
theorem pf_mapsRowed : mapsRowed Tryz.prog = true := by kernel_rfl
theorem pf_stops : (Tryz.prog.stops == []) = true := by kernel_rfl
theorem pf_stopKnobs : (Tryz.prog.stopKnobs == []) = true := by kernel_rfl
theorem pf_plainKeys : (cX.plainKeys == Tryz.prog.plainKeys) = true := by kernel_rfl
theorem pf_stopsHeard : Tryz.prog.stopsHeard = true := by kernel_rfl
/-- the program's head, sign by sign: to have the kernel read it out of the string's bytes takes too much memory -/
def headChars : List Char := ([104,97,114,110,101,115,115,32,97,56,56,48,48,53,51,98,97,100,97,49,98,99,49,49,97,49,101,54,54,97,97,57,48,51,98,53,99,98,53,98,101,49,53,57,53,55,99,49,49,98,54,51,102,49,48,100,102,55,54,48,57,101,51,99,98,97,57,97,48,51,55,56,32,99,117,116,32,97,116,32,101,115,116,114,97,121,47,101,115,116,114,97,121,108,97,119,51,56,46,82,101,103,105,115,116,114,121,78,105,108,32,101,115,116,114,97,121,47,101,115,116,114,97,121,108,97,119,52,48,46,77,97,99,104,105,110,101,75,110,111,119,110].map Char.ofNat)
def headWords : List (List Char) := [([99,117,116].map Char.ofNat), ([97,116].map Char.ofNat), ([101,115,116,114,97,121,47,101,115,116,114,97,121,108,97,119,51,56,46,82,101,103,105,115,116,114,121,78,105,108].map Char.ofNat), ([101,115,116,114,97,121,47,101,115,116,114,97,121,108,97,119,52,48,46,77,97,99,104,105,110,101,75,110,111,119,110].map Char.ofNat)]
theorem head_is : Tryz.prog.initOrder = String.ofList headChars := by kernel_rfl
theorem head_chars : Tryz.prog.initOrder.toList = headChars := by rw [head_is, String.toList_ofList]
theorem head_words0 : behindMainWord (wordsSigns headChars) = headWords := by kernel_rfl
theorem head_words : behindMainWord (wordsSigns Tryz.prog.initOrder.toList) = headWords := by rw [head_chars]; exact head_words0
theorem make_of {P : Program} (h : behindMainWord (wordsSigns P.initOrder.toList) = headWords) : (P.make == some cX.make) = true := by
  unfold Program.make; rw [h]; simp [headWords]; done
theorem mayEnter_of {P : Program} (h : behindMainWord (wordsSigns P.initOrder.toList) = headWords) (h1 : P.laysLater = false) (h2 : P.bearsReflect = false) (h3 : P.doorRows.isEmpty = true) : P.mayEnter = true := by
  have h4 : P.doorRows = [] := List.isEmpty_iff.1 h3
  unfold Program.mayEnter Program.doorFits; rw [h, h1, h2, h4]; simp [headWords, stripLifts, liftWords]; done
theorem lifts_of {P : Program} (h : behindMainWord (wordsSigns P.initOrder.toList) = headWords) : (cX.lifted == P.liftsFinal) = true := by
  unfold Program.liftsFinal Program.headLifts; rw [h]; simp [headWords, stripLifts, liftWords]; done

end Go.Proofs.YthlphddehdjfjaaGreatDoor

namespace Go.Proofs.YthlphddehdjfjaaGreatDoor
open Go.ChangeShapes Go.WideShapes Go.ChangeAt Go.RowKit Go.Deep
theorem Keeps.below {B : Nat} {w w' : World} {S : Nat → Prop} (h : Keeps S w w') (hB : ∀ x, x < w.heap.size → S x → B ≤ x) (hb : B ≤ w.heap.size) : Below B w w' :=
  ⟨h.os, h.tape, h.output, h.size, fun k hk => h.block k (by omega) (fun s => by have := hB k (by omega) s; omega)⟩

section
variable {H : Type} {enc : TypeId × Value → H} {P : Program}
theorem trodAll_stays (hl : laidOutB P = true) {W W' : World} (hb : Below W.heap.size W W') : ∀ (ts : List TypeId) (vs : List Value) (ds : List (DataW H)) (ps : List MemPlace),
    (∀ t ∈ ts, P.readableRec t = true ∧ t < P.types.size) → DataW.TrodAll enc P W 0 (fun _ => true) true ts vs ds ps → (∀ x ∈ ps, x.block < W.heap.size) →
    DataW.TrodAll enc P W' 0 (fun b => decide (b < W.heap.size)) true ts vs ds ps
  | [], [], [], _, _, h, _ => h
  | t :: ts, v :: vs, d :: ds, ps, hr, h, hlt => by
    obtain ⟨p, q, h1, h2, rfl⟩ := h
    have ht := hr t (by simp)
    exact ⟨p, q, Below.trod hl ht.1 ht.2 h1 hb (fun x hx => hlt x (by simp [hx])), trodAll_stays hl hb ts vs ds q (fun t h => hr t (by simp [h])) h2 (fun x hx => hlt x (by simp [hx])), rfl⟩
  | [], [], _ :: _, _, _, h, _ => h.elim
  | [], _ :: _, _, _, _, h, _ => h.elim
  | _ :: _, [], _, _, _, h, _ => h.elim
  | _ :: _, _ :: _, [], _, _, h, _ => h.elim

theorem law_post {f : Func} {s : ChangeSpec} {apart fresh handsOn : Bool} {W W' : World} {args : Array Value} {ds : List (DataW H)} {before : List MemPlace} {tb : TypeId}
    (hl : laidOutB P = true) (hp : ∀ t ∈ f.params.toList, P.readableRec t = true ∧ t < P.types.size) (hv : s.vars = []) (hrt : f.resultTypes = #[tb]) (hu : P.underlying tb = some .bool)
    (hs : (s.fn H (ds ++ [])).results = [.lit (.bool true)] ∧ (s.fn H (ds ++ [])).args = ds ∧ (s.fn H (ds ++ [])).vars = [])
    (hW : DataW.Whole enc P f.params.toList s.vars apart W args.toList ds [] before) (hk : Keeps (fun _ => False) W W') :
    s.post enc P f apart fresh handsOn false W args (.bool true) W' := by
  have hb : Below W.heap.size W W' := hk.below (fun _ _ h => h.elim) (Nat.le_refl _)
  have hlt : ∀ x ∈ before, x.block < W.heap.size := fun x hx => hW.lt x hx
  have hW' := hW
  obtain ⟨p, q, hA, hV, rfl, hfz, hnd⟩ := hW'
  rw [hv] at hV
  obtain ⟨_, rfl⟩ := trodVars_none hV
  refine ⟨ds, [], p ++ [], [], p, [], hW, ?_, ?_, ?_, hb.frame _, fun h => by cases h⟩
  · rw [hs.1, hrt]
    exact trodAll_mk1 (shut_bool hu _)
  · rw [hs.2.1]
    exact trodAll_stays hl hb _ _ _ _ hp hA (fun x hx => hlt x (by simp [hx]))
  · rw [hs.2.2, hv]
    rfl
theorem CellsAt.below {w w' : World} {b o : Nat} {ks : List Flat} (h : CellsAt w b o ks) (hk : w'.heap[b]? = w.heap[b]?) : CellsAt w' b o ks := by
  intro j k hj
  obtain ⟨v, hv, hok⟩ := h j k hj
  exact ⟨v, by rw [World.cell?_of_block (w := w) hk]; exact hv, hok⟩
end
end Go.Proofs.YthlphddehdjfjaaGreatDoor
