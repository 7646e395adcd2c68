/- Plain laws of collectors: an object that is made in Roots, or later, and dropped at once, is kept by its cycle, and found by the next. -/
import Derived.Test.YtehmoikbeflkaaaGreatCyM
import Derived.Test.YtehmoikbeflkaaaGreatCyE
namespace Go.Proofs.YtehmoikbeflkaaaGreat
open Go.RowKit
set_option linter.unusedVariables false
set_option linter.unusedSimpArgs false
set_option linter.unusedSectionVars false

/-! what is marked stays marked -/
theorem nw_shade {M : Mk} (l : List Int) {j : Nat} (h : M.P.c j ≠ 0) : (M.shade l).P.c j ≠ 0 := by
  have := shds_keep l (M.P, M.S) j h
  show (shds (M.P, M.S) l).1.c j ≠ 0
  rw [this]; exact h
theorem nw_put {P : Pt} {i j : Nat} (h : P.c j ≠ 0) : (P.put i 2).c j ≠ 0 := by
  by_cases e : j = i
  · subst e; rw [show (P.put j 2).c j = 2 from updf_same _ _ _]; decide
  · rw [show (P.put i 2).c j = P.c j from updf_ne _ _ e]; exact h
theorem nw_drains {M : Mk} {j : Nat} (h : M.P.c j ≠ 0) : ∀ k, (M.drains k).P.c j ≠ 0
  | 0 => h
  | k + 1 => nw_shade (M := M.drains k) _ (nw_drains h k)
theorem nw_scanAt {M : Mk} {H : Hp} {i j : Nat} (h : M.P.c j ≠ 0) : (M.scanAt H i).P.c j ≠ 0 := by
  unfold Mk.scanAt
  split
  · exact nw_put (nw_shade (M := M) _ h)
  · exact nw_put h
theorem nw_step {M : Mk} {A : Ar} {j : Nat} (h : M.P.c j ≠ 0) : (M.stepR A).P.c j ≠ 0 := by
  unfold Mk.stepR
  split
  · split
    · exact nw_shade (M := { M with K := M.K.go }) _ h
    · exact h
  split
  · split
    · exact h
    · exact h
  split
  · have h2 := nw_drains h M.K.many
    unfold Mk.traceR Mk.trace1
    split
    · split
      · exact h2
      · exact nw_scanAt h2
    · split
      · exact nw_scanAt (M := { M.drains M.K.many with S := (M.drains M.K.many).S.pop }) h2
      · exact h2
  · exact h
theorem nw_ack {M : Mk} {A : Ar} {i : Int} {j : Nat} (h : M.P.c j ≠ 0) : (M.ackR A i).M.P.c j ≠ 0 := by
  unfold Mk.ackR
  split
  · exact h
  split
  · exact h
  split
  · exact nw_shade (M := { M with K := M.K.ack i.toNat }) _ h
  · exact h
/-! names in fields -/
theorem pushR_H (A : Ar) (m : Nat) (v : Rf) : (A.pushR m v).A.H = A.H := by unfold Ar.pushR; split <;> rfl
theorem loadR_H (A : Ar) (m i f : Int) : (A.loadR m i f).A.H = A.H := by
  unfold Ar.loadR
  split; · rfl
  split; · rfl
  split; · rfl
  split; · rfl
  exact pushR_H _ _ _
theorem getR_H (A : Ar) (m f : Int) : (A.getR m f).A.H = A.H := by
  unfold Ar.getR
  split; · rfl
  split; · rfl
  split; · rfl
  exact pushR_H _ _ _
theorem dropR_H (A : Ar) (m i : Int) : (A.dropR m i).A.H = A.H := by
  unfold Ar.dropR
  split; · rfl
  split <;> rfl
theorem putR_H (A : Ar) (m i f : Int) : (A.putR m i f).A.H = A.H := by
  unfold Ar.putR
  split; · rfl
  split <;> rfl
theorem Mo.edges (x : Mo) {s : Sys} (hok : s.Ok) (hs : Safe s) {i : Nat} {r : Rf} (he : Edge (x.doR s).A.H i r) : Edge s.A.H i r ∨ Rch s.A r := by
  cases x with
  | make k n hd =>
    have he' : Edge (s.A.makeR k n hd).A.H i r := he
    unfold Ar.makeR at he'
    split at he'
    · exact .inl he'
    split at he'
    · exact .inl he'
    split at he'
    · exact .inl he'
    split at he'
    · exact .inl he'
    · rename_i j g l hx
      obtain ⟨e1, e2, e3, q, e4, e5⟩ := he'
      have e5' : (updf s.A.H.ob j (Ob.new n hd) i).fs q = r := e5
      by_cases e : i = j
      · rw [e, updf_same] at e5'
        have hz : ((Ob.new n hd).fs q).nz = false := by unfold Ob.fs; split <;> rfl
        rw [e5', e3] at hz; cases hz
      · rw [updf_ne _ _ e] at e5'
        have e2' : upd s.A.H.T.st j 1 i = 1 := e2
        unfold upd at e2'; rw [if_neg e] at e2'
        exact .inl ⟨e1, e2', e3, q, e4, e5'⟩
  | load k m f => have he' : Edge (s.A.loadR k m f).A.H i r := he; rw [loadR_H] at he'; exact .inl he'
  | store k m f j =>
    have he' : Edge (s.A.storeR k m f j).A.H i r := he
    unfold Ar.storeR at he'
    split at he'
    · exact .inl he'
    split at he'
    · exact .inl he'
    split at he'
    · exact .inl he'
    rename_i h1 h2 h3
    have ho := (rch_root (Decidable.not_not.1 h1)).1
    have hv := rch_value (A := s.A) (m := k) (i := j)
    have he2 : Edge (s.A.H.storeR (s.A.rootR k m).1 f (s.A.valueR k j).1).1 i r := he'
    clear he he'
    generalize (s.A.rootR k m).1 = o at *
    generalize (s.A.valueR k j).1 = v at *
    have h3' : (s.A.H.storeR o f v).2.2 = 0 := Decidable.not_not.1 h3
    unfold Hp.storeR at h3' he2
    split at h3'
    · rename_i h4; exact absurd h3' h4
    rename_i h4
    split at h3'
    · cases h3'
    rename_i h5
    split at h3'
    · rename_i h6; exact absurd h3' h6.2
    rename_i h6
    rw [if_neg h4, if_neg h5, if_neg h6] at he2
    have hn4 := (hok.a.ob o.s.toNat).n4
    obtain ⟨e1, e2, e3, q, e4, e5⟩ := he2
    have e5' : (updf s.A.H.ob o.s.toNat ((s.A.H.ob o.s.toNat).set f.toNat v) i).fs q = r := e5
    by_cases e : i = o.s.toNat
    · rw [e, updf_same, Ob.set_fs (by omega) e4] at e5'
      by_cases ej : q = f.toNat
      · rw [if_pos ej] at e5'; subst e5'; exact .inr (hv e3)
      · rw [if_neg ej, ← e] at e5'; exact .inl ⟨e1, e2, e3, q, e4, e5'⟩
    · rw [updf_ne _ _ e] at e5'
      exact .inl ⟨e1, e2, e3, q, e4, e5'⟩
  | drop k m => have he' : Edge (s.A.dropR k m).A.H i r := he; rw [dropR_H] at he'; exact .inl he'
  | put k m f => have he' : Edge (s.A.putR k m f).A.H i r := he; rw [putR_H] at he'; exact .inl he'
  | get k f => have he' : Edge (s.A.getR k f).A.H i r := he; rw [getR_H] at he'; exact .inl he'
theorem free_edgeC {s : Sys} {i j : Nat} {r : Rf} (hin : i < s.A.H.T.n) (w1 : s.A.H.T.st i = 1) (he : Edge (s.free i).A.H j r) : Edge s.A.H j r := by
  have hck : ckV s.A.H.T (i : Int) (s.A.H.T.gn i) = 0 := ckV_tk hin w1
  have hfr : (s.free i).A.H = s.A.H.free i := by
    show (s.A.H.freeR ⟨i, s.A.H.T.gn i⟩).1 = _
    unfold Hp.freeR
    rw [if_neg (by show ¬ ckV s.A.H.T (i : Int) (s.A.H.T.gn i) ≠ 0; rw [hck]; exact fun h => h rfl)]
    show s.A.H.free (i : Int).toNat = _
    rw [Int.toNat_natCast]
  have hsi : (s.free i).A.H.T.st i ≠ 1 := by
    rw [hfr]; show (s.A.H.T.give i).st i ≠ 1
    unfold Tb.give
    split
    · show upd _ _ _ i ≠ 1; unfold upd; rw [if_pos rfl]; decide
    · show upd _ _ _ i ≠ 1; unfold upd; rw [if_pos rfl]; decide
  obtain ⟨e1, e2, e3, q, e4, e5⟩ := he
  have hji : j ≠ i := fun e => hsi (e ▸ e2)
  obtain ⟨t1, t2, t3⟩ := (free_tb hin w1).1 j hji
  have hn : (s.free i).A.H.T.n = s.A.H.T.n := (Ar.freeR_n _ _).1
  rw [hn] at e1; rw [t1] at e2; rw [t3] at e5
  exact ⟨e1, e2, e3, q, e4, e5⟩
theorem Col.step_edge {k : Col} (hok : k.Ok) (room : Bool) {j : Nat} {r : Rf} (he : Edge (k.stepR room).c.s.A.H j r) : Edge k.s.A.H j r := by
  unfold Col.stepR at he
  split at he
  · dsimp only at he
    split at he
    · exact he
    · exact he
  split at he
  · rename_i h4
    obtain ⟨d1, d2, d3, d4, d5, d6⟩ := Col.discover_ok hok h4
    split at he
    · split at he
      · rw [d5] at he; exact he
      · exact he
    · rw [d5] at he; exact he
  split at he
  · rename_i h5
    obtain ⟨d1, d2, d3, d4, d5, d6⟩ := Col.sweep_ok hok h5
    have ha := hok.a5 h5
    rw [d5] at he
    unfold Sw.stepR at he
    split at he
    · exact he
    · rename_i hx
      exact free_edgeC (by rw [hok.s.n]; exact ha) (Decidable.not_not.1 (fun hy => hx (.inr hy))) he
  · exact he
/-! nothing is marked at rest; all that was found was given once; so was what is in fields -/
structure Sane (k : Col) (f : List Rf) : Prop where
  cl : k.Clean
  fo : ∀ y ∈ f, Used k.s.A.H y
  ed : ∀ i r, Edge k.s.A.H i r → Used k.s.A.H r
theorem Sane.step {k : Col} {f : List Rf} (h : Sane k f) (hok : k.Ok) (room : Bool) : Sane (k.stepR room).c ((k.stepR room).more f) := by
  refine ⟨Col.step_clean hok h.1 room, fun y hy => ?_, fun i r he => Col.step_used hok room (h.3 i r (Col.step_edge hok room he))⟩
  have old : ∀ y ∈ f, Used (k.stepR room).c.s.A.H y := fun y hy => Col.step_used hok room (h.2 y hy)
  unfold CyRes.more at hy
  split at hy
  · rename_i his
    rcases List.mem_append.1 hy with hy | hy
    · exact old y hy
    · rw [List.mem_singleton] at hy
      subst hy
      refine Col.step_used hok room ?_
      unfold Col.stepR at his ⊢
      split at his
      · cases his
      rename_i h0
      rw [if_neg h0]
      split at his
      · rename_i h4
        rw [if_pos h4]
        split at his
        · rename_i hl
          rw [if_pos hl]
          split at his
          · rename_i hr
            rw [if_pos hr]
            dsimp only
            unfold Sys.lostAt at hl ⊢
            split
            · rename_i hx; rw [if_pos hx] at hl; cases hl
            · rename_i hx
              exact ⟨k.C.at', rfl, .inr ⟨rfl, fun e => hx (.inr (by rw [e]; decide))⟩⟩
          · cases his
        · cases his
      · rename_i h4
        rw [if_neg h4]
        split at his
        · cases his
        · cases his
  · exact old y hy
theorem Sane.ack {k : Col} {f : List Rf} (h : Sane k f) (hok : k.Ok) (i : Int) : Sane ⟨⟨k.s.A, (k.s.M.ackR k.s.A i).M⟩, k.C⟩ f := by
  refine ⟨fun h0 => ?_, h.2, h.3⟩
  obtain ⟨_, a2, _⟩ := Sys.ack_next hok.s i
  have h0' : k.s.M.K.ph = 0 := a2.symm.trans h0
  have e : (k.s.M.ackR k.s.A i).M = k.s.M := by
    unfold Mk.ackR
    split
    · rfl
    split
    · rfl
    · rename_i hp; exact absurd hp (by omega)
  intro j
  dsimp only
  rw [e]
  exact h.1 h0' j
theorem Sane.ask {k : Col} {f : List Rf} (h : Sane k f) (hok : k.Ok) : Sane k.askR.1 f := by
  refine ⟨Col.ask_clean hok h.1, ?_, ?_⟩
  · unfold Col.askR
    split
    · exact h.2
    · exact h.2
  · unfold Col.askR
    split
    · exact h.3
    · exact h.3
theorem Sane.steps {k : Col} {f : List Rf} (h : Sane k f) (hok : k.Ok) (room : Bool) : ∀ i, Sane (Col.steps room k f i).1 (Col.steps room k f i).2
  | 0 => h
  | i + 1 => (h.steps hok room i).step (Col.steps_ok hok room f i).1 room
theorem Sane.mo {k : Col} {f : List Rf} (h : Sane k f) (hok : k.Ok) (x : Mo) : Sane ⟨x.doR k.s, k.C⟩ f :=
  ⟨Col.mo_clean h.1 x hok, fun y hy => x.used (h.2 y hy), fun i r he => x.used ((x.edges hok.s hok.safe he).elim (h.3 i r) (fun hr => (hok.safe.nd r hr).used))⟩
theorem Sane.turn {k : Col} {f : List Rf} (h : Sane k f) (hok : k.Ok) (x : Mv) : Sane (x.turn26 k f).1 (x.turn26 k f).2 := by
  unfold Mv.turn26
  split
  · exact h.mo hok _
  split
  · exact h.ack hok _
  split
  · exact h.ask hok
  · exact h.steps hok _ _
theorem Sane.tn {k : Col} (h : Sane k []) (hok : k.Ok) (l : List Mv) : ∀ i, i ≤ l.length → Sane (k.tn l i).1 (k.tn l i).2 := by
  intro i
  induction i with
  | zero => intro _; exact h
  | succ i ih =>
    intro hi
    obtain ⟨x, hx⟩ : ∃ x, l[i]? = some x := ⟨_, List.getElem?_eq_getElem (by omega)⟩
    rw [Col.tn_succ k l hx]
    exact (ih (by omega)).turn (Col.tn_ok hok l i (by omega)).1 x
theorem Sane.new (n k s p : Nat) : Sane (Col.new n k s p) [] := by
  refine ⟨fun _ j h => ?_, (fun y hy => by cases hy), fun i r he => by have := he.2.1; cases this⟩
  rcases h with h | ⟨i, hi, h⟩
  · exact h rfl
  · have h' : (j : Int) ∈ (Bf.list ((Mk.new n k s p).B i)) := h
    cases h'
/-! an object that was made late -/
structure Kept (i : Nat) (g : Int) (k : Col) (f : List Rf) : Prop where
  nx : Nx (fun j => j = i) (fun _ => g) (fun _ => true) k.s.A
  bl : k.s.M.K.ph ≠ 0 → k.s.M.P.c i ≠ 0
  no : (⟨i, g⟩ : Rf) ∉ f
theorem Kept.ack {i : Nat} {g : Int} {k : Col} {f : List Rf} (h : Kept i g k f) (hok : k.Ok) (j : Int) : Kept i g ⟨⟨k.s.A, (k.s.M.ackR k.s.A j).M⟩, k.C⟩ f := by
  obtain ⟨_, a2, _⟩ := Sys.ack_next hok.s j
  exact ⟨h.nx, fun hp => nw_ack (h.bl (fun e => hp (a2.trans e))), h.no⟩
theorem Kept.acks {i : Nat} {g : Int} {k : Col} {f : List Rf} (h : Kept i g k f) (hok : k.Ok) : ∀ n, Kept i g (k.acks n) f
  | 0 => h
  | n + 1 => (h.acks hok n).ack (Col.acks_ok hok n).1 n
theorem Kept.step {i : Nat} {g : Int} {k : Col} {f : List Rf} (h : Kept i g k f) (hok : k.Ok) (hp : k.s.M.K.ph ≠ 0) (room : Bool) : Kept i g (k.stepR room).c ((k.stepR room).more f) := by
  have hm := h.bl hp
  unfold Col.stepR CyRes.more
  rw [if_neg hp]
  by_cases h4 : k.s.M.K.ph = 4
  · rw [if_pos h4]
    obtain ⟨d1, d2, d3, d4, d5, d6, d7, d8⟩ := Col.discover_ok hok h4
    have hd : Kept i g k.discover f := ⟨by rw [d5]; exact h.nx, fun _ => by rw [d6]; exact hm, h.no⟩
    split
    · rename_i hl
      split
      · rw [if_pos rfl]
        refine ⟨hd.nx, hd.bl, fun hy => ?_⟩
        rcases List.mem_append.1 hy with hy | hy
        · exact h.no hy
        · rw [List.mem_singleton] at hy
          unfold Sys.lostAt at hl hy
          split at hl
          · cases hl
          · rename_i hx
            rw [if_neg hx] at hy
            have e : (i : Int) = (k.C.at' : Int) := congrArg Rf.s hy
            have e' : i = k.C.at' := by omega
            exact hx (.inl (e' ▸ hm))
      · exact h
    · exact hd
  rw [if_neg h4]
  by_cases h5 : k.s.M.K.ph = 5
  · rw [if_pos h5, if_neg (show ¬ (false = true) by decide)]
    obtain ⟨d1, d2, d3, d4, d5, d6⟩ := Col.sweep_ok hok h5
    have ha := hok.a5 h5
    have hnx : Nx (fun j => j = i) (fun _ => g) (fun _ => true) (k.C.S.stepR k.s).s.A := by
      unfold Sw.stepR
      split
      · exact h.nx
      · rename_i hx
        have w0 : k.s.M.P.c k.C.S.next = 0 := Decidable.not_not.1 (fun hy => hx (.inl hy))
        have w1 : k.s.A.H.T.st k.C.S.next = 1 := Decidable.not_not.1 (fun hy => hx (.inr hy))
        have hne : i ≠ k.C.S.next := fun e => hm (e ▸ w0)
        have hf := h.nx.free (s := k.s) (i := k.C.S.next) (by rw [hok.s.n]; exact ha) w1
        have e : (fun j => j = i ∧ j ≠ k.C.S.next) = (fun j => j = i) := funext fun j => propext ⟨fun h => h.1, fun h => ⟨h, fun e => hne (h ▸ e)⟩⟩
        rw [e] at hf
        exact hf
    refine ⟨by rw [d5]; exact hnx, fun hp' => ?_, h.no⟩
    rcases d6 with ⟨_, x2, _⟩ | ⟨_, _, _, _, x5⟩
    · exact absurd x2 hp'
    · rw [x5]; exact hm
  · rw [if_neg h5, if_neg (show ¬ (false = true) by decide)]
    exact ⟨h.nx, fun _ => nw_step hm, h.no⟩
theorem Kept.there {i : Nat} {g : Int} {k : Col} {f : List Rf} (h : Kept i g k f) : ckV k.s.A.H.T i g = 0 := by
  obtain ⟨h1, h2, h3, h4⟩ := h.nx.here i rfl
  have e := ckV_tk h1 h2
  rw [h3] at e
  exact e
theorem Kept.lost {i : Nat} {g : Int} {k : Col} {f : List Rf} (h : Kept i g k f) (hok : k.Ok) : k.s.lostS i ∧ k.s.A.H.T.gn i = g ∧ (k.s.A.H.ob i).h = true := by
  obtain ⟨h1, h2, h3, h4⟩ := h.nx.here i rfl
  refine ⟨⟨h1, h2, fun hr => ?_⟩, h3, h4⟩
  exact h.nx.rch hok.safe.nd _ hr (Int.toNat_natCast i)
/-! making and dropping -/
theorem Kept.made {k : Col} {f : List Rf} (hok : k.Ok) (hs : Sane k f) (hp : 2 ≤ k.s.M.K.ph) {i : Nat} {g : Int} (hst : k.s.A.H.T.st i = 0) (hgn : k.s.A.H.T.gn i = g) (hi : i < k.s.A.H.T.n) (h1 : 1 ≤ g) :
    Kept i g ⟨⟨((k.s.A.made 0 i g (Ob.new 0 true)).dropR 0 ((((k.s.A.made 0 i g (Ob.new 0 true)).rt 0).n : Nat) - 1 : Int)).A, (k.s.M.madeR ⟨i, g⟩).1⟩, k.C⟩ f := by
  have hmk : k.s.A.many ≠ 0 := by have := hok.s.k; have := hok.s.m.k1; omega
  have hrn : ((k.s.A.made 0 i g (Ob.new 0 true)).rt 0).n = (k.s.A.rt 0).n + 1 := by
    show (updf k.s.A.rt 0 _ 0).n = _; rw [updf_same]; rfl
  have hdrop : ((k.s.A.made 0 i g (Ob.new 0 true)).dropR 0 ((((k.s.A.made 0 i g (Ob.new 0 true)).rt 0).n : Nat) - 1 : Int)).A = (k.s.A.made 0 i g (Ob.new 0 true)).setRt 0 (((k.s.A.made 0 i g (Ob.new 0 true)).rt 0).drop (k.s.A.rt 0).n) := by
    unfold Ar.dropR
    have hm : (k.s.A.made 0 i g (Ob.new 0 true)).many = k.s.A.many := rfl
    rw [hrn, hm, if_neg (by omega), show ((0 : Int).toNat) = 0 from rfl, hrn, if_neg (by omega)]
    show Ar.setRt _ _ (Sk.drop _ (((k.s.A.rt 0).n + 1 : Nat) - 1 : Int).toNat) = _
    rw [show (((k.s.A.rt 0).n + 1 : Nat) - 1 : Int).toNat = (k.s.A.rt 0).n by omega]
  have nroot : ∀ m j, m < k.s.A.many → j < (k.s.A.rt m).n → ((k.s.A.rt m).f j).s.toNat ≠ i := fun m j hm hj e => by
    have ht := hok.safe.nd _ (Rch.root hm hj)
    obtain ⟨_, _, _, t4, _⟩ := ht.lt
    rw [e, hst] at t4; cases t4
  have nvar : ∀ j, j < 8 → (k.s.A.gl j).nz = true → (k.s.A.gl j).s.toNat ≠ i := fun j hj hz e => by
    have ht := hok.safe.nd _ (Rch.var hj hz)
    obtain ⟨_, _, _, t4, _⟩ := ht.lt
    rw [e, hst] at t4; cases t4
  rw [hdrop]
  refine ⟨⟨fun j hj => ?_, fun m j hm hj => ?_, fun j hj hz => ?_, fun j r hj he ht => ?_⟩, fun _ => ?_, fun hy => ?_⟩
  · subst hj
    refine ⟨hi, ?_, ?_, ?_⟩
    · show upd k.s.A.H.T.st j 1 j = 1; unfold upd; rw [if_pos rfl]
    · show upd k.s.A.H.T.gn j g j = g; unfold upd; rw [if_pos rfl]
    · show (updf k.s.A.H.ob j (Ob.new 0 true) j).h = true; rw [updf_same]; rfl
  · have hm' : m < k.s.A.many := hm
    have hj' : j < (updf (updf k.s.A.rt 0 ((k.s.A.rt 0).push ⟨i, g⟩)) 0 (((updf k.s.A.rt 0 ((k.s.A.rt 0).push ⟨i, g⟩)) 0).drop (k.s.A.rt 0).n) m).n := hj
    show ¬ ((updf (updf k.s.A.rt 0 ((k.s.A.rt 0).push ⟨i, g⟩)) 0 (((updf k.s.A.rt 0 ((k.s.A.rt 0).push ⟨i, g⟩)) 0).drop (k.s.A.rt 0).n) m).f j).s.toNat = i
    by_cases e : m = 0
    · subst e
      rw [updf_same, updf_same] at hj' ⊢
      have hj2 : j < (k.s.A.rt 0).n + 1 - 1 := hj'
      show ¬ (if (k.s.A.rt 0).n ≤ j ∧ j < (k.s.A.rt 0).n + 1 - 1 then _ else updf (k.s.A.rt 0).f (k.s.A.rt 0).n ⟨i, g⟩ j).s.toNat = i
      rw [if_neg (by omega), updf_ne _ _ (by omega)]
      exact nroot 0 j hm' (by omega)
    · rw [updf_ne _ _ e, updf_ne _ _ e] at hj' ⊢
      exact nroot m j hm' hj'
  · exact nvar j hj hz
  · obtain ⟨e1, e2, e3, q, e4, e5⟩ := he
    have e2' : upd k.s.A.H.T.st i 1 j = 1 := e2
    unfold upd at e2'; rw [if_neg hj] at e2'
    have e5' : (updf k.s.A.H.ob i (Ob.new 0 true) j).fs q = r := e5
    rw [updf_ne _ _ hj] at e5'
    intro hi2
    obtain ⟨t1, t2, t3, t4, t5⟩ := ht.lt
    have t5' : upd k.s.A.H.T.gn i g r.s.toNat = r.g := t5
    unfold upd at t5'; rw [if_pos hi2] at t5'
    obtain ⟨j2, u1, u2⟩ := hs.3 j r ⟨e1, e2', e3, q, e4, e5'⟩
    have ej : j2 = i := by omega
    subst ej
    rcases u2 with u2 | ⟨_, u3⟩
    · omega
    · exact u3 hst
  · unfold Mk.madeR
    rw [if_neg (by have := hok.s.n; dsimp only; omega), if_pos hp]
    show (k.s.M.P.born (i : Int).toNat).c i ≠ 0
    rw [Int.toNat_natCast]
    unfold Pt.born
    split
    · rw [show (k.s.M.P.put i 2).c i = 2 from updf_same _ _ _]; decide
    · assumption
  · obtain ⟨j, u1, u2⟩ := hs.2 _ hy
    have e : i = j := by have : (i : Int) = j := u1; omega
    subst e
    rcases u2 with u2 | ⟨_, u3⟩
    · rw [hgn] at u2; exact absurd u2 (Int.lt_irrefl _)
    · exact u3 hst
/-! the rounds of the cycle, and the next cycle -/
theorem Col.step_asked {k : Col} (hok : k.Ok) (hp : k.s.M.K.ph ≠ 0) (room : Bool) : (k.stepR room).c.C.asked = k.C.asked := by
  unfold Col.stepR
  rw [if_neg hp]
  split
  · rename_i h4
    obtain ⟨d1, d2, d3, d4, _⟩ := Col.discover_ok hok h4
    split
    · split
      · exact d4
      · rfl
    · exact d4
  split
  · rename_i h5
    exact (Col.sweep_ok hok h5).2.2.2.1
  · have h5 := hok.s.m.ph
    exact (Col.mark_ok hok (by omega)).2.2.2.2.2.1
theorem Col.step_rest {k : Col} (hp : k.s.M.K.ph = 0) (ha : k.C.asked = false) (room : Bool) : k.stepR room = ⟨k, .no, false⟩ := by
  unfold Col.stepR; rw [if_pos hp, if_neg (by rw [ha]; decide)]
structure In (rr : Option (Nat × Int)) (k : Col) (f : List Rf) : Prop where
  sane : Sane k f
  asked : k.C.asked = false
  kept : ∀ i g, rr = some (i, g) → Kept i g k f
theorem In.ack {rr : Option (Nat × Int)} {k : Col} {f : List Rf} (h : In rr k f) (hok : k.Ok) (i : Int) : In rr ⟨⟨k.s.A, (k.s.M.ackR k.s.A i).M⟩, k.C⟩ f :=
  ⟨h.sane.ack hok i, h.asked, fun j g e => (h.kept j g e).ack hok i⟩
theorem In.acks {rr : Option (Nat × Int)} {k : Col} {f : List Rf} (h : In rr k f) (hok : k.Ok) : ∀ n, In rr (k.acks n) f
  | 0 => h
  | n + 1 => (h.acks hok n).ack (Col.acks_ok hok n).1 n
theorem In.step {rr : Option (Nat × Int)} {k : Col} {f : List Rf} (h : In rr k f) (hok : k.Ok) (room : Bool) : In rr (k.stepR room).c ((k.stepR room).more f) := by
  by_cases hp : k.s.M.K.ph = 0
  · rw [Col.step_rest hp h.asked room]; exact h
  · exact ⟨h.sane.step hok room, (Col.step_asked hok hp room).trans h.asked, fun i g e => (h.kept i g e).step hok hp room⟩
def cnt (r : Rf) (l : List Rf) : Nat := (l.filter (fun y => decide (y = r))).length
theorem cnt_append (r : Rf) (l m : List Rf) : cnt r (l ++ m) = cnt r l + cnt r m := by unfold cnt; rw [List.filter_append, List.length_append]
theorem cnt_none {r : Rf} {l : List Rf} (h : r ∉ l) : cnt r l = 0 := by
  unfold cnt
  rw [List.length_eq_zero_iff, List.filter_eq_nil_iff]
  intro y hy e
  exact h (of_decide_eq_true e ▸ hy)
theorem cnt_order {r : Rf} : ∀ {l : List Rf}, InOrder l → r ∈ l → cnt r l = 1
  | [], _, h => by cases h
  | y :: l, ho, h => by
    unfold InOrder at ho
    rw [List.pairwise_cons] at ho
    by_cases e : y = r
    · have hn : r ∉ l := fun hr => by have := ho.1 r hr; rw [e] at this; omega
      have := cnt_none hn
      unfold cnt at this ⊢
      rw [List.filter_cons, if_pos (by simpa using e), List.length_cons, this]
    · have hr : r ∈ l := by
        rcases List.mem_cons.1 h with h | h
        · exact absurd h.symm e
        · exact h
      have := cnt_order (l := l) ho.2 hr
      unfold cnt at this ⊢
      rw [List.filter_cons, if_neg (by simpa using e), this]
variable {L : Nat → Prop} {G : Nat → Int} {D : Nat → Bool}
structure Fin (L : Nat → Prop) (G : Nat → Int) (D : Nat → Bool) (g0 : List Rf) (k : Col) (f : List Rf) : Prop where
  asked : k.C.asked = false
  on : k.s.M.K.ph ≠ 0 → ∃ F, f = g0 ++ F ∧ Fd L G D k F
  off : k.s.M.K.ph = 0 → ∃ F, f = g0 ++ F ∧ FdEnd L G D k F
theorem more_append (R : CyRes) (g F : List Rf) : R.more (g ++ F) = g ++ R.more F := by
  unfold CyRes.more
  split
  · rw [List.append_assoc]
  · rfl
theorem Fin.step {g0 : List Rf} {k : Col} {f : List Rf} (h : Fin L G D g0 k f) (hok : k.Ok) (room : Bool) : Fin L G D g0 (k.stepR room).c ((k.stepR room).more f) := by
  by_cases hp : k.s.M.K.ph = 0
  · rw [Col.step_rest hp h.asked room]; exact h
  · obtain ⟨F, rfl, hF⟩ := h.on hp
    obtain ⟨s1, s2⟩ := hF.step hok hp room
    exact ⟨(Col.step_asked hok hp room).trans h.asked, fun hq => ⟨_, more_append _ _ _, s1 hq⟩, fun hq => ⟨_, more_append _ _ _, s2 hq⟩⟩
theorem Fin.ack {g0 : List Rf} {k : Col} {f : List Rf} (h : Fin L G D g0 k f) (hok : k.Ok) (i : Int) : Fin L G D g0 ⟨⟨k.s.A, (k.s.M.ackR k.s.A i).M⟩, k.C⟩ f := by
  obtain ⟨_, a2, _⟩ := Sys.ack_next hok.s i
  refine ⟨h.asked, fun hq => ?_, fun hq => ?_⟩
  · obtain ⟨F, e, hF⟩ := h.on (fun e => hq (a2.trans e))
    exact ⟨F, e, hF.ack hok i⟩
  · obtain ⟨F, e, hF⟩ := h.off (a2.symm.trans hq)
    exact ⟨F, e, hF.ord, hF.all, hF.gone⟩
theorem Fin.begin {g0 : List Rf} {k : Col} (hok : k.Ok) (hc : k.Clean) (hp : k.s.M.K.ph = 0) : Fin k.s.lostS k.s.A.H.T.gn (fun j => (k.s.A.H.ob j).h) g0 k.begin g0 := by
  have h1 := (Col.begin_ok hok hp).2.2
  exact ⟨rfl, fun _ => ⟨[], (List.append_nil _).symm, Fd.begin hok hc hp⟩, fun hq => by omega⟩
theorem Fin.found {g0 : List Rf} {k : Col} {f : List Rf} (h : Fin L G D g0 k f) (hp : k.s.M.K.ph = 0) {i : Nat} {g : Int} (hl : L i) (hd : D i = true) (hg : G i = g) (hn : (⟨i, g⟩ : Rf) ∉ g0) : cnt ⟨i, g⟩ f = 1 ∧ (ckV k.s.A.H.T i g == 0) = false := by
  obtain ⟨F, rfl, hF⟩ := h.off hp
  have hm := hF.all i hl hd
  rw [hg] at hm
  refine ⟨by rw [cnt_append, cnt_none hn, cnt_order hF.ord hm], ?_⟩
  have hgo := hF.gone i hl
  rw [hg] at hgo
  have := hgo.not_there
  unfold There at this
  simpa using this
end Go.Proofs.YtehmoikbeflkaaaGreat

/- estraylaw26.CycleKeeps: has; a pair and a name beside it. -/
namespace Go.Proofs.YtehmoikbeflkaaaGreat
open Go.RowKit Go.ChangeShapes Go.WideShapes Go.ChangeAt Go.Deep
set_option linter.unusedVariables false
set_option linter.unusedSimpArgs false
set_option linter.unusedSectionVars false

theorem cnt_take {r : Rf} {l : List Rf} {k : Nat} {x : Rf} (h : l[k]? = some x) : cnt r (l.take (k + 1)) = cnt r (l.take k) + if x = r then 1 else 0 := by
  rw [List.take_add_one, h, cnt_append]
  unfold cnt
  by_cases e : x = r
  · simp [e]
  · simp [e]
theorem cnt_le (r : Rf) (l : List Rf) : cnt r l ≤ l.length := List.length_filter_le _ _
set_option maxRecDepth 100000 in
theorem has26 (v : Value) (l : List Rf) (r : Rf) (w : World) (h : Refs w v l) (hb : l.length ≤ 100000) :
    Calls Tryz.prog 75 #[v, .agg #[.int .i64 r.s, .int .u32 r.g]] w fun e w' => e = .returned (.int .i64 (cnt r l : Nat)) ∧ Keeps (fun _ => False) w w' := by
  obtain ⟨a1, c1, rfl⟩ := h.slice
  have H1 := hid (fun W (hk : Keeps (fun _ => False) w W) => (h.keeps hk (fun _ _ h => h)).cell.2)
  obtain ⟨n, hn⟩ : ∃ n, l.length = n := ⟨_, rfl⟩
  obtain ⟨wA, hwA⟩ : ∃ wA, w.alloc (.cells #[.int .i64 r.s, .int .u32 r.g] 33) = wA := ⟨_, rfl⟩
  have kA : Keeps (fun _ => False) w wA := by rw [← hwA]; exact (Keeps.refl _ _).alloc _
  have qA : wA.heap[w.heap.size]? = some (.cells #[.int .i64 r.s, .int .u32 r.g] 33) := by rw [← hwA]; exact alloc_new
  have HKA := hid kA; have HQA := hid qA; have HW := hid hwA; have HN := hid hn
  rw [hn]
  rw [hn] at hb
  clear h kA qA hwA hn
  go_enter Tryz.func75, Tryz.ntmps75
  go_upto_region 1 with (fail)
  rw [HW.out]
  go_wp2_with fail
  go_loopw [5, 6] (fun s5 ix wr => ∃ k : Nat, k ≤ n ∧ ix = .int .i64 k ∧ s5 = .int .i64 (cnt r (l.take k) : Nat) ∧ Keeps (fun _ => False) wA wr) (fun _ ix _ => n - (intOf ix).toNat)
  case atStart => exact ⟨0, Nat.zero_le _, rfl, by simp [cnt], Keeps.refl _ _⟩
  case round =>
    obtain ⟨k, hk, rfl, rfl, hkr⟩ := hrel
    have HKR := hid hkr
    have hc1 := cnt_le r (l.take k)
    have hc2 : (l.take k).length ≤ k := List.length_take_le _ _
    by_cases hlt : k < n
    · obtain ⟨x, hx⟩ : ∃ x, l[k]? = some x := ⟨_, List.getElem?_eq_getElem (by have := HN.out; omega)⟩
      obtain ⟨g1, rfl, b1, p0, p1⟩ := H1.out wr (HKA.out.trans hkr) k x hx
      obtain ⟨q0, q1, _, ql⟩ := cells2 (block_keep HQA.out hkr (fun h => h))
      have hlt' : (k : Int) < (n : Int) := by omega
      have hk0 : (0 : Int) ≤ k := by omega
      have hct := cnt_take (r := r) hx
      have heq := fun w => eql_ref w x.s x.g r.s r.g
      simp only [Rf.eq_iff] at heq
      clear hkr hx
      by_cases hxy : x = r
      · rw [if_pos hxy] at hct
        rw [decide_eq_true hxy] at heq
        obtain ⟨cc, hcc⟩ : ∃ cc, cnt r (l.take k) = cc := ⟨_, rfl⟩
        rw [hcc] at hct hc1 ⊢
        have HCT := hid hct
        have hc3 : (cc : Int) ≤ 100000 := by omega
        have hc4 : (0 : Int) ≤ cc := by omega
        clear hxy hcc hct
        go_wp2_with fail
        go_quiet (fail)
        go_wp2_with fail
        refine ⟨⟨k + 1, by omega, by go_num, ?_, (HKR.out.drewN _)⟩, by simp [intOf]; omega⟩
        rw [HCT.out]; go_num
      · rw [if_neg hxy, Nat.add_zero] at hct
        rw [decide_eq_false hxy] at heq
        have HCT := hid hct
        clear hxy hct
        go_wp2_with fail
        go_quiet (fail)
        go_wp2_with fail
        refine ⟨⟨k + 1, by omega, by go_num, ?_, (HKR.out.drewN _)⟩, by simp [intOf]; omega⟩
        rw [HCT.out]; rfl
    · have hlt' : ¬ (k : Int) < (n : Int) := by omega
      have hall : cnt r (l.take k) = cnt r l := by rw [List.take_of_length_le (by have := HN.out; omega)]
      rw [hall]
      clear hkr hall
      go_wp2_with fail
      go_ret
      exact ⟨rfl, HKA.out.trans HKR.out⟩
structure KAt (w0 w : World) (p a m b c : Nat) (LA : ArL) (LM : MkL) (B : Nat) (r : Rf) (D : Col) (G : List Rf) : Prop where
  pr : Pair w0 w p a m b c LA LM D G
  rb : w.heap[B]? = some (.cells #[.int .i64 r.s, .int .u32 r.g] 33)
  nr : ∀ v, w.cell? ⟨p, 2, none⟩ = some v → v.ownBlock ≠ some B
section
variable {w0 w w' : World} {p a m b c : Nat} {LA : ArL} {LM : MkL} {B : Nat} {r : Rf} {D : Col} {G : List Rf}
theorem KAt.ne (h : KAt w0 w p a m b c LA LM B r D G) : B ≠ p := by
  obtain ⟨v, h1, _⟩ := h.pr.ex
  exact type_ne h.rb h1 (by decide)
theorem KAt.pk {D' : Col} {G' : List Rf} (h : KAt w0 w p a m b c LA LM B r D G) (hp : Pair w0 w' p a m b c LA LM D' G') (hk : PKeep w w' p (foot3 LA LM b c D.s)) : KAt w0 w' p a m b c LA LM B r D' G' := by
  obtain ⟨e1, e2⟩ := hk.block h.rb (h.pr.q.rowfoot h.rb) h.ne h.nr
  exact ⟨hp, e1, e2⟩
theorem KAt.keep {D' : Col} (h : KAt w0 w p a m b c LA LM B r D G) (hk : Keeps (foot3 LA LM b c D.s) w w') (hd : Quad w0 w' a m b c LA LM D') : KAt w0 w' p a m b c LA LM B r D' G := by
  obtain ⟨h1, h2⟩ := h.pr.fin hk hd
  exact h.pk h1 h2
theorem KAt.same (h : KAt w0 w p a m b c LA LM B r D G) (hk : Keeps (fun _ => False) w w') : KAt w0 w' p a m b c LA LM B r D G :=
  h.keep (hk.mono (fun _ _ h => h.elim)) (h.pr.q.same hk)
theorem KAt.step (h : KAt w0 w p a m b c LA LM B r D G) (hok : D.Ok) (hb : D.C.begun < 4611686018427387904) (hl : G.length ≤ 100000) : Calls Tryz.prog 77 #[.pointer (some ⟨p, 0, none⟩), .int .i64 1] w
    fun e w' => e = .returned (.tuple #[]) ∧ KAt w0 w' p a m b c LA LM B r (D.stepR true).c ((D.stepR true).more G) := by
  refine (pstep h.pr hok 1 (by omega) (by have := cy_le' hok; omega) hl).mono ?_
  rintro e w' ⟨rfl, hp, hk⟩
  exact ⟨rfl, h.pk hp hk⟩
theorem KAt.ack (h : KAt w0 w p a m b c LA LM B r D G) (hok : D.Ok) (i : Nat) : Calls Tryz.prog 76 #[.pointer (some ⟨c, 0, none⟩), .pointer (some ⟨a, 0, none⟩), .int .i64 i] w
    fun e w' => (∃ u v, e = .returned (.tuple #[.bool u, .int .i64 v])) ∧ KAt w0 w' p a m b c LA LM B r ⟨⟨D.s.A, (D.s.M.ackR D.s.A i).M⟩, D.C⟩ G := by
  refine (pair_ack h.pr hok i).mono ?_
  rintro e w' ⟨he, hp, hk⟩
  exact ⟨he, h.pk hp hk⟩
theorem KAt.ask (h : KAt w0 w p a m b c LA LM B r D G) (hb : D.C.begun < 4611686018427387904) : Calls Tryz.prog 73 #[.pointer (some ⟨c, 0, none⟩)] w
    fun e w' => e = .returned (.bool D.askR.2) ∧ KAt w0 w' p a m b c LA LM B r D.askR.1 G := by
  refine (cyask h.pr.q hb).mono ?_
  rintro e w' ⟨rfl, hq, hk⟩
  exact ⟨rfl, h.keep hk hq⟩
theorem KAt.ends (h : KAt w0 w p a m b c LA LM B r D G) (I : Col → List Rf → Prop) (hI1 : ∀ k f, k.Ok → I k f → I (k.stepR true).c ((k.stepR true).more f)) (hI2 : ∀ k f (j : Nat), k.Ok → I k f → I ⟨⟨k.s.A, (k.s.M.ackR k.s.A j).M⟩, k.C⟩ f) (hok : D.Ok) (hb : D.C.begun + 10000 < 4611686018427387904) (hl : G.length + 10000 ≤ 100000) (hi : I D G) :
    Calls Tryz.prog 70 #[.pointer (some ⟨p, 0, none⟩)] w fun e w' => ∃ d g, e = .returned (.bool true) ∧ d.s.M.K.ph = 0 ∧ I d g ∧ g.length ≤ 100000 ∧ KAt w0 w' p a m b c LA LM B r d g := by
  refine (ends26 I hI1 hI2 h.pr hok hb hl hi).mono ?_
  rintro e w' ⟨d, g, j, rfl, h1, h2, h3, h4⟩
  exact ⟨d, g, rfl, h1, h4.inv, by have := h4.ln; omega, h.pk h4.pr h4.kp⟩
theorem cell_keep {b k : Nat} {u : Value} (h : w.cell? ⟨b, k, none⟩ = some u) (hb : b < w.heap.size) (hk : Keeps (fun _ => False) w w') : w'.cell? ⟨b, k, none⟩ = some u :=
  (World.cell?_of_block (w := w) (w' := w') (a := ⟨b, k, none⟩) (hk.block b hb (fun h => h))).trans h
theorem KAt.cs (h : KAt w0 w p a m b c LA LM B r D G) : w.cell? ⟨p, 0, none⟩ = some (.pointer (some ⟨a, 0, none⟩)) ∧ w.cell? ⟨p, 1, none⟩ = some (.pointer (some ⟨c, 0, none⟩)) ∧ w.cell? ⟨B, 0, none⟩ = some (.int .i64 r.s) ∧ w.cell? ⟨B, 1, none⟩ = some (.int .u32 r.g) := by
  obtain ⟨x0, x1, _⟩ := pair_cells h.pr
  obtain ⟨q0, q1, _, _⟩ := cells2 h.rb
  exact ⟨x0, x1, q0, q1⟩
end

end Go.Proofs.YtehmoikbeflkaaaGreat
