/- A reading of closed calls that the kernel can run: operations that look at no block, ii. -/
import Derived.Test.YthlphddehdjfjaaGreatDoorEwC
namespace Go.Proofs.YthlphddehdjfjaaGreatDoor
open Go.RowKit
set_option linter.unusedVariables false
set_option linter.unusedSimpArgs false
set_option linter.unusedSectionVars false

/-! ## types -/
noncomputable def szA (P : Program) (t : TypeId) : Option Nat := match P.info? t with
  | some i => some i.size
  | none => none
theorem szA_ok {P : Program} {t : TypeId} {n : Nat} (h : szA P t = some n) (w : World) : (sizeOf t).run P w = .ok n w := by
  unfold szA at h
  split at h
  · rename_i i hi
    cases h
    simp [sizeOf, typeInfo, hi]
  · cases h
noncomputable def agA (P : Program) (t : TypeId) : Option Bool := match P.underlying t with
  | some (.struct _) => some true
  | some (.array _ _) => some true
  | some _ => some false
  | none => none
theorem agA_ok {P : Program} {t : TypeId} {b : Bool} (h : agA P t = some b) (w : World) : (isAgg t).run P w = .ok b w := by
  unfold agA at h
  split at h
  · rename_i hu; cases h; simp [isAgg, run_underlying hu]
  · rename_i hu; cases h; simp [isAgg, run_underlying hu]
  · rename_i d h1 h2 hu
    cases h
    cases d <;> first
      | exact absurd rfl (h1 _)
      | exact absurd rfl (h2 _ _)
      | simp [isAgg, run_underlying hu]
  · cases h
noncomputable def zeA (P : Program) (t : TypeId) : Option AV := match P.info? t with
  | some i => match i.zero with
    | some z => ofV z
    | none => none
  | none => none
theorem zeA_ok {ρ : Rn} {P : Program} {t : TypeId} {c : AV} (h : zeA P t = some c) : ∃ v, R ρ c (.v v) ∧ ∀ w, (zeroValue t).run P w = .ok v w := by
  unfold zeA at h
  split at h
  · rename_i i hi
    split at h
    · rename_i z hz
      exact ⟨z, ofV_ok h, fun w => by simp [zeroValue, typeInfo, hi, hz]⟩
    · cases h
  · cases h

/-! ## parts of a list -/
noncomputable def AV.dr (l : AV) (n : Nat) : AV := Nat.rec (motive := fun _ => AV → AV) (fun l => l) (fun _ ih l => match l with | .cons _ q => ih q | _ => .nil) n l
noncomputable def AV.tk (l : AV) (n : Nat) : Option AV :=
  Nat.rec (motive := fun _ => AV → Option AV) (fun _ => some .nil) (fun _ ih l => match l with | .cons h q => ob (ih q) fun r => some (.cons h r) | _ => none) n l
theorem R.dr {ρ : Rn} : ∀ (n : Nat) {l : AV} {vs : List Value}, R ρ l (.l vs) → R ρ (l.dr n) (.l (vs.drop n))
  | 0, l, vs, h => h
  | n + 1, l, vs, h => by
    cases h with
    | nil => exact .nil
    | cons h1 h2 => exact R.dr n h2
theorem R.tk {ρ : Rn} : ∀ (n : Nat) {l r : AV} {vs : List Value}, R ρ l (.l vs) → l.tk n = some r → R ρ r (.l (vs.take n))
  | 0, l, r, vs, h, e => by cases e; exact .nil
  | n + 1, l, r, vs, h, e => by
    cases h with
    | nil => cases e
    | cons h1 h2 =>
      replace e := ob_eq e; obtain ⟨q, e1, e⟩ := e
      cases e
      exact .cons h1 (R.tk n h2 e1)
noncomputable def ptA (P : Program) (t : TypeId) (l : AV) (o : Nat) : Option AV :=
  ob (agA P t) fun b => Bool.rec (motive := fun _ => Option AV) (l.nth o) (ob (szA P t) fun n => ob ((l.dr o).tk n) fun r => some (.a r)) b
theorem ptA_ok {ρ : Rn} {P : Program} {t : TypeId} {l c : AV} {o : Nat} {vs : List Value} (hl : R ρ l (.l vs)) (h : ptA P t l o = some c) : ∃ v, R ρ c (.v v) ∧ ∀ w, (part t ⟨vs⟩ o).run P w = .ok v w := by
  replace h := ob_eq h; obtain ⟨b, h1, h⟩ := h
  cases b with
  | false =>
    obtain ⟨v, e1, e2⟩ := hl.nth h
    refine ⟨v, e2, fun w => ?_⟩
    simp [part, agA_ok h1, e1]
  | true =>
    replace h := ob_eq h; obtain ⟨n, h2, h⟩ := h
    replace h := ob_eq h; obtain ⟨r, h3, h⟩ := h
    cases h
    refine ⟨_, .a ((hl.dr o).tk n h3), fun w => ?_⟩
    simp only [part, Sem.run_bind, agA_ok h1, Result.andThen_ok, if_true, szA_ok h2, Sem.run_pure]
    congr 2
    apply Array.ext'
    simp [Array.toList_extract, List.extract_eq_take_drop]

section
variable {P : Program} {G nt : Nat} {ρ : Rn} {tm : En} {e : Act}

/-! ## addresses -/
noncomputable def foA (P : Program) (s : TypeId) (f : Nat) : Option Nat := match P.underlying s with
  | some (.struct fs) => match fs[f]? with
    | some fl => ob (szA P fl.type) fun n => iff' (not (Nat.beq n 0)) (some fl.offset)
    | none => none
  | _ => none
noncomputable def opFld (P : Program) (G : Nat) (tm : En) (s : TypeId) (x : Operand) (f : Nat) : Option AV :=
  ob (opd G tm x) fun c => match c with
    | .p id off => ob (foA P s f) fun d => fN (off + d) fun o => some (.p id o)
    | _ => none
theorem nbF {m n : Nat} (h : ¬ m = n) : Nat.beq m n = false := by
  cases e : Nat.beq m n
  · rfl
  · exact absurd (Nat.eq_of_beq_eq_true e) h
theorem nb0 {n : Nat} (h : (not (Nat.beq n 0)) = true) : n ≠ 0 := by rintro rfl; exact Bool.noConfusion h
theorem addr_add (b o n : Nat) : Addr.add ⟨b, o, none⟩ n = ⟨b, o + n, none⟩ := Addr.add_lit b o n
theorem opFld_ok (ht : TR ρ tm nt e.tmps) (hg : ∀ g, g < G → ρ g = some (g, 0)) {s : TypeId} {x : Operand} {f : Nat} {r : AV} (h : opFld P G tm s x f = some r) : ∃ z, R ρ r (.v z) ∧ ∀ w, (Instr.fieldAt s (e.eval x) f).run P w = .ok z w := by
  replace h := ob_eq h; obtain ⟨c, h1, h⟩ := h
  have r1 := opdG ht hg h1
  split at h
  · replace h := ob_eq h; obtain ⟨d, h2, h⟩ := h
    rw [fN_eq] at h
    cases h
    generalize e.eval x = v at r1
    cases r1 with
    | p hp =>
      unfold foA at h2
      split at h2
      · rename_i fs hu
        split at h2
        · rename_i fl hfl
          replace h2 := ob_eq h2; obtain ⟨n, h3, h2⟩ := h2
          replace h2 := iff_eq h2; obtain ⟨h4, h2⟩ := h2
          cases h2
          refine ⟨_, .p hp, fun w => ?_⟩
          simp [Instr.fieldAt, run_underlying hu, hfl, Instr.sureAddr, fieldPlace, szA_ok h3, nb0 h4, addr_add]
        · cases h2
      · cases h2
  · cases h
/-- an index of n -/
noncomputable def ixA (c : AV) (n : Nat) : Option Nat := match c with
  | .i _ (.ofNat j) => iff' (Nat.blt j n) (some j)
  | _ => none
theorem ixA_ok {c : AV} {n j : Nat} {v : Value} (h : ixA c n = some j) (r : R ρ c (.v v)) : ∃ k, v = .int k (j : Int) ∧ j < n := by
  unfold ixA at h
  split at h
  · replace h := iff_eq h; obtain ⟨h1, h⟩ := h
    cases h
    cases r
    exact ⟨_, rfl, by simpa [Nat.blt_eq] using h1⟩
  · cases h
noncomputable def opIxa (P : Program) (G : Nat) (tm : En) (t : TypeId) (x y : Operand) : Option AV :=
  ob (opd G tm x) fun c => ob (opd G tm y) fun d => match P.underlying t, c with
    | some (.array len el), .p id off => ob (ixA d len) fun j => ob (szA P el) fun n => fN (off + j * n) fun o => some (.p id o)
    | some (.slice el), .sl id off len _ => ob (ixA d len) fun j => ob (szA P el) fun n => fN (off + j * n) fun o => some (.p id o)
    | some (.slice el), .gs id len => ob (ixA d len) fun j => ob (szA P el) fun n => fN (j * n) fun o => some (.p id o)
    | _, _ => none
theorem opIxa_ok (ht : TR ρ tm nt e.tmps) (hg : ∀ g, g < G → ρ g = some (g, 0)) {t : TypeId} {x y : Operand} {r : AV} (h : opIxa P G tm t x y = some r) : ∃ z, R ρ r (.v z) ∧ ∀ w, (Instr.indexAt t (e.eval x) (e.eval y)).run P w = .ok z w := by
  replace h := ob_eq h; obtain ⟨c, h1, h⟩ := h
  replace h := ob_eq h; obtain ⟨d, h2, h⟩ := h
  have r1 := opdG ht hg h1
  have r2 := opdG ht hg h2
  generalize e.eval x = v at r1 ⊢
  generalize e.eval y = u at r2 ⊢
  split at h
  · rename_i hu
    replace h := ob_eq h; obtain ⟨j, h3, h⟩ := h
    replace h := ob_eq h; obtain ⟨n, h4, h⟩ := h
    rw [fN_eq] at h
    cases h
    obtain ⟨k, rfl, hj⟩ := ixA_ok h3 r2
    cases r1 with
    | p hp =>
      refine ⟨_, .p hp, fun w => ?_⟩
      have hj' : (j : Int) < (_ : Nat) := Int.ofNat_lt.2 hj
      simp [Instr.indexAt, run_underlying hu, Instr.sureAddr, asIntOf, szA_ok h4, addr_add, hj]
  · rename_i hu
    replace h := ob_eq h; obtain ⟨j, h3, h⟩ := h
    replace h := ob_eq h; obtain ⟨n, h4, h⟩ := h
    rw [fN_eq] at h
    cases h
    obtain ⟨k, rfl, hj⟩ := ixA_ok h3 r2
    cases r1 with
    | sl hp hc =>
      refine ⟨_, .p hp, fun w => ?_⟩
      simp [Instr.indexAt, run_underlying hu, asIntOf, szA_ok h4, addr_add, hj]
  · rename_i hu
    replace h := ob_eq h; obtain ⟨j, h3, h⟩ := h
    replace h := ob_eq h; obtain ⟨n, h4, h⟩ := h
    rw [fN_eq] at h
    cases h
    obtain ⟨k, rfl, hj⟩ := ixA_ok h3 r2
    cases r1 with
    | gs hp hc =>
      refine ⟨_, .p hp, fun w => ?_⟩
      simp [Instr.indexAt, run_underlying hu, asIntOf, szA_ok h4, addr_add, hj]
  · cases h

/-! ## parts by value -/
noncomputable def opFie (P : Program) (G : Nat) (tm : En) (t : TypeId) (x : Operand) (f : Nat) : Option AV :=
  ob (opd G tm x) fun c => match P.underlying t, c with
    | some (.struct fs), .a l => match fs[f]? with
      | some fl => ptA P fl.type l fl.offset
      | none => none
    | _, _ => none
theorem opFie_ok (ht : TR ρ tm nt e.tmps) (hg : ∀ g, g < G → ρ g = some (g, 0)) {t : TypeId} {x : Operand} {f : Nat} {r : AV} (h : opFie P G tm t x f = some r) : ∃ z, R ρ r (.v z) ∧ ∀ w, (Instr.field t (e.eval x) f).run P w = .ok z w := by
  replace h := ob_eq h; obtain ⟨c, h1, h⟩ := h
  have r1 := opdG ht hg h1
  generalize e.eval x = v at r1 ⊢
  split at h
  · rename_i hu
    split at h
    · rename_i fl hfl
      cases r1 with
      | a hl =>
        obtain ⟨z, e1, e2⟩ := ptA_ok hl h
        refine ⟨z, e1, fun w => ?_⟩
        simp [Instr.field, run_underlying hu, hfl, asAgg, e2]
    · cases h
  · cases h
noncomputable def opIdx (P : Program) (G : Nat) (tm : En) (t : TypeId) (x y : Operand) : Option AV :=
  ob (opd G tm x) fun c => ob (opd G tm y) fun d => match P.underlying t, c with
    | some (.array len el), .a l => ob (ixA d len) fun j => ob (szA P el) fun n => fN (j * n) fun o => ptA P el l o
    | some .string, .s x => ob (ixA d x.size) fun j => match x[j]? with
      | some b => fN b.toNat fun n => some (.i .u8 n)
      | none => none
    | _, _ => none
theorem opIdx_ok (ht : TR ρ tm nt e.tmps) (hg : ∀ g, g < G → ρ g = some (g, 0)) {t : TypeId} {x y : Operand} {r : AV} (h : opIdx P G tm t x y = some r) : ∃ z, R ρ r (.v z) ∧ ∀ w, (Instr.index t (e.eval x) (e.eval y)).run P w = .ok z w := by
  replace h := ob_eq h; obtain ⟨c, h1, h⟩ := h
  replace h := ob_eq h; obtain ⟨d, h2, h⟩ := h
  have r1 := opdG ht hg h1
  have r2 := opdG ht hg h2
  generalize e.eval x = v at r1 ⊢
  generalize e.eval y = u at r2 ⊢
  split at h
  · rename_i hu
    replace h := ob_eq h; obtain ⟨j, h3, h⟩ := h
    replace h := ob_eq h; obtain ⟨n, h4, h⟩ := h
    rw [fN_eq] at h
    obtain ⟨k, rfl, hj⟩ := ixA_ok h3 r2
    cases r1 with
    | a hl =>
      obtain ⟨z, e1, e2⟩ := ptA_ok hl h
      refine ⟨z, e1, fun w => ?_⟩
      simp [Instr.index, run_underlying hu, asIntOf, szA_ok h4, hj, e2]
  · rename_i hu
    replace h := ob_eq h; obtain ⟨j, h3, h⟩ := h
    obtain ⟨k, rfl, hj⟩ := ixA_ok h3 r2
    split at h
    · rename_i b hb
      rw [fN_eq] at h
      cases h
      cases r1 with
      | s x =>
        refine ⟨_, .i _ _, fun w => ?_⟩
        simp [Instr.index, run_underlying hu, asIntOf, hb]
    · cases h
  · cases h
noncomputable def opExt (G : Nat) (tm : En) (x : Operand) (n : Nat) : Option AV :=
  ob (opd G tm x) fun c => match c with
    | .t l => l.nth n
    | _ => none
theorem opExt_ok (ht : TR ρ tm nt e.tmps) (hg : ∀ g, g < G → ρ g = some (g, 0)) {x : Operand} {n : Nat} {r : AV} (h : opExt G tm x n = some r) : ∃ z, R ρ r (.v z) ∧ ∀ w, (Instr.extract (e.eval x) n).run P w = .ok z w := by
  replace h := ob_eq h; obtain ⟨c, h1, h⟩ := h
  have r1 := opdG ht hg h1
  generalize e.eval x = v at r1 ⊢
  split at h
  · cases r1 with
    | t hl =>
      obtain ⟨z, e1, e2⟩ := hl.nth h
      refine ⟨z, e2, fun w => ?_⟩
      simp [Instr.extract, e1]
  · cases h

/-! ## slices of slices and arrays -/
noncomputable def bdA (G : Nat) (tm : En) (x : Option Operand) (d y : Nat) : Option Nat := match x with
  | none => some d
  | some x => ob (opd G tm x) fun c => ixA c (y + 1)
theorem bdA_ok (ht : TR ρ tm nt e.tmps) (hg : ∀ g, g < G → ρ g = some (g, 0)) {lo hi : Option Operand} {l h len cap : Nat} (hh : bdA G tm hi len cap = some h) (hl : bdA G tm lo 0 h = some l) (b : Bool) (w : World) :
    (Instr.sliceBounds b len cap (lo.map e.eval) (hi.map e.eval) none).run P w = .ok (l, h, cap) w := by
  have one : ∀ (x : Operand) (y j : Nat) (code : BoundsCode) (w : World), (ob (opd G tm x) fun c => ixA c (y + 1)) = some j → (Instr.sliceBound (e.eval x) y code).run P w = .ok j w := fun x y j code w hx => by
    replace hx := ob_eq hx; obtain ⟨c, h1, hx⟩ := hx
    obtain ⟨k, e1, hj⟩ := ixA_ok hx (opdG ht hg h1)
    rw [e1]
    have : j ≤ y := by omega
    simp [Instr.sliceBound, asIntOf, this]
  cases hi with
  | none =>
    cases hh
    cases lo with
    | none => cases hl; simp [Instr.sliceBounds]
    | some x => simp [Instr.sliceBounds, one _ _ _ _ _ hl]
  | some y =>
    cases lo with
    | none => cases hl; simp [Instr.sliceBounds, one _ _ _ _ _ hh]
    | some x => simp [Instr.sliceBounds, one _ _ _ _ _ hh, one _ _ _ _ _ hl]
noncomputable def opSli (P : Program) (G : Nat) (tm : En) (t : TypeId) (x : Operand) (lo hi mx : Option Operand) : Option AV :=
  match mx with
  | some _ => none
  | none => ob (opd G tm x) fun c => match P.underlying t, c with
    | some (.array n el), .p id off => ob (bdA G tm hi n n) fun h => ob (bdA G tm lo 0 h) fun l => ob (szA P el) fun z =>
        iff' (Nat.ble l h) (fN (Bool.rec (motive := fun _ => Nat) (off + l * z) off (Nat.beq n l)) fun o => fN (h - l) fun q => fN (n - l) fun k => iff' (Nat.ble q k) (some (.sl id o q k)))
    | some (.slice el), .sl id off len cap => ob (bdA G tm hi len cap) fun h => ob (bdA G tm lo 0 h) fun l => ob (szA P el) fun z =>
        iff' (Nat.ble l h) (fN (Bool.rec (motive := fun _ => Nat) (off + l * z) off (Nat.beq cap l)) fun o => fN (h - l) fun q => fN (cap - l) fun k => iff' (Nat.ble q k) (some (.sl id o q k)))
    | some (.slice el), .gs id len => match lo with
      | none => ob (bdA G tm hi len len) fun h => ob (szA P el) fun z => some (.gs id h)
      | some _ => none
    | some .string, .s x => ob (bdA G tm hi x.size x.size) fun h => ob (bdA G tm lo 0 h) fun l => some (.s (x.extract l h))
    | _, _ => none
theorem opSli_ok (ht : TR ρ tm nt e.tmps) (hg : ∀ g, g < G → ρ g = some (g, 0)) {t : TypeId} {x : Operand} {lo hi mx : Option Operand} {r : AV} (h : opSli P G tm t x lo hi mx = some r) :
    ∃ z, R ρ r (.v z) ∧ ∀ w, (Instr.sliceAt t (e.eval x) (lo.map e.eval) (hi.map e.eval) (mx.map e.eval)).run P w = .ok z w := by
  unfold opSli at h
  split at h
  · cases h
  replace h := ob_eq h; obtain ⟨c, h1, h⟩ := h
  have r1 := opdG ht hg h1
  generalize e.eval x = v at r1 ⊢
  split at h
  · rename_i n el id off hu
    replace h := ob_eq h; obtain ⟨a, h2, h⟩ := h
    replace h := ob_eq h; obtain ⟨l, h3, h⟩ := h
    replace h := ob_eq h; obtain ⟨z, h4, h⟩ := h
    replace h := iff_eq h; obtain ⟨h5, h⟩ := h
    rw [fN_eq, fN_eq, fN_eq] at h
    replace h := iff_eq h; obtain ⟨h6, h⟩ := h
    cases h
    cases r1 with
    | p hp =>
      refine ⟨_, .sl hp (Nat.le_of_ble_eq_true h6), fun w => ?_⟩
      simp only [Instr.sliceAt, Sem.run_bind, run_underlying hu, Result.andThen_ok, Instr.sureAddr, Sem.run_pure, bdA_ok ht hg h2 h3, Option.map_none, szA_ok h4, addr_add]
      by_cases hn : n = l
      · subst hn; simp
      · rw [if_neg hn, nbF hn]
  · rename_i el id off len cap hu
    replace h := ob_eq h; obtain ⟨a, h2, h⟩ := h
    replace h := ob_eq h; obtain ⟨l, h3, h⟩ := h
    replace h := ob_eq h; obtain ⟨z, h4, h⟩ := h
    replace h := iff_eq h; obtain ⟨h5, h⟩ := h
    rw [fN_eq, fN_eq, fN_eq] at h
    replace h := iff_eq h; obtain ⟨h6, h⟩ := h
    cases h
    cases r1 with
    | sl hp hc =>
      refine ⟨_, .sl hp (Nat.le_of_ble_eq_true h6), fun w => ?_⟩
      simp only [Instr.sliceAt, Instr.slice, Sem.run_bind, run_underlying hu, Result.andThen_ok, Sem.run_pure, bdA_ok ht hg h2 h3, Option.map_none, szA_ok h4, Option.map_some, addr_add]
      by_cases hn : cap = l
      · subst hn; simp
      · rw [if_neg hn, nbF hn]
  · rename_i el id len hu
    split at h
    · replace h := ob_eq h; obtain ⟨a, h2, h⟩ := h
      replace h := ob_eq h; obtain ⟨z, h4, h⟩ := h
      cases h
      cases r1 with
      | gs hp hc =>
        rename_i bk C
        have h2' : bdA G tm hi len C = some a ∧ a ≤ len := by
          unfold bdA at h2 ⊢
          split at h2
          · cases h2; exact ⟨rfl, Nat.le_refl _⟩
          · replace h2 := ob_eq h2; obtain ⟨d, e1, e2⟩ := h2
            rw [e1]
            show ixA d (C + 1) = some a ∧ _
            unfold ixA at e2 ⊢
            split at e2
            · replace e2 := iff_eq e2; obtain ⟨e3, e2⟩ := e2
              cases e2
              rw [Nat.blt_eq] at e3
              refine ⟨?_, by omega⟩
              show iff' (Nat.blt a (C + 1)) (some a) = _
              rw [show Nat.blt a (C + 1) = true by rw [Nat.blt_eq]; omega]
              rfl
            · cases e2
        refine ⟨_, .gs hp (Nat.le_trans h2'.2 hc), fun w => ?_⟩
        have hb := bdA_ok (P := P) ht hg h2'.1 (lo := none) (l := 0) rfl true w
        simp only [Option.map_none] at hb
        simp only [Instr.sliceAt, Instr.slice, Sem.run_bind, run_underlying hu, Result.andThen_ok, Sem.run_pure, hb, Option.map_none, szA_ok h4, Option.map_some, addr_add]
        by_cases hn : C = 0
        · simp [hn]
        · rw [if_neg hn]; simp
    · cases h
  · rename_i s hu
    replace h := ob_eq h; obtain ⟨a, h2, h⟩ := h
    replace h := ob_eq h; obtain ⟨l, h3, h⟩ := h
    cases h
    cases r1 with
    | s x =>
      refine ⟨_, .s _, fun w => ?_⟩
      simp only [Instr.sliceAt, Instr.slice, Sem.run_bind, run_underlying hu, Result.andThen_ok, Sem.run_pure, bdA_ok ht hg h2 h3, Option.map_none, Option.isSome_none, Bool.false_eq_true, if_false]
  · cases h
end

end Go.Proofs.YthlphddehdjfjaaGreatDoor
