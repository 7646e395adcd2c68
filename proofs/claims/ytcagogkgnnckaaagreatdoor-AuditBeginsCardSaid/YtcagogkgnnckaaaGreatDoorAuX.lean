/- Package audit: Spaced. -/
import Derived.Test.YtcagogkgnnckaaaGreatDoorAuG
namespace Go.Proofs.YtcagogkgnnckaaaGreatDoor
open Go.RowKit
set_option linter.unusedVariables false
set_option linter.unusedSimpArgs false

def Tn.val (t : Tn) : Value := .agg #[.int .i64 t.at', .int .i64 t.n, .bool t.w]
/-- where the answers lead, numbers stay small -/
theorem spaced_small (base cap : Int) (l : List At) (hl : ∀ a ∈ l, a.ok = true) : ∀ o, 0 ≤ (sta (spacedF base cap) (fun _ => ⟨0, 0, false⟩) l o).at' ∧ (sta (spacedF base cap) (fun _ => ⟨0, 0, false⟩) l o).at' ≤ 1099511627776 ∧ 0 ≤ (sta (spacedF base cap) (fun _ => ⟨0, 0, false⟩) l o).n ∧ (sta (spacedF base cap) (fun _ => ⟨0, 0, false⟩) l o).n ≤ (l.length : Int) := by
  have h : ∀ (l : List At) (s : Ou → Tn) (k : Nat), (∀ a ∈ l, a.ok = true) → (∀ o, 0 ≤ (s o).at' ∧ (s o).at' ≤ 1099511627776 ∧ 0 ≤ (s o).n ∧ (s o).n ≤ (k : Int)) →
      ∀ o, 0 ≤ (sta (spacedF base cap) s l o).at' ∧ (sta (spacedF base cap) s l o).at' ≤ 1099511627776 ∧ 0 ≤ (sta (spacedF base cap) s l o).n ∧ (sta (spacedF base cap) s l o).n ≤ ((k + l.length : Nat) : Int) := by
    intro l
    induction l with
    | nil => intro s k _ h; exact h
    | cons a l ih =>
      intro s k hl h o
      have ha : a.ok = true := hl a (by simp)
      have := ih (spacedF base cap s a).2 (k + 1) (fun x hx => hl x (by simp [hx])) (by
        intro o
        have h0 := h o
        have h1 := h a.o
        simp [At.ok] at ha
        unfold spacedF
        cases (s a.o).w && (match waitV base cap (min (s a.o).n 64) with | some w => decide (a.t < (s a.o).at' + w) | none => true) with
        | true => simp only [cond_true]; omega
        | false =>
          simp only [cond_false]
          by_cases e : o = a.o
          · subst e
            rw [if_pos rfl]
            dsimp only
            split <;> omega
          · rw [if_neg e]; omega) o
      rw [List.length_cons]
      rw [show k + (l.length + 1) = k + 1 + l.length by omega]
      exact this
  intro o
  have := h l (fun _ => ⟨0, 0, false⟩) 0 hl (by intro o; dsimp only; omega) o
  simpa using this
def SpI (c p m : Nat) (base cap : Int) (s : Ou → Tn) (W : World) : Prop := W.heap[c]? = some (.cells #[.map (some m)] 58) ∧ (∃ cfg, W.heap[p]? = some (.cells cfg 28) ∧ cfg[7]? = some (.int .i64 base) ∧ cfg[8]? = some (.int .i64 cap)) ∧ (∃ f, OM W m f ∧ ∀ o, (f o).getD (.agg #[.int .i64 0, .int .i64 0, .bool false]) = (s o).val) ∧ c ≠ m ∧ p ≠ m
theorem SpI.keeps {c p m : Nat} {base cap : Int} {s : Ou → Tn} {W W' : World} (h : SpI c p m base cap s W) (hk : Keeps (fun _ => False) W W') : SpI c p m base cap s W' := by
  obtain ⟨h1, ⟨cfg, h2, h3⟩, ⟨q, h4, h5⟩, n⟩ := h
  exact ⟨block_keep h1 hk (fun h => h), ⟨cfg, block_keep h2 hk (fun h => h), h3⟩, ⟨q, h4.keeps hk (fun h => h), h5⟩, n⟩
theorem spS {V : World} {B : Nat} {t k i g y z : Int} {tb : TypeId} (hB : V.heap[B]? = some (.cells #[.int .i64 t, .int .i64 k, .int .i64 i, .int .u32 g, .int .i64 y, .int .i64 z] tb)) :
    V.cell? ⟨B, 0, none⟩ = some (.int .i64 t) ∧ V.cell? ⟨B, 5, none⟩ = some (.int .i64 z) := ⟨cell_at hB rfl, cell_at hB rfl⟩
theorem waitV_in {base cap n x : Int} (h : waitV base cap n = some x) : 1 ≤ x ∧ x ≤ 1048576 := by
  unfold waitV at h
  split at h
  · rename_i hc
    have := waitN_in hc.2.2.1 hc.2.2.2.1 (n - 1).toNat
    have := Option.some.inj h
    omega
  · cases h
set_option maxRecDepth 100000 in
set_option maxHeartbeats 1000000 in
theorem spaced1 (c p m : Nat) (base cap : Int) (s : Ou → Tn) (a : At) (ha : a.Wf) (hok : a.ok = true) (W : World) (h : SpI c p m base cap s W) (hs : 0 ≤ (s a.o).at' ∧ (s a.o).at' ≤ 1099511627776 ∧ 0 ≤ (s a.o).n ∧ (s a.o).n ≤ 10000) :
    Calls Tryz.prog 21 #[a.val, .pointer (some ⟨c, 0, none⟩), .pointer (some ⟨p, 0, none⟩)] W fun e W' => e = .returned (.bool (spacedF base cap s a).1) ∧ ((spacedF base cap s a).1 = true → SpI c p m base cap (spacedF base cap s a).2 W') ∧ Keeps (fun y => y = m) W W' := by
  obtain ⟨t, ⟨k, i, g⟩, y, z⟩ := a
  obtain ⟨h1, ⟨cfg, h2, h6, h7⟩, ⟨q, h3, h4⟩, n1, n2⟩ := h
  have k0 : Keeps (fun _ => False) W (W.alloc (.cells #[.int .i64 t, .int .i64 k, .int .i64 i, .int .u32 g, .int .i64 y, .int .i64 z] 40)) := Keeps.r
  have ho : Ou.Wf (k, i, g) := ⟨ha.k, ha.i, ha.g⟩
  have hl := (h3.keeps k0 (fun h => h)).look Tryz.underlying58 (z := .agg #[.int .i64 0, .int .i64 0, .bool false]) (by kernel_rfl) ho false
  rw [h4] at hl
  unfold Ou.val at hl
  have c0 := cell_at (i := 0) (block_keep h1 k0 (fun h => h)) rfl
  have e1 := block_keep h2 k0 (fun h => h)
  have d7 := cell_at (i := 7) e1 h6
  have d8 := cell_at (i := 8) e1 h7
  have hsp : spacedF base cap s ⟨t, (k, i, g), y, z⟩ = (bif (s (k, i, g)).w && (match waitV base cap (min (s (k, i, g)).n 64) with | some w => decide (t < (s (k, i, g)).at' + w) | none => true) then (false, s)
    else (true, fun x => if x = (k, i, g) then ⟨t, if z = 2 then (s (k, i, g)).n + 1 else (s (k, i, g)).n, z == 2⟩ else s x)) := rfl
  obtain ⟨⟨at', n, wt⟩, hst⟩ : ∃ u, s (k, i, g) = u := ⟨_, rfl⟩
  rw [hst] at hl hsp hs
  dsimp only [Tn.val] at hl hsp hs
  unfold At.val
  have HP := hid (fun V kV => (h3.keeps (show Keeps (fun _ => False) W V from kV) (fun h => h)))
  have q1 : W.heap.size ≠ W.heap.size + 1 := by omega
  have l1 := lt_block h1
  have l2 := lt_block h2
  have l3 := h3.lt
  have q2 : c ≠ W.heap.size + 1 := by omega
  have q3 : p ≠ W.heap.size + 1 := by omega
  have q4 : m ≠ W.heap.size + 1 := by omega
  obtain ⟨s1, s2, s3, s4⟩ := hs
  have HO := hid ho
  have H1 := hid h1
  have H2 := hid h2
  have H4 := hid h4
  clear h1 h2 h3 ho ha hok k0 l1 l2 l3 e1
  cases wt with
  | false =>
    rw [Bool.false_and, cond_false] at hsp
    obtain ⟨R, hR⟩ : ∃ R : Ou → Tn, (fun x => if x = (k, i, g) then ⟨t, if z = 2 then n + 1 else n, z == 2⟩ else s x) = R := ⟨_, rfl⟩
    rw [hR] at hsp
    have HR := hid hR
    rw [hsp]
    clear hR
    clear hsp hst
    have kV : Keeps (fun _ => False) W ((W.alloc (.cells #[.int .i64 t, .int .i64 k, .int .i64 i, .int .u32 g, .int .i64 y, .int .i64 z] 40)).alloc (.cells #[.int .i64 at', .int .i64 n, .bool false] 60)) := Keeps.r
    have vB := alloc_old (o := .cells #[.int .i64 at', .int .i64 n, .bool false] 60) (alloc_new (w := W) (o := .cells #[.int .i64 t, .int .i64 k, .int .i64 i, .int .u32 g, .int .i64 y, .int .i64 z] 40))
    have vT := alloc_new' (w := W.alloc (.cells #[.int .i64 t, .int .i64 k, .int .i64 i, .int .u32 g, .int .i64 y, .int .i64 z] 40)) (o := .cells #[.int .i64 at', .int .i64 n, .bool false] 60) (n := W.heap.size + 1) (by simp)
    have HV := hid (And.intro kV (And.intro vB vT))
    clear kV vB vT
    go_enter Tryz.func21, Tryz.ntmps21
    go_wp2_with fail
    generalize (W.alloc (.cells #[.int .i64 t, .int .i64 k, .int .i64 i, .int .u32 g, .int .i64 y, .int .i64 z] 40)).alloc (.cells #[.int .i64 at', .int .i64 n, .bool false] 60) = V at HV ⊢
    obtain ⟨kV, vB, vT⟩ := HV.out
    clear hl c0 d7 d8
    obtain ⟨M, hM⟩ : ∃ M, V.heap[m]? = some M := by
      obtain ⟨_, _, hM, _⟩ := HP.out V kV
      exact ⟨_, hM⟩
    have hX : ∀ (n' : Int) (b' : Bool), ∃ X, (∀ Y : World, Y.heap[m]? = some M → Sem.run Tryz.prog (Instr.mapUpdate 58 (.map (some m)) (.agg #[.int .i64 k, .int .i64 i, .int .u32 g]) (.agg #[.int .i64 t, .int .i64 n', .bool b'])) Y = .ok () (Go.ChangeMaps.setBlock Y m X)) ∧ ∀ Y : World, Y.heap[m]? = some M → OM (Go.ChangeMaps.setBlock Y m X) m (fun x => if x = (k, i, g) then some (.agg #[.int .i64 t, .int .i64 n', .bool b']) else q x) := by
      intro n' b'
      obtain ⟨M', X, e1, e2, e3⟩ := (HP.out V kV).put Tryz.underlying58 HO.out (.agg #[.int .i64 t, .int .i64 n', .bool b'])
      rw [hM] at e1
      cases e1
      exact ⟨X, e2, e3⟩
    have vc := block_keep H1.out kV (fun h => h)
    have vp := block_keep H2.out kV (fun h => h)
    have h4 := H4.out
    obtain ⟨X, hX⟩ : ∃ X : Int → Bool → Obj, ∀ (n' : Int) (b' : Bool), (∀ Y : World, Y.heap[m]? = some M → Sem.run Tryz.prog (Instr.mapUpdate 58 (.map (some m)) (.agg #[.int .i64 k, .int .i64 i, .int .u32 g]) (.agg #[.int .i64 t, .int .i64 n', .bool b'])) Y = .ok () (Go.ChangeMaps.setBlock Y m (X n' b'))) ∧ ∀ Y : World, Y.heap[m]? = some M → OM (Go.ChangeMaps.setBlock Y m (X n' b')) m (fun x => if x = (k, i, g) then some (.agg #[.int .i64 t, .int .i64 n', .bool b']) else q x) :=
      ⟨fun n' b' => Classical.choose (hX n' b'), fun n' b' => Classical.choose_spec (hX n' b')⟩
    have p1 := hM
    have p2 := fun n' b' => (hX n' b').1
    have p3 := fun n' b' => (hX n' b').2
    clear hX hM
    obtain ⟨b, hb⟩ : ∃ b, (z == 2) = b := ⟨_, rfl⟩
    have x0 := cell_at (i := 0) vT rfl
    have x1 := cell_at (i := 1) vT rfl
    have x2 := cell_at (i := 2) vT rfl
    have x3 := frozen_block vT 0
    have x4 := frozen_block vT 2
    have uT : (World.drew (World.setCell (World.setCell V ⟨W.heap.size + 1, 0, none⟩ (.int .i64 t)) ⟨W.heap.size + 1, 2, none⟩ (.bool b))).heap[W.heap.size + 1]? = some (.cells #[.int .i64 t, .int .i64 n, .bool b] 60) := drew_at (set_block (set_block vT 0 _) 2 _)
    have uB : (World.drew (World.setCell (World.setCell V ⟨W.heap.size + 1, 0, none⟩ (.int .i64 t)) ⟨W.heap.size + 1, 2, none⟩ (.bool b))).heap[W.heap.size]? = some (.cells #[.int .i64 t, .int .i64 k, .int .i64 i, .int .u32 g, .int .i64 y, .int .i64 z] 40) := drew_at (set_oth (set_oth vB q1) q1)
    have uc : (World.drew (World.setCell (World.setCell V ⟨W.heap.size + 1, 0, none⟩ (.int .i64 t)) ⟨W.heap.size + 1, 2, none⟩ (.bool b))).heap[c]? = some (.cells #[.map (some m)] 58) := drew_at (set_oth (set_oth vc q2) q2)
    have up : (World.drew (World.setCell (World.setCell V ⟨W.heap.size + 1, 0, none⟩ (.int .i64 t)) ⟨W.heap.size + 1, 2, none⟩ (.bool b))).heap[p]? = some (.cells cfg 28) := drew_at (set_oth (set_oth vp q3) q3)
    have um : (World.drew (World.setCell (World.setCell V ⟨W.heap.size + 1, 0, none⟩ (.int .i64 t)) ⟨W.heap.size + 1, 2, none⟩ (.bool b))).heap[m]? = some M := drew_at (set_oth (set_oth p1 q4) q4)
    have uk : Keeps (fun _ => False) W (World.drew (World.setCell (World.setCell V ⟨W.heap.size + 1, 0, none⟩ (.int .i64 t)) ⟨W.heap.size + 1, 2, none⟩ (.bool b))) := ((kV.setCell (p := ⟨W.heap.size + 1, 0, none⟩) (.inr (Nat.le_succ _)) _).setCell (p := ⟨W.heap.size + 1, 2, none⟩) (.inr (Nat.le_succ _)) _).drew
    have HU := hid (And.intro uT (And.intro uB (And.intro uc (And.intro up (And.intro um uk)))))
    clear uT uB uc up um uk vT vc vp kV p1
    go_region_held3 (fun Z => Z.cell? ⟨W.heap.size, 0, none⟩ = some (.int .i64 t) ∧ Z.cell? ⟨W.heap.size, 5, none⟩ = some (.int .i64 z))
      ((refine spS (k := k) (i := i) (g := g) (y := y) (tb := 40) ?_; (repeat (first | with_reducible assumption | with_reducible refine drew_at ?_ | with_reducible refine drewN_at ?_ | (with_reducible refine setO2 ?_ ?_; focus (first | assumption | (apply Ne.symm; assumption))))))) (fail)
    generalize World.drew (World.setCell (World.setCell V ⟨W.heap.size + 1, 0, none⟩ (.int .i64 t)) ⟨W.heap.size + 1, 2, none⟩ (.bool b)) = U at HU ⊢
    clear x0 x1 x2 x3 x4 vB
    cases b with
    | true =>
      have g1 := set_block HU.out.1 1 (.int .i64 (n + 1))
      have g2 := set_oth (a := ⟨W.heap.size + 1, 1, none⟩) (v := .int .i64 (n + 1)) HU.out.2.1 q1
      have g3 := set_oth (a := ⟨W.heap.size + 1, 1, none⟩) (v := .int .i64 (n + 1)) HU.out.2.2.1 q2
      have g4 := set_oth (a := ⟨W.heap.size + 1, 1, none⟩) (v := .int .i64 (n + 1)) HU.out.2.2.2.1 q3
      have g5 := set_oth (a := ⟨W.heap.size + 1, 1, none⟩) (v := .int .i64 (n + 1)) HU.out.2.2.2.2.1 q4
      have g6 := HU.out.2.2.2.2.2.setCell (p := ⟨W.heap.size + 1, 1, none⟩) (.inr (Nat.le_succ _)) (.int .i64 (n + 1))
      have u1 := cell_at (i := 1) HU.out.1 rfl
      have u2 := cell_at (i := 2) HU.out.1 rfl
      have u3 := frozen_block HU.out.1 1
      have yT0 : (World.setCell U ⟨W.heap.size + 1, 1, none⟩ (.int .i64 (n + 1))).cell? ⟨W.heap.size + 1, 0, none⟩ = some (.int .i64 t) := cell_at g1 rfl
      have yT1 : (World.setCell U ⟨W.heap.size + 1, 1, none⟩ (.int .i64 (n + 1))).cell? ⟨W.heap.size + 1, 1, none⟩ = some (.int .i64 (n + 1)) := cell_at g1 rfl
      have yT2 : (World.setCell U ⟨W.heap.size + 1, 1, none⟩ (.int .i64 (n + 1))).cell? ⟨W.heap.size + 1, 2, none⟩ = some (.bool true) := cell_at g1 rfl
      have yB1 := cell_at (i := 1) g2 rfl
      have yB2 := cell_at (i := 2) g2 rfl
      have yB3 := cell_at (i := 3) g2 rfl
      have yc := cell_at (i := 0) g3 rfl
      have r1 := p2 (n + 1) true _ g5
      have HF := hid (show SpI c p m base cap R (Go.ChangeMaps.setBlock (World.setCell U ⟨W.heap.size + 1, 1, none⟩ (.int .i64 (n + 1))) m (X (n + 1) true)) ∧ Keeps (fun y => y = m) W (Go.ChangeMaps.setBlock (World.setCell U ⟨W.heap.size + 1, 1, none⟩ (.int .i64 (n + 1))) m (X (n + 1) true)) from
        ⟨⟨setB_at g3 n1, ⟨cfg, setB_at g4 n2, h6, h7⟩, ⟨_, p3 (n + 1) true _ g5, fun x => by
          rw [← HR.out]
          by_cases e : x = (k, i, g)
          · have hz : z = 2 := by simpa using hb
            simp [e, hz, Tn.val]
          · simp only [if_neg e]; exact h4 x⟩, n1, n2⟩, (g6.up).trans (setB_keeps rfl)⟩)
      clear g1 g2 g3 g4 g5 g6 p2 p3
      go_wp2_with fail
      go_ret
      first | exact ⟨rfl, fun _ => HF.out.1, HF.out.2⟩ | exact ⟨rfl, HF.out.1, HF.out.2⟩
    | false =>
      have u1 := cell_at (i := 1) HU.out.1 rfl
      have u2 := cell_at (i := 2) HU.out.1 rfl
      have u0 := cell_at (i := 0) HU.out.1 rfl
      have yB1 := cell_at (i := 1) HU.out.2.1 rfl
      have yB2 := cell_at (i := 2) HU.out.2.1 rfl
      have yB3 := cell_at (i := 3) HU.out.2.1 rfl
      have yc := cell_at (i := 0) HU.out.2.2.1 rfl
      have r1 := p2 n false _ HU.out.2.2.2.2.1
      have HF := hid (show SpI c p m base cap R (Go.ChangeMaps.setBlock U m (X n false)) ∧ Keeps (fun y => y = m) W (Go.ChangeMaps.setBlock U m (X n false)) from
        ⟨⟨setB_at HU.out.2.2.1 n1, ⟨cfg, setB_at HU.out.2.2.2.1 n2, h6, h7⟩, ⟨_, p3 n false _ HU.out.2.2.2.2.1, fun x => by
          rw [← HR.out]
          by_cases e : x = (k, i, g)
          · have hz : ¬ z = 2 := by simpa using hb
            simp [e, hz, Tn.val]
          · simp only [if_neg e]; exact h4 x⟩, n1, n2⟩, (HU.out.2.2.2.2.2.up).trans (setB_keeps rfl)⟩)
      clear p2 p3
      go_wp2_with fail
      go_ret
      first | exact ⟨rfl, fun _ => HF.out.1, HF.out.2⟩ | exact ⟨rfl, HF.out.1, HF.out.2⟩
  | true =>
    rw [Bool.true_and] at hsp
    obtain ⟨R, hR⟩ : ∃ R : Ou → Tn, (fun x => if x = (k, i, g) then ⟨t, if z = 2 then n + 1 else n, z == 2⟩ else s x) = R := ⟨_, rfl⟩
    rw [hR] at hsp
    have HR := hid hR
    have k2 : Keeps (fun _ => False) W ((W.alloc (.cells #[.int .i64 t, .int .i64 k, .int .i64 i, .int .u32 g, .int .i64 y, .int .i64 z] 40)).alloc (.cells #[.int .i64 at', .int .i64 n, .bool true] 60)) := Keeps.r
    have dd7 := cell_at (i := 7) (block_keep H2.out k2 (fun h => h)) h6
    have dd8 := cell_at (i := 8) (block_keep H2.out k2 (fun h => h)) h7
    clear hR k2 hst
    by_cases h64 : 64 < n
    · rw [show min n 64 = 64 by omega] at hsp
      have HWT := hid (fun V => bwait 64 base cap V)
      cases hw : waitV base cap 64 with
      | none =>
        rw [hw] at hsp HWT
        dsimp only at hsp HWT
        rw [cond_true] at hsp
        rw [hsp]
        clear hsp hw HR
        go_enter Tryz.func21, Tryz.ntmps21
        go_wp2_with fail
        refine (HWT.out _).mono ?_
        rintro e V ⟨rfl, k1⟩
        have kV : Keeps (fun _ => False) W V := (Keeps.r (a := W)).trans k1
        have vB := block_keep (alloc_old (o := .cells #[.int .i64 at', .int .i64 n, .bool true] 60) (alloc_new (w := W) (o := .cells #[.int .i64 t, .int .i64 k, .int .i64 i, .int .u32 g, .int .i64 y, .int .i64 z] 40))) k1 (fun h => h)
        have vT := block_keep (alloc_new' (w := W.alloc (.cells #[.int .i64 t, .int .i64 k, .int .i64 i, .int .u32 g, .int .i64 y, .int .i64 z] 40)) (o := .cells #[.int .i64 at', .int .i64 n, .bool true] 60) (n := W.heap.size + 1) (by simp)) k1 (fun h => h)
        have tB := cell_at (i := 0) vB rfl
        have tT := cell_at (i := 0) vT rfl
        have KV := hid kV
        clear k1 kV vB vT
        go_wp2_with fail
        go_ret
        first | exact ⟨rfl, fun h => (by cases h), KV.out.up⟩ | exact ⟨rfl, KV.out.up⟩
      | some x =>
        obtain ⟨x1, x2⟩ := waitV_in hw
        rw [hw] at hsp HWT
        dsimp only at hsp HWT
        by_cases ht : t < at' + x
        · rw [show decide (t < at' + x) = true from decide_eq_true ht, cond_true] at hsp
          rw [hsp]
          clear hsp hw HR
          go_enter Tryz.func21, Tryz.ntmps21
          go_wp2_with fail
          refine (HWT.out _).mono ?_
          rintro e V ⟨rfl, k1⟩
          have kV : Keeps (fun _ => False) W V := (Keeps.r (a := W)).trans k1
          have vB := block_keep (alloc_old (o := .cells #[.int .i64 at', .int .i64 n, .bool true] 60) (alloc_new (w := W) (o := .cells #[.int .i64 t, .int .i64 k, .int .i64 i, .int .u32 g, .int .i64 y, .int .i64 z] 40))) k1 (fun h => h)
          have vT := block_keep (alloc_new' (w := W.alloc (.cells #[.int .i64 t, .int .i64 k, .int .i64 i, .int .u32 g, .int .i64 y, .int .i64 z] 40)) (o := .cells #[.int .i64 at', .int .i64 n, .bool true] 60) (n := W.heap.size + 1) (by simp)) k1 (fun h => h)
          have tB := cell_at (i := 0) vB rfl
          have tT := cell_at (i := 0) vT rfl
          have KV := hid kV
          clear k1 kV vB vT
          go_wp2_with fail
          go_ret
          first | exact ⟨rfl, fun h => (by cases h), KV.out.up⟩ | exact ⟨rfl, KV.out.up⟩
        · rw [show decide (t < at' + x) = false from decide_eq_false ht, cond_false] at hsp
          rw [hsp]
          clear hsp hw
          go_enter Tryz.func21, Tryz.ntmps21
          go_wp2_with fail
          refine (HWT.out _).mono ?_
          rintro e V ⟨rfl, k1⟩
          have kV : Keeps (fun _ => False) W V := (Keeps.r (a := W)).trans k1
          have vB := block_keep (alloc_old (o := .cells #[.int .i64 at', .int .i64 n, .bool true] 60) (alloc_new (w := W) (o := .cells #[.int .i64 t, .int .i64 k, .int .i64 i, .int .u32 g, .int .i64 y, .int .i64 z] 40))) k1 (fun h => h)
          have vT := block_keep (alloc_new' (w := W.alloc (.cells #[.int .i64 t, .int .i64 k, .int .i64 i, .int .u32 g, .int .i64 y, .int .i64 z] 40)) (o := .cells #[.int .i64 at', .int .i64 n, .bool true] 60) (n := W.heap.size + 1) (by simp)) k1 (fun h => h)
          have tB := cell_at (i := 0) vB rfl
          have tT := cell_at (i := 0) vT rfl
          clear k1
          have HV := hid (And.intro kV (And.intro vB vT))
          clear kV vB vT
          go_wp2_with fail
          obtain ⟨kV, vB, vT⟩ := HV.out
          clear hl c0 d7 d8 dd7 dd8 tB tT ht
          obtain ⟨M, hM⟩ : ∃ M, V.heap[m]? = some M := by
            obtain ⟨_, _, hM, _⟩ := HP.out V kV
            exact ⟨_, hM⟩
          have hX : ∀ (n' : Int) (b' : Bool), ∃ X, (∀ Y : World, Y.heap[m]? = some M → Sem.run Tryz.prog (Instr.mapUpdate 58 (.map (some m)) (.agg #[.int .i64 k, .int .i64 i, .int .u32 g]) (.agg #[.int .i64 t, .int .i64 n', .bool b'])) Y = .ok () (Go.ChangeMaps.setBlock Y m X)) ∧ ∀ Y : World, Y.heap[m]? = some M → OM (Go.ChangeMaps.setBlock Y m X) m (fun x => if x = (k, i, g) then some (.agg #[.int .i64 t, .int .i64 n', .bool b']) else q x) := by
            intro n' b'
            obtain ⟨M', X, e1, e2, e3⟩ := (HP.out V kV).put Tryz.underlying58 HO.out (.agg #[.int .i64 t, .int .i64 n', .bool b'])
            rw [hM] at e1
            cases e1
            exact ⟨X, e2, e3⟩
          have vc := block_keep H1.out kV (fun h => h)
          have vp := block_keep H2.out kV (fun h => h)
          have h4 := H4.out
          obtain ⟨X, hX⟩ : ∃ X : Int → Bool → Obj, ∀ (n' : Int) (b' : Bool), (∀ Y : World, Y.heap[m]? = some M → Sem.run Tryz.prog (Instr.mapUpdate 58 (.map (some m)) (.agg #[.int .i64 k, .int .i64 i, .int .u32 g]) (.agg #[.int .i64 t, .int .i64 n', .bool b'])) Y = .ok () (Go.ChangeMaps.setBlock Y m (X n' b'))) ∧ ∀ Y : World, Y.heap[m]? = some M → OM (Go.ChangeMaps.setBlock Y m (X n' b')) m (fun x => if x = (k, i, g) then some (.agg #[.int .i64 t, .int .i64 n', .bool b']) else q x) :=
            ⟨fun n' b' => Classical.choose (hX n' b'), fun n' b' => Classical.choose_spec (hX n' b')⟩
          have p1 := hM
          have p2 := fun n' b' => (hX n' b').1
          have p3 := fun n' b' => (hX n' b').2
          clear hX hM
          obtain ⟨b, hb⟩ : ∃ b, (z == 2) = b := ⟨_, rfl⟩
          have x0 := cell_at (i := 0) vT rfl
          have x1 := cell_at (i := 1) vT rfl
          have x2 := cell_at (i := 2) vT rfl
          have x3 := frozen_block vT 0
          have x4 := frozen_block vT 2
          have uT : (World.drew (World.setCell (World.setCell V ⟨W.heap.size + 1, 0, none⟩ (.int .i64 t)) ⟨W.heap.size + 1, 2, none⟩ (.bool b))).heap[W.heap.size + 1]? = some (.cells #[.int .i64 t, .int .i64 n, .bool b] 60) := drew_at (set_block (set_block vT 0 _) 2 _)
          have uB : (World.drew (World.setCell (World.setCell V ⟨W.heap.size + 1, 0, none⟩ (.int .i64 t)) ⟨W.heap.size + 1, 2, none⟩ (.bool b))).heap[W.heap.size]? = some (.cells #[.int .i64 t, .int .i64 k, .int .i64 i, .int .u32 g, .int .i64 y, .int .i64 z] 40) := drew_at (set_oth (set_oth vB q1) q1)
          have uc : (World.drew (World.setCell (World.setCell V ⟨W.heap.size + 1, 0, none⟩ (.int .i64 t)) ⟨W.heap.size + 1, 2, none⟩ (.bool b))).heap[c]? = some (.cells #[.map (some m)] 58) := drew_at (set_oth (set_oth vc q2) q2)
          have up : (World.drew (World.setCell (World.setCell V ⟨W.heap.size + 1, 0, none⟩ (.int .i64 t)) ⟨W.heap.size + 1, 2, none⟩ (.bool b))).heap[p]? = some (.cells cfg 28) := drew_at (set_oth (set_oth vp q3) q3)
          have um : (World.drew (World.setCell (World.setCell V ⟨W.heap.size + 1, 0, none⟩ (.int .i64 t)) ⟨W.heap.size + 1, 2, none⟩ (.bool b))).heap[m]? = some M := drew_at (set_oth (set_oth p1 q4) q4)
          have uk : Keeps (fun _ => False) W (World.drew (World.setCell (World.setCell V ⟨W.heap.size + 1, 0, none⟩ (.int .i64 t)) ⟨W.heap.size + 1, 2, none⟩ (.bool b))) := ((kV.setCell (p := ⟨W.heap.size + 1, 0, none⟩) (.inr (Nat.le_succ _)) _).setCell (p := ⟨W.heap.size + 1, 2, none⟩) (.inr (Nat.le_succ _)) _).drew
          have HU := hid (And.intro uT (And.intro uB (And.intro uc (And.intro up (And.intro um uk)))))
          clear uT uB uc up um uk vT vc vp kV p1
          go_region_held3 (fun Z => Z.cell? ⟨W.heap.size, 0, none⟩ = some (.int .i64 t) ∧ Z.cell? ⟨W.heap.size, 5, none⟩ = some (.int .i64 z))
            ((refine spS (k := k) (i := i) (g := g) (y := y) (tb := 40) ?_; (repeat (first | with_reducible assumption | with_reducible refine drew_at ?_ | with_reducible refine drewN_at ?_ | (with_reducible refine setO2 ?_ ?_; focus (first | assumption | (apply Ne.symm; assumption))))))) (fail)
          generalize World.drew (World.setCell (World.setCell V ⟨W.heap.size + 1, 0, none⟩ (.int .i64 t)) ⟨W.heap.size + 1, 2, none⟩ (.bool b)) = U at HU ⊢
          clear x0 x1 x2 x3 x4 vB
          cases b with
          | true =>
            have g1 := set_block HU.out.1 1 (.int .i64 (n + 1))
            have g2 := set_oth (a := ⟨W.heap.size + 1, 1, none⟩) (v := .int .i64 (n + 1)) HU.out.2.1 q1
            have g3 := set_oth (a := ⟨W.heap.size + 1, 1, none⟩) (v := .int .i64 (n + 1)) HU.out.2.2.1 q2
            have g4 := set_oth (a := ⟨W.heap.size + 1, 1, none⟩) (v := .int .i64 (n + 1)) HU.out.2.2.2.1 q3
            have g5 := set_oth (a := ⟨W.heap.size + 1, 1, none⟩) (v := .int .i64 (n + 1)) HU.out.2.2.2.2.1 q4
            have g6 := HU.out.2.2.2.2.2.setCell (p := ⟨W.heap.size + 1, 1, none⟩) (.inr (Nat.le_succ _)) (.int .i64 (n + 1))
            have u1 := cell_at (i := 1) HU.out.1 rfl
            have u2 := cell_at (i := 2) HU.out.1 rfl
            have u3 := frozen_block HU.out.1 1
            have yT0 : (World.setCell U ⟨W.heap.size + 1, 1, none⟩ (.int .i64 (n + 1))).cell? ⟨W.heap.size + 1, 0, none⟩ = some (.int .i64 t) := cell_at g1 rfl
            have yT1 : (World.setCell U ⟨W.heap.size + 1, 1, none⟩ (.int .i64 (n + 1))).cell? ⟨W.heap.size + 1, 1, none⟩ = some (.int .i64 (n + 1)) := cell_at g1 rfl
            have yT2 : (World.setCell U ⟨W.heap.size + 1, 1, none⟩ (.int .i64 (n + 1))).cell? ⟨W.heap.size + 1, 2, none⟩ = some (.bool true) := cell_at g1 rfl
            have yB1 := cell_at (i := 1) g2 rfl
            have yB2 := cell_at (i := 2) g2 rfl
            have yB3 := cell_at (i := 3) g2 rfl
            have yc := cell_at (i := 0) g3 rfl
            have r1 := p2 (n + 1) true _ g5
            have HF := hid (show SpI c p m base cap R (Go.ChangeMaps.setBlock (World.setCell U ⟨W.heap.size + 1, 1, none⟩ (.int .i64 (n + 1))) m (X (n + 1) true)) ∧ Keeps (fun y => y = m) W (Go.ChangeMaps.setBlock (World.setCell U ⟨W.heap.size + 1, 1, none⟩ (.int .i64 (n + 1))) m (X (n + 1) true)) from
              ⟨⟨setB_at g3 n1, ⟨cfg, setB_at g4 n2, h6, h7⟩, ⟨_, p3 (n + 1) true _ g5, fun x => by
                rw [← HR.out]
                by_cases e : x = (k, i, g)
                · have hz : z = 2 := by simpa using hb
                  simp [e, hz, Tn.val]
                · simp only [if_neg e]; exact h4 x⟩, n1, n2⟩, (g6.up).trans (setB_keeps rfl)⟩)
            clear g1 g2 g3 g4 g5 g6 p2 p3
            go_wp2_with fail
            go_ret
            first | exact ⟨rfl, fun _ => HF.out.1, HF.out.2⟩ | exact ⟨rfl, HF.out.1, HF.out.2⟩
          | false =>
            have u1 := cell_at (i := 1) HU.out.1 rfl
            have u2 := cell_at (i := 2) HU.out.1 rfl
            have u0 := cell_at (i := 0) HU.out.1 rfl
            have yB1 := cell_at (i := 1) HU.out.2.1 rfl
            have yB2 := cell_at (i := 2) HU.out.2.1 rfl
            have yB3 := cell_at (i := 3) HU.out.2.1 rfl
            have yc := cell_at (i := 0) HU.out.2.2.1 rfl
            have r1 := p2 n false _ HU.out.2.2.2.2.1
            have HF := hid (show SpI c p m base cap R (Go.ChangeMaps.setBlock U m (X n false)) ∧ Keeps (fun y => y = m) W (Go.ChangeMaps.setBlock U m (X n false)) from
              ⟨⟨setB_at HU.out.2.2.1 n1, ⟨cfg, setB_at HU.out.2.2.2.1 n2, h6, h7⟩, ⟨_, p3 n false _ HU.out.2.2.2.2.1, fun x => by
                rw [← HR.out]
                by_cases e : x = (k, i, g)
                · have hz : ¬ z = 2 := by simpa using hb
                  simp [e, hz, Tn.val]
                · simp only [if_neg e]; exact h4 x⟩, n1, n2⟩, (HU.out.2.2.2.2.2.up).trans (setB_keeps rfl)⟩)
            clear p2 p3
            go_wp2_with fail
            go_ret
            first | exact ⟨rfl, fun _ => HF.out.1, HF.out.2⟩ | exact ⟨rfl, HF.out.1, HF.out.2⟩
    · rw [show min n 64 = n by omega] at hsp
      have HWT := hid (fun V => bwait n base cap V)
      cases hw : waitV base cap n with
      | none =>
        rw [hw] at hsp HWT
        dsimp only at hsp HWT
        rw [cond_true] at hsp
        rw [hsp]
        clear hsp hw HR
        go_enter Tryz.func21, Tryz.ntmps21
        go_wp2_with fail
        refine (HWT.out _).mono ?_
        rintro e V ⟨rfl, k1⟩
        have kV : Keeps (fun _ => False) W V := (Keeps.r (a := W)).trans k1
        have vB := block_keep (alloc_old (o := .cells #[.int .i64 at', .int .i64 n, .bool true] 60) (alloc_new (w := W) (o := .cells #[.int .i64 t, .int .i64 k, .int .i64 i, .int .u32 g, .int .i64 y, .int .i64 z] 40))) k1 (fun h => h)
        have vT := block_keep (alloc_new' (w := W.alloc (.cells #[.int .i64 t, .int .i64 k, .int .i64 i, .int .u32 g, .int .i64 y, .int .i64 z] 40)) (o := .cells #[.int .i64 at', .int .i64 n, .bool true] 60) (n := W.heap.size + 1) (by simp)) k1 (fun h => h)
        have tB := cell_at (i := 0) vB rfl
        have tT := cell_at (i := 0) vT rfl
        have KV := hid kV
        clear k1 kV vB vT
        go_wp2_with fail
        go_ret
        first | exact ⟨rfl, fun h => (by cases h), KV.out.up⟩ | exact ⟨rfl, KV.out.up⟩
      | some x =>
        obtain ⟨x1, x2⟩ := waitV_in hw
        rw [hw] at hsp HWT
        dsimp only at hsp HWT
        by_cases ht : t < at' + x
        · rw [show decide (t < at' + x) = true from decide_eq_true ht, cond_true] at hsp
          rw [hsp]
          clear hsp hw HR
          go_enter Tryz.func21, Tryz.ntmps21
          go_wp2_with fail
          refine (HWT.out _).mono ?_
          rintro e V ⟨rfl, k1⟩
          have kV : Keeps (fun _ => False) W V := (Keeps.r (a := W)).trans k1
          have vB := block_keep (alloc_old (o := .cells #[.int .i64 at', .int .i64 n, .bool true] 60) (alloc_new (w := W) (o := .cells #[.int .i64 t, .int .i64 k, .int .i64 i, .int .u32 g, .int .i64 y, .int .i64 z] 40))) k1 (fun h => h)
          have vT := block_keep (alloc_new' (w := W.alloc (.cells #[.int .i64 t, .int .i64 k, .int .i64 i, .int .u32 g, .int .i64 y, .int .i64 z] 40)) (o := .cells #[.int .i64 at', .int .i64 n, .bool true] 60) (n := W.heap.size + 1) (by simp)) k1 (fun h => h)
          have tB := cell_at (i := 0) vB rfl
          have tT := cell_at (i := 0) vT rfl
          have KV := hid kV
          clear k1 kV vB vT
          go_wp2_with fail
          go_ret
          first | exact ⟨rfl, fun h => (by cases h), KV.out.up⟩ | exact ⟨rfl, KV.out.up⟩
        · rw [show decide (t < at' + x) = false from decide_eq_false ht, cond_false] at hsp
          rw [hsp]
          clear hsp hw
          go_enter Tryz.func21, Tryz.ntmps21
          go_wp2_with fail
          refine (HWT.out _).mono ?_
          rintro e V ⟨rfl, k1⟩
          have kV : Keeps (fun _ => False) W V := (Keeps.r (a := W)).trans k1
          have vB := block_keep (alloc_old (o := .cells #[.int .i64 at', .int .i64 n, .bool true] 60) (alloc_new (w := W) (o := .cells #[.int .i64 t, .int .i64 k, .int .i64 i, .int .u32 g, .int .i64 y, .int .i64 z] 40))) k1 (fun h => h)
          have vT := block_keep (alloc_new' (w := W.alloc (.cells #[.int .i64 t, .int .i64 k, .int .i64 i, .int .u32 g, .int .i64 y, .int .i64 z] 40)) (o := .cells #[.int .i64 at', .int .i64 n, .bool true] 60) (n := W.heap.size + 1) (by simp)) k1 (fun h => h)
          have tB := cell_at (i := 0) vB rfl
          have tT := cell_at (i := 0) vT rfl
          clear k1
          have HV := hid (And.intro kV (And.intro vB vT))
          clear kV vB vT
          go_wp2_with fail
          obtain ⟨kV, vB, vT⟩ := HV.out
          clear hl c0 d7 d8 dd7 dd8 tB tT ht
          obtain ⟨M, hM⟩ : ∃ M, V.heap[m]? = some M := by
            obtain ⟨_, _, hM, _⟩ := HP.out V kV
            exact ⟨_, hM⟩
          have hX : ∀ (n' : Int) (b' : Bool), ∃ X, (∀ Y : World, Y.heap[m]? = some M → Sem.run Tryz.prog (Instr.mapUpdate 58 (.map (some m)) (.agg #[.int .i64 k, .int .i64 i, .int .u32 g]) (.agg #[.int .i64 t, .int .i64 n', .bool b'])) Y = .ok () (Go.ChangeMaps.setBlock Y m X)) ∧ ∀ Y : World, Y.heap[m]? = some M → OM (Go.ChangeMaps.setBlock Y m X) m (fun x => if x = (k, i, g) then some (.agg #[.int .i64 t, .int .i64 n', .bool b']) else q x) := by
            intro n' b'
            obtain ⟨M', X, e1, e2, e3⟩ := (HP.out V kV).put Tryz.underlying58 HO.out (.agg #[.int .i64 t, .int .i64 n', .bool b'])
            rw [hM] at e1
            cases e1
            exact ⟨X, e2, e3⟩
          have vc := block_keep H1.out kV (fun h => h)
          have vp := block_keep H2.out kV (fun h => h)
          have h4 := H4.out
          obtain ⟨X, hX⟩ : ∃ X : Int → Bool → Obj, ∀ (n' : Int) (b' : Bool), (∀ Y : World, Y.heap[m]? = some M → Sem.run Tryz.prog (Instr.mapUpdate 58 (.map (some m)) (.agg #[.int .i64 k, .int .i64 i, .int .u32 g]) (.agg #[.int .i64 t, .int .i64 n', .bool b'])) Y = .ok () (Go.ChangeMaps.setBlock Y m (X n' b'))) ∧ ∀ Y : World, Y.heap[m]? = some M → OM (Go.ChangeMaps.setBlock Y m (X n' b')) m (fun x => if x = (k, i, g) then some (.agg #[.int .i64 t, .int .i64 n', .bool b']) else q x) :=
            ⟨fun n' b' => Classical.choose (hX n' b'), fun n' b' => Classical.choose_spec (hX n' b')⟩
          have p1 := hM
          have p2 := fun n' b' => (hX n' b').1
          have p3 := fun n' b' => (hX n' b').2
          clear hX hM
          obtain ⟨b, hb⟩ : ∃ b, (z == 2) = b := ⟨_, rfl⟩
          have x0 := cell_at (i := 0) vT rfl
          have x1 := cell_at (i := 1) vT rfl
          have x2 := cell_at (i := 2) vT rfl
          have x3 := frozen_block vT 0
          have x4 := frozen_block vT 2
          have uT : (World.drew (World.setCell (World.setCell V ⟨W.heap.size + 1, 0, none⟩ (.int .i64 t)) ⟨W.heap.size + 1, 2, none⟩ (.bool b))).heap[W.heap.size + 1]? = some (.cells #[.int .i64 t, .int .i64 n, .bool b] 60) := drew_at (set_block (set_block vT 0 _) 2 _)
          have uB : (World.drew (World.setCell (World.setCell V ⟨W.heap.size + 1, 0, none⟩ (.int .i64 t)) ⟨W.heap.size + 1, 2, none⟩ (.bool b))).heap[W.heap.size]? = some (.cells #[.int .i64 t, .int .i64 k, .int .i64 i, .int .u32 g, .int .i64 y, .int .i64 z] 40) := drew_at (set_oth (set_oth vB q1) q1)
          have uc : (World.drew (World.setCell (World.setCell V ⟨W.heap.size + 1, 0, none⟩ (.int .i64 t)) ⟨W.heap.size + 1, 2, none⟩ (.bool b))).heap[c]? = some (.cells #[.map (some m)] 58) := drew_at (set_oth (set_oth vc q2) q2)
          have up : (World.drew (World.setCell (World.setCell V ⟨W.heap.size + 1, 0, none⟩ (.int .i64 t)) ⟨W.heap.size + 1, 2, none⟩ (.bool b))).heap[p]? = some (.cells cfg 28) := drew_at (set_oth (set_oth vp q3) q3)
          have um : (World.drew (World.setCell (World.setCell V ⟨W.heap.size + 1, 0, none⟩ (.int .i64 t)) ⟨W.heap.size + 1, 2, none⟩ (.bool b))).heap[m]? = some M := drew_at (set_oth (set_oth p1 q4) q4)
          have uk : Keeps (fun _ => False) W (World.drew (World.setCell (World.setCell V ⟨W.heap.size + 1, 0, none⟩ (.int .i64 t)) ⟨W.heap.size + 1, 2, none⟩ (.bool b))) := ((kV.setCell (p := ⟨W.heap.size + 1, 0, none⟩) (.inr (Nat.le_succ _)) _).setCell (p := ⟨W.heap.size + 1, 2, none⟩) (.inr (Nat.le_succ _)) _).drew
          have HU := hid (And.intro uT (And.intro uB (And.intro uc (And.intro up (And.intro um uk)))))
          clear uT uB uc up um uk vT vc vp kV p1
          go_region_held3 (fun Z => Z.cell? ⟨W.heap.size, 0, none⟩ = some (.int .i64 t) ∧ Z.cell? ⟨W.heap.size, 5, none⟩ = some (.int .i64 z))
            ((refine spS (k := k) (i := i) (g := g) (y := y) (tb := 40) ?_; (repeat (first | with_reducible assumption | with_reducible refine drew_at ?_ | with_reducible refine drewN_at ?_ | (with_reducible refine setO2 ?_ ?_; focus (first | assumption | (apply Ne.symm; assumption))))))) (fail)
          generalize World.drew (World.setCell (World.setCell V ⟨W.heap.size + 1, 0, none⟩ (.int .i64 t)) ⟨W.heap.size + 1, 2, none⟩ (.bool b)) = U at HU ⊢
          clear x0 x1 x2 x3 x4 vB
          cases b with
          | true =>
            have g1 := set_block HU.out.1 1 (.int .i64 (n + 1))
            have g2 := set_oth (a := ⟨W.heap.size + 1, 1, none⟩) (v := .int .i64 (n + 1)) HU.out.2.1 q1
            have g3 := set_oth (a := ⟨W.heap.size + 1, 1, none⟩) (v := .int .i64 (n + 1)) HU.out.2.2.1 q2
            have g4 := set_oth (a := ⟨W.heap.size + 1, 1, none⟩) (v := .int .i64 (n + 1)) HU.out.2.2.2.1 q3
            have g5 := set_oth (a := ⟨W.heap.size + 1, 1, none⟩) (v := .int .i64 (n + 1)) HU.out.2.2.2.2.1 q4
            have g6 := HU.out.2.2.2.2.2.setCell (p := ⟨W.heap.size + 1, 1, none⟩) (.inr (Nat.le_succ _)) (.int .i64 (n + 1))
            have u1 := cell_at (i := 1) HU.out.1 rfl
            have u2 := cell_at (i := 2) HU.out.1 rfl
            have u3 := frozen_block HU.out.1 1
            have yT0 : (World.setCell U ⟨W.heap.size + 1, 1, none⟩ (.int .i64 (n + 1))).cell? ⟨W.heap.size + 1, 0, none⟩ = some (.int .i64 t) := cell_at g1 rfl
            have yT1 : (World.setCell U ⟨W.heap.size + 1, 1, none⟩ (.int .i64 (n + 1))).cell? ⟨W.heap.size + 1, 1, none⟩ = some (.int .i64 (n + 1)) := cell_at g1 rfl
            have yT2 : (World.setCell U ⟨W.heap.size + 1, 1, none⟩ (.int .i64 (n + 1))).cell? ⟨W.heap.size + 1, 2, none⟩ = some (.bool true) := cell_at g1 rfl
            have yB1 := cell_at (i := 1) g2 rfl
            have yB2 := cell_at (i := 2) g2 rfl
            have yB3 := cell_at (i := 3) g2 rfl
            have yc := cell_at (i := 0) g3 rfl
            have r1 := p2 (n + 1) true _ g5
            have HF := hid (show SpI c p m base cap R (Go.ChangeMaps.setBlock (World.setCell U ⟨W.heap.size + 1, 1, none⟩ (.int .i64 (n + 1))) m (X (n + 1) true)) ∧ Keeps (fun y => y = m) W (Go.ChangeMaps.setBlock (World.setCell U ⟨W.heap.size + 1, 1, none⟩ (.int .i64 (n + 1))) m (X (n + 1) true)) from
              ⟨⟨setB_at g3 n1, ⟨cfg, setB_at g4 n2, h6, h7⟩, ⟨_, p3 (n + 1) true _ g5, fun x => by
                rw [← HR.out]
                by_cases e : x = (k, i, g)
                · have hz : z = 2 := by simpa using hb
                  simp [e, hz, Tn.val]
                · simp only [if_neg e]; exact h4 x⟩, n1, n2⟩, (g6.up).trans (setB_keeps rfl)⟩)
            clear g1 g2 g3 g4 g5 g6 p2 p3
            go_wp2_with fail
            go_ret
            first | exact ⟨rfl, fun _ => HF.out.1, HF.out.2⟩ | exact ⟨rfl, HF.out.1, HF.out.2⟩
          | false =>
            have u1 := cell_at (i := 1) HU.out.1 rfl
            have u2 := cell_at (i := 2) HU.out.1 rfl
            have u0 := cell_at (i := 0) HU.out.1 rfl
            have yB1 := cell_at (i := 1) HU.out.2.1 rfl
            have yB2 := cell_at (i := 2) HU.out.2.1 rfl
            have yB3 := cell_at (i := 3) HU.out.2.1 rfl
            have yc := cell_at (i := 0) HU.out.2.2.1 rfl
            have r1 := p2 n false _ HU.out.2.2.2.2.1
            have HF := hid (show SpI c p m base cap R (Go.ChangeMaps.setBlock U m (X n false)) ∧ Keeps (fun y => y = m) W (Go.ChangeMaps.setBlock U m (X n false)) from
              ⟨⟨setB_at HU.out.2.2.1 n1, ⟨cfg, setB_at HU.out.2.2.2.1 n2, h6, h7⟩, ⟨_, p3 n false _ HU.out.2.2.2.2.1, fun x => by
                rw [← HR.out]
                by_cases e : x = (k, i, g)
                · have hz : ¬ z = 2 := by simpa using hb
                  simp [e, hz, Tn.val]
                · simp only [if_neg e]; exact h4 x⟩, n1, n2⟩, (HU.out.2.2.2.2.2.up).trans (setB_keeps rfl)⟩)
            clear p2 p3
            go_wp2_with fail
            go_ret
            first | exact ⟨rfl, fun _ => HF.out.1, HF.out.2⟩ | exact ⟨rfl, HF.out.1, HF.out.2⟩
end Go.Proofs.YtcagogkgnnckaaaGreatDoor
