/- estraylaw25: there, reached. -/
import Derived.Test.YtiopnedplnoleaaGreatKpA
import Derived.Test.YtiopnedplnoleaaGreatApR
namespace Go.Proofs.YtiopnedplnoleaaGreat
open Go.RowKit
set_option linter.unusedVariables false
set_option linter.unusedSimpArgs false

set_option maxRecDepth 100000 in
theorem there25 (a : Nat) (LA : ArL) (A : Ar) (v : Value) (l : List Rf) (w : World) (h : ArIn w a LA A) (hv : Refs w v l) (hl : l.length ≤ 65536) (ht : ∀ r ∈ l, There A.H r) :
    Calls Tryz.prog 67 #[.pointer (some ⟨a, 0, none⟩), v] w fun e w' => e = .returned (.bool true) ∧ Keeps (fun _ => False) w w' := by
  have HHP := hid (aheap_ok a LA A w h)
  obtain ⟨p, c, rfl⟩ := hv.slice
  have HV := hid (fun W (hk : Keeps (fun _ => False) w W) => (hv.keeps hk (fun _ _ h => h)).cell.2)
  have HT := hid ht
  obtain ⟨n, hn⟩ : ∃ n, l.length = n := ⟨_, rfl⟩
  rw [hn] at hl ⊢
  clear h hv ht
  go_enter Tryz.func67, Tryz.ntmps67
  go_wp2_with fail
  refine HHP.out.mono ?_
  rintro e w1 ⟨b, t, rfl, k1, _, _, hh1⟩
  have HK1 := hid k1; have HH1 := hid hh1
  clear k1 hh1
  go_wp2_with fail
  go_loopw [12] (fun ix wr => ∃ k : Nat, k ≤ n ∧ ix = .int .i64 k ∧ Keeps (fun _ => False) w1 wr) (fun ix _ => n - (intOf ix).toNat)
  case atStart => exact ⟨0, Nat.zero_le _, rfl, Keeps.refl _ _⟩
  case round =>
    obtain ⟨k, hk, rfl, hkr⟩ := hrel
    have HKR := hid hkr
    by_cases hlt : k < n
    · obtain ⟨x, hx⟩ : ∃ x, l[k]? = some x := ⟨_, List.getElem?_eq_getElem (by omega)⟩
      obtain ⟨g, rfl, hg, c0, c1⟩ := HV.out wr (HK1.out.trans hkr) k x hx
      have HHS := hid (fun W (hk : Keeps (fun _ => False) wr W) => hhas_any b t A.H x.s x.g W ((HH1.out.keeps HKR.out (fun h => h) (fun h => h)).keeps hk (fun h => h) (fun h => h)))
      rw [show (ckV A.H.T x.s x.g == 0) = true by have := HT.out x (List.mem_of_getElem? hx); unfold There at this; simpa using this] at HHS
      have hlt' : (k : Int) < (n : Int) := by omega
      have hk0 : (0 : Int) ≤ k := by omega
      clear hkr hx
      go_wp2_with fail
      refine (HHS.out _ ((Keeps.refl _ _).alloc _)).mono ?_
      rintro e w2 ⟨rfl, k2⟩
      have HK2 := hid (((Keeps.refl (fun _ => False) wr).alloc _).trans k2)
      clear k2
      go_wp2_with fail
      exact ⟨⟨k + 1, by omega, by go_num, HKR.out.trans HK2.out⟩, by simp [intOf]; omega⟩
    · have hlt' : ¬ (k : Int) < (n : Int) := by omega
      clear hkr
      go_wp2_with fail
      go_ret
      exact ⟨rfl, HK1.out.trans HKR.out⟩

/-- a map from names to numbers -/
def NMap (w : World) (b n : Nat) : Prop := ∃ D, w.ownsMap (H := Unit) Tryz.prog 37 (plainElem Tryz.prog 3) b n D
theorem NMap.keeps {w w' : World} {b n : Nat} {S : Nat → Prop} (h : NMap w b n) (hk : Keeps S w w') (hS : ¬ S b) : NMap w' b n := by
  obtain ⟨D, es, clock, h1, h2⟩ := h
  exact ⟨D, es, clock, block_keep h1 hk hS, h2⟩
theorem NMap.made (w : World) : NMap (w.alloc (.map #[] 0)) w.heap.size 0 := ⟨_, World.ownsMap_made _ _ _ _⟩

/-- what is gathered: names that can be reached -/
def Gath (A : Ar) (l : List Rf) : Prop := ∀ r ∈ l, Rch A r

theorem Gath.append {A : Ar} {l m : List Rf} (h : Gath A l) (k : Gath A m) : Gath A (l ++ m) := by
  intro r hr
  rcases List.mem_append.1 hr with hr | hr
  · exact h r hr
  · exact k r hr
theorem gath_gl (A : Ar) : Gath A A.glL := by
  intro r hr
  obtain ⟨h1, h2⟩ := List.mem_filter.1 hr
  obtain ⟨i, hi, rfl⟩ := List.mem_map.1 h1
  exact .var (List.mem_range.1 hi) h2
theorem gath_rt (A : Ar) {m : Nat} (hm : m < A.many) : Gath A (A.rt m).l := by
  intro r hr
  obtain ⟨i, hi, rfl⟩ := List.mem_map.1 hr
  exact .root hm (List.mem_range.1 hi)

end Go.Proofs.YtiopnedplnoleaaGreat
