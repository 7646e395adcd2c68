/- Maps with names as keys. -/
import Derived.Test.YtiopnedplnoleaaGreatMgC
import Derived.Test.YtiopnedplnoleaaGreatCgA
import Derived.Maps.OwnOps
import Derived.DeepKeys4
namespace Go.Proofs.YtiopnedplnoleaaGreat
open Go.RowKit
open Go.Maps (Keyed)

theorem ref_row : (37 : TypeId) < Tryz.prog.types.size := of_decide_eq_true (by kernel_rfl)
theorem ref_wide : (match Tryz.prog.underlying 37 with | some (.array _ _) | some (.struct _) => true | _ => false) = true := by rw [Tryz.underlying37]
set_option maxRecDepth 100000 in
theorem ref_law : Keyed Tryz.prog 37 := Keyed.of_law (deep_law_laid Tryz.laidOut (m := 2) (by omega) ref_row (by kernel_rfl) ref_wide)
theorem ref_cells : Tryz.prog.cellsOf 37 = 2 := by kernel_rfl
theorem ref_formed {c0 c1 : Value} : (Value.agg #[c0, c1]).formed Tryz.prog 37 = true := by simp [Value.formed, Tryz.underlying37, ref_cells]
theorem ref_keytype : Tryz.prog.keyType 37 = true := by kernel_rfl

theorem size_pos {P : Program} {k : TypeId} (h : k < P.types.size) : ∃ d, P.types.size = d + 1 := ⟨_, (Nat.sub_add_cancel (Nat.lt_of_le_of_lt (Nat.zero_le _) h)).symm⟩
theorem keyLits_int {P : Program} {t : TypeId} {q : IntKind} (h : P.underlying t = some (.int q)) (d : Nat) {n : Int} (hw : (Lit.int q n).wf = true) : P.keyLits (d + 1) t [.int q n] = some [.int q n] := by
  simp [Program.keyLits, h, hw]

theorem ref_key {s g : Int} (hs : (Lit.int .i64 s).wf = true) (hg : (Lit.int .u32 g).wf = true) : ∃ kl, keyOf Tryz.prog 37 (.agg #[.int .i64 s, .int .u32 g]) = some kl := by
  have h1 : Tryz.prog.cellsOf 3 = 1 := by kernel_rfl
  have h2 : Tryz.prog.cellsOf 31 = 1 := by kernel_rfl
  obtain ⟨d, hd⟩ : ∃ d, Tryz.prog.types.size = d + 1 := size_pos ref_row
  have k1 := fun d => keyLits_int (P := Tryz.prog) Tryz.underlying3 d hs
  have k2 := fun d => keyLits_int (P := Tryz.prog) Tryz.underlying31 d hg
  apply Option.isSome_iff_exists.1
  unfold keyOf
  rw [Tryz.underlying37]
  simp only [ref_keytype, ref_formed, Bool.and_self, if_true]
  rw [hd]
  unfold Program.keyLits
  rw [Tryz.underlying37]
  simp [Value.cells, ref_cells, h1, h2, k1, k2]

end Go.Proofs.YtiopnedplnoleaaGreat
