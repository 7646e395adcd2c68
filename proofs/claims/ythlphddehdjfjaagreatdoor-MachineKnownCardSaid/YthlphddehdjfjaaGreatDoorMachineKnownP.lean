/- The statement 'Rows.MachineKnownCardSaid': for every input MachineKnown returns true, and its arguments read afterwards as before. The variable that the row lists is not read: no premise on it is used. No condition. -/
import Derived.Test.YthlphddehdjfjaaGreatDoorCards
import Derived.Test.YthlphddehdjfjaaGreatDoorTie
import Derived.Test.YthlphddehdjfjaaGreatDoorPfL
import Derived.Test.YthlphddehdjfjaaGreatDoorCl4
import Derived.Test.YthlphddehdjfjaaGreatDoorEwKtA
import Derived.Test.YthlphddehdjfjaaGreatDoorEwKtB
import Derived.Test.YthlphddehdjfjaaGreatDoorEwKtC
import Derived.Test.YthlphddehdjfjaaGreatDoorEwKtD
import Derived.Test.YthlphddehdjfjaaGreatDoorEwKtE
import Derived.Test.YthlphddehdjfjaaGreatDoorEwKtF
import Derived.Test.YthlphddehdjfjaaGreatDoorEwKtG
import Derived.Test.YthlphddehdjfjaaGreatDoorEwKtH
import Derived.Test.YthlphddehdjfjaaGreatDoorEwKtI
import Derived.Test.YthlphddehdjfjaaGreatDoorEwKtJ
import Derived.Test.YthlphddehdjfjaaGreatDoorEwKu
import Derived.Test.YthlphddehdjfjaaGreatDoorEwWk
import Derived.WalkKit
import Derived.ProofKit
import Derived.OpenShut
import Derived.Deep.DeepHandedRow
import Derived.Lib.LaidTab
import Derived.SevenTiedAt
namespace Go.Proofs.YthlphddehdjfjaaGreatDoor
open Go.Proofs Go.RowKit
set_option maxRecDepth 100000
theorem knW_ok' : KnOk Tryz.prog 1 (knT 32) := knT_ok ⟨Tryz.f32, _, rfl⟩ works40
theorem endK : trueB Tryz.prog Tryz.f4.results.toList (evC Tryz.prog 1 kp0 389 (knT 32) 100000 none Tryz.f4.ntmps (kmA kp0 4) (grS cB) ps1xend) = true := by kernel_rfl
theorem bodyK_ok : CodeOk Tryz.prog Tryz.f4.ntmps (kmA kp0 4) bodyK ⟨⟨[], .e⟩, .e, 1, []⟩ (TrueEnd Tryz.prog Tryz.f4.results.toList) := by
  have hD : Drawn Tryz.prog 1 := drawn_ok mixed
  obtain ⟨s, g, q⟩ := last_goes ktl
  obtain ⟨s', g', q'⟩ := last_goes kul
  have G0 := part kt0 (part kt1 (part kt2 (part kt3 (part kt4 (part kt5 (part kt6 (part kt7 (part kt8 (part kt9 (part kt10 (part kt11 (part kt12 (part kt13 (part kt14 (part kt15 (part kt16 (part kt17 (part kt18 (part kt19 (part kt20 g))))))))))))))))))))
  have G1 := part ku0 (part ku1 (part ku2 (part ku3 (part ku4 g'))))
  refine group_ok hD (kn0 _ _) (kn0 _ _) clones cA_eq pre0 G0 (CodeOk.less ?_ q)
  have h2 : CodeOk Tryz.prog Tryz.f4.ntmps (kmA kp0 4) (grS cB) s' (TrueEnd Tryz.prog Tryz.f4.results.toList) := CodeOk.less (trueB_ok hD knW_ok' clones endK) q'
  exact group_ok hD (kn0 _ _) knT1_ok clones cB_eq pre1 G1 h2
theorem machineKnown_walk (w : World) : CallsIn Wd 0 Tryz.prog 4 #[] w fun e w' => e = .returned (.bool true) ∧ Keeps (fun _ => False) w w' :=
  closed_pieces (c := bodyK) (fn := Tryz.f4) rfl bodyK_ok w
end Go.Proofs.YthlphddehdjfjaaGreatDoor
namespace Go.Proofs.YthlphddehdjfjaaGreatDoor.machineKnown
open Go.ChangeShapes Go.WideShapes Go.ChangeAt Go.RowKit Go.Proofs

theorem own : ownKnob Tryz.prog.godebug = none := by kernel_rfl
set_option maxRecDepth 100000 in
/-- WHAT THE WALK GIVES, FOR EVERY ARGUMENT AND EVERY WORLD. -/
theorem contract (H : Type) (enc : TypeId × Value → H) (W : World) (base : Nat) (args : Array Value) (ds gs : List (DataW H)) (before : List MemPlace)
    (hval : ∀ (j : Nat) t v, Tryz.f4.params[j]? = some t → args[j]? = some v → Value.okWide Tryz.prog W .any base t v)
    (hW : DataW.Whole enc Tryz.prog Tryz.f4.params.toList Rows.machineKnownSpec.vars false W args.toList ds gs before) :
    Calls Tryz.prog 4 args W fun e W' => ∃ v, e = .returned v ∧ Rows.machineKnownSpec.post enc Tryz.prog Tryz.f4 false true false false W args v W' := by
  have hW' := hW
  obtain ⟨p, q, hA0, hV, rfl, hfz, hnd⟩ := hW
  have hA : DataW.TrodAll enc Tryz.prog W 0 (fun _ => true) true Tryz.f4.params.toList args.toList ds p := hA0
  rw [Tryz.params4] at hA hval
  obtain ⟨hargs, rfl, rfl⟩ := trodAll_nil hA
  obtain rfl : args = #[] := by cases args; simp_all
  obtain ⟨rfl, rfl⟩ := trodVars_none hV
  clear hA0

  refine (callsIn_wide.1 (machineKnown_walk  W)).mono fun e W' ⟨he, hg⟩ => ?_
  subst he
  exact ⟨_, rfl, law_post Tryz.laidOut (of_decide_eq_true (by kernel_rfl)) rfl rfl Tryz.underlying4 ⟨rfl, rfl, rfl⟩ hW' hg⟩

/-- A WORLD FOR THE WITNESS: the settled one, the table (block 0) holding what its initialiser lays. -/
noncomputable def laidWorld (os : Os) : World :=
  { World.holding Tryz.prog os ⟨#[], #[], []⟩ with heap := (World.holding Tryz.prog os ⟨#[], #[], []⟩).heap.modify 0 fun
      | .cells _ t frozen => .cells #[.int .u8 0, .int .u8 111, .int .u8 108, .int .u8 102] t frozen
      | o => o }
theorem laid_met (os : Os) : laidMet Tryz.prog Rows.machineKnownRow.laid ((laidWorld os).forCall (fun _ _ => 0) ⟨#[], #[], []⟩).memory :=
  laidMet_of_run' 8 (by kernel_rfl) (by kernel_rfl)
theorem reads (os : Os) {H : Type} (enc : TypeId × Value → H) : ∃ ds places, DataW.whole enc Tryz.prog ((laidWorld os).forCall (fun _ _ => 0) ⟨#[], #[], []⟩).memory Tryz.f4.params.toList Rows.machineKnownSpec.vars false (#[] : Array Value).toList 8 = some (ds, [], places) :=
  ⟨[], [], by kernel_rfl⟩
set_option maxRecDepth 100000 in
theorem lifted (os : Os) (started : os.Started) (H : Type) (enc : TypeId × Value → H) (F : Stop.Interp) :
    ReturnsInHanded {} Tryz.checked os 4 .any ((OpenSpec.ofChange Rows.machineKnownSpec).preRow enc Tryz.prog Tryz.f4 Rows.machineKnownRow.domain false Rows.machineKnownRow.laid) (((OpenSpec.ofChange Rows.machineKnownSpec).at F).post enc Tryz.prog Tryz.f4 false true false false) := by
  obtain ⟨ds, places, hx⟩ := reads os enc
  refine returnsInHanded_of_row (C := Tryz.checked) (s := OpenSpec.ofChange Rows.machineKnownSpec) own started (by kernel_rfl) Tryz.func4
    (witness_row_at (enc := enc) (C := Tryz.checked) false (laidWorld os) #[] rfl (by kernel_rfl) (by kernel_rfl) (by kernel_rfl)
      (OpenSpec.preRow_of_cond 8 hx (by kernel_rfl) (fun k hk => by cases hk) (by kernel_rfl) (laid_met os))) ?_
  intro W base args ds gs before hval hW _ _ _ hL _ _
  exact contract H enc W base args ds gs before hval hW

theorem jf0 : Rows.machineKnownRow.wf (OpenSpec.ofChange Rows.machineKnownSpec) = true := by kernel_rfl
theorem jf3 : Tryz.f4.params.all (Tryz.prog.readableRec ·) = true := by kernel_rfl
theorem jf4 : namedTie Tryz.prog Rows.machineKnownRow.named Rows.machineKnownSpec.vars = true := by kernel_rfl
theorem jf5 : (Rows.machineKnownRow.stops == []) = true := by kernel_rfl
theorem jf7 : (Rows.machineKnownRow.knobs == []) = true := by kernel_rfl
theorem jf13 : (Rows.machineKnownRow.maps == (Tryz.f4.params.toList ++ Rows.machineKnownSpec.plain.varTypes Tryz.prog).any (Tryz.prog.mapsRec ·)) = true := by kernel_rfl
theorem jf14 : (Rows.machineKnownRow.ifaces == (Tryz.f4.params.toList ++ Rows.machineKnownSpec.plain.varTypes Tryz.prog).any (Tryz.prog.ifacesRec ·)) = true := by kernel_rfl
theorem jf15 : (Rows.machineKnownRow.mapsOut == Tryz.prog.mapsAmong Tryz.f4.resultTypes.toList) = true := by kernel_rfl
theorem jf16 : (Rows.machineKnownRow.loops == (Tryz.f4.params.toList ++ Rows.machineKnownSpec.plain.varTypes Tryz.prog).any (Tryz.prog.loopsFrom ·)) = true := by kernel_rfl
theorem jf17 : (Rows.machineKnownRow.wideKeys == (Tryz.f4.params.toList ++ Rows.machineKnownSpec.plain.varTypes Tryz.prog ++ Tryz.f4.resultTypes.toList).any (Tryz.prog.wideKeysFrom ·)) = true := by kernel_rfl
theorem jf18 : Rows.machineKnownSpec.vars.all (Tryz.prog.varReadable ·) = true := by kernel_rfl
theorem jf19 : Tryz.f4.resultTypes.all (fun t => Tryz.prog.readableRec t && decide (t < Tryz.prog.types.size)) = true := by kernel_rfl
theorem jf20 : (Rows.machineKnownRow.ifacesOut == Tryz.f4.resultTypes.toList.any (Tryz.prog.ifacesRec ·)) = true := by kernel_rfl
theorem jf21 : (Rows.machineKnownRow.loopsOut == Tryz.f4.resultTypes.toList.any (Tryz.prog.loopsFrom ·)) = true := by kernel_rfl
theorem jf23 : Rows.machineKnownRow.shortTexts.isNone = true := by kernel_rfl
theorem jf28 : (Rows.machineKnownRow.kinds == (if Rows.machineKnownRow.domain.isEmpty then [] else Tryz.f4.params.toList.map fun t => match Tryz.prog.underlying t with | some (.int k) => some k | _ => none)) = true := by kernel_rfl
theorem jf29 : (Rows.machineKnownRow.pinned == Rows.machineKnownRow.pinnedBy) = true := by kernel_rfl
theorem jf30 : (Rows.machineKnownRow.veiled == (Tryz.f4.params.toList ++ Rows.machineKnownSpec.plain.varTypes Tryz.prog ++ Tryz.f4.resultTypes.toList).any (Tryz.prog.veiledRec ·)) = true := by kernel_rfl
theorem jf31 : Rows.machineKnownRow.veiledFits Tryz.prog Tryz.f4.params.toList (Tryz.f4.params.toList ++ Rows.machineKnownSpec.plain.varTypes Tryz.prog ++ Tryz.f4.resultTypes.toList) = true := by kernel_rfl
theorem jfn : Tryz.prog.funcNamed Rows.machineKnownRow.func = some 4 := by kernel_rfl
set_option maxRecDepth 100000 in
theorem closed : joinedFacts Tryz.prog 4 Tryz.f4 Rows.machineKnownSpec Rows.machineKnownRow = true :=
  (and2 (and2 (and2 (and2 (and2 (and2 (and2 (and2 (and2 (and2 (and2 (and2 (and2 (and2 (and2 (and2 (and2 (and2 (and2 (and2 (and2 (and2 (and2 (and2 (and2 (and2 (and2 (and2 (and2 (and2 (and2 jf0 Tryz.laidOut) pf_mapsRowed) jf3) jf4) jf5) pf_stops) jf7) pf_stopKnobs) ci4) cv4) cr4) cn4) jf13) jf14) jf15) jf16) jf17) jf18) jf19) jf20) jf21) pf_plainKeys) jf23) pf_stopsHeard) pf_mayEnter) pf_lifted) pf_make) jf28) jf29) jf30) jf31)

set_option maxRecDepth 100000 in
theorem said : Rows.MachineKnownSaid :=
  OpenClaim.holds_of_cond 4 Tryz.f4 rfl rfl rfl rfl rfl rfl rfl ⟨rfl, rfl, rfl, rfl, rfl⟩ rfl rfl rfl rfl rfl jfn Tryz.func4 closed
    (of_decide_eq_true (by kernel_rfl)) (by unfold Func.isWrapper; first | (rw [if_pos (by decide +kernel)]; kernel_rfl) | (rw [if_neg (by decide +kernel)]; exact ⟨rfl, rfl⟩))
    (fun os started H enc _ F => by rw [OpenClaim.pre_eq_preRow]; exact lifted os started H enc F)

/-- No parameter wants a stand-in; the program's own looks are off. -/
theorem plain (f : FuncId) (fn : Func) (hf : Tryz.pinned.checked.prog.funcNamed "estray/estraylaw40.MachineKnown" = some f) (hfn : Tryz.pinned.checked.prog.funcs[f]? = some fn) :
    true = Tryz.pinned.checked.prog.looks [] ∧ ∀ (j : Nat) t, fn.params[j]? = some t → Tryz.pinned.checked.prog.wantsStandIn t = false := by
  obtain rfl : f = 4 := Option.some.inj ((show Tryz.prog.funcNamed "estray/estraylaw40.MachineKnown" = some 4 by kernel_rfl).symm.trans hf) |>.symm
  obtain rfl : fn = Tryz.f4 := (Option.some.inj (Tryz.func4.symm.trans hfn)).symm
  refine ⟨by kernel_rfl, fun j t ht => ?_⟩
  rw [Tryz.params4] at ht
  simp at ht

theorem proved : Rows.MachineKnownCardSaid :=
  Claim7.holds_tied_plain_at .later [] _ _ _ _ said (fun _ h => by cases h) (by kernel_rfl) (fun _ h => by cases h) machineKnown_row_tie rfl ⟨rfl, rfl⟩ (by kernel_rfl) rfl plain (goes_none allgo _ rfl)
#print axioms proved
end Go.Proofs.YthlphddehdjfjaaGreatDoor.machineKnown
