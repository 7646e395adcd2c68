/- estraylaw24: a turn of a system, in all phases. -/
import Derived.Test.YtehmoikbeflkaaaGreatMvA
import Derived.Test.YtehmoikbeflkaaaGreatRcH
namespace Go.Proofs.YtehmoikbeflkaaaGreat
open Go.RowKit Go.ChangeShapes Go.WideShapes Go.ChangeAt Go.Deep
set_option linter.unusedVariables false
set_option linter.unusedSimpArgs false
set_option linter.unusedSectionVars false

section
variable {w0 w w' : World} {p a m : Nat} {LA : ArL} {LM : MkL} {s : Sys} {lv : Value} {d : List Rf}

theorem Both.noref (h : Both w0 w a m LA LM s) {x : Nat} {cs : Array Value} (hx : w.heap[x]? = some (.cells cs 33)) : ¬ foot2 LA LM s x :=
  h.not_foot hx (by decide) (by decide) (by decide) (by decide) (by decide) (by decide) (by decide) (by decide)
def footS (p : Nat) (LA : ArL) (LM : MkL) (s : Sys) (y : Nat) : Prop := y = p ∨ foot2 LA LM s y
theorem Sy.refs (h : Sy w0 w p a m LA LM s lv) {v : Value} {l : List Rf} (hv : Refs w v l) (hk : Keeps (footS p LA LM s) w w') : Refs w' v l := by
  rcases hv with hv | ⟨g, cap, cur, rfl, hg, hc⟩
  · exact .inl hv
  · refine .inr ⟨g, cap, cur, rfl, block_keep hg hk ?_, hc⟩
    rintro (h1 | h1)
    · exact type_ne hg h.own (by decide) h1
    · exact h.both.noref hg h1
theorem Sy.note {lv' : Value} (h : Sy w0 w p a m LA LM s lv) (hk : Keeps (fun y => y = p) w w') (hw : w'.heap[p]? = some (.cells #[.pointer (some ⟨a, 0, none⟩), .pointer (some ⟨m, 0, none⟩), .int .i64 s.M.K.many, lv'] 75)) : Sy w0 w' p a m LA LM s lv' :=
  ⟨h.both.oth h.own hk h.hp (by decide) (by decide) (by decide) (by decide) (by decide) (by decide) (by decide) (by decide) (by decide) (by decide) (by decide) (by decide), hw, h.hp⟩
def Sx (w0 w : World) (p a m : Nat) (LA : ArL) (LM : MkL) (s : Sys) (d : List Rf) : Prop := ∃ lv, Sy w0 w p a m LA LM s lv ∧ Refs w lv d
theorem Sx.same (h : Sx w0 w p a m LA LM s d) (hk : Keeps (fun _ => False) w w') : Sx w0 w' p a m LA LM s d := by
  obtain ⟨lv, h1, h2⟩ := h
  exact ⟨lv, h1.same hk, h2.keeps hk (fun _ _ h => h)⟩
theorem Sx.kp (h : Sx w0 w p a m LA LM s d) : Keeps (fun _ => False) w0 w := by
  obtain ⟨lv, h1, _⟩ := h
  exact h1.both.kp
theorem Sy.sx {t : Sys} (h : Sy w0 w p a m LA LM s lv) (hd : Refs w lv d) (ht : Sy w0 w' p a m LA LM t lv) (hk : Keeps (foot2 LA LM s) w w') : Sx w0 w' p a m LA LM t d ∧ Keeps (footS p LA LM s) w w' :=
  ⟨⟨lv, ht, h.refs hd (hk.mono fun _ _ h => .inr h)⟩, hk.mono fun _ _ h => .inr h⟩
theorem Sy.goM (h : Sy w0 w p a m LA LM s lv) (hok : s.Ok) (hcy : s.M.K.cy < 4611686018427387904) : Calls Tryz.prog 61 #[.pointer (some ⟨m, 0, none⟩)] w
    fun e w' => e = .returned (.int .i64 s.M.goR.2) ∧ Sy w0 w' p a m LA LM ⟨s.A, s.M.goR.1⟩ lv ∧ Keeps (foot2 LA LM s) w w' :=
  (duo_go_any h.both hok.m hcy).mono fun e w' ⟨h1, h2⟩ => ⟨h1, h.mark h2 (by unfold Mk.goR; split; rfl; split <;> rfl)⟩
theorem Sy.free (h : Sy w0 w p a m LA LM s lv) (hok : s.Ok) (r : Rf) : Calls Tryz.prog 110 #[.pointer (some ⟨a, 0, none⟩), .agg #[.int .i64 r.s, .int .u32 r.g]] w
    fun e w' => e = .returned (.int .i64 (s.A.freeR r).2) ∧ Sy w0 w' p a m LA LM ⟨(s.A.freeR r).1, s.M⟩ lv ∧ Keeps (foot2 LA LM s) w w' :=
  (afree_any a LA s.A r w h.both.ar hok.a).mono fun e w' ⟨h1, h2, h3⟩ => ⟨h1, h.sys (both_ar h.both h2 h3 (Ar.freeR_n _ _).2).2 (both_ar h.both h2 h3 (Ar.freeR_n _ _).2).1 rfl, h2.mono (fun _ _ h => .inl h)⟩
theorem Sy.freedM (h : Sy w0 w p a m LA LM s lv) (i : Int) : Calls Tryz.prog 143 #[.pointer (some ⟨m, 0, none⟩), .int .i64 i] w
    fun e w' => e = .returned (.int .i64 (s.M.freedR i).2) ∧ Sy w0 w' p a m LA LM ⟨s.A, (s.M.freedR i).1⟩ lv ∧ Keeps (foot2 LA LM s) w w' :=
  (duo_freed_any h.both i).mono fun e w' ⟨h1, h2⟩ => ⟨h1, h.mark h2 (by unfold Mk.freedR; split <;> rfl)⟩
theorem Sy.markedM (h : Sy w0 w p a m LA LM s lv) (i : Int) : Calls Tryz.prog 46 #[.pointer (some ⟨m, 0, none⟩), .int .i64 i] w
    fun e w' => e = .returned (.tuple #[.bool (s.M.markedR i).1, .int .i64 (s.M.markedR i).2]) ∧ Keeps (fun _ => False) w w' := duo_marked_any h.both i
set_option maxRecDepth 100000 in
set_option maxHeartbeats 2000000 in
theorem scollect2 (h : Sy w0 w p a m LA LM s lv) (hok : s.Ok) (hcy : s.M.K.cy < 4611686018427387904) (hp : s.M.K.ph = 2) :
    Calls Tryz.prog 51 #[.pointer (some ⟨p, 0, none⟩)] w fun e w' => e = .returned (.tuple #[]) ∧ Sy w0 w' p a m LA LM s.step lv ∧ Keeps (foot2 LA LM s) w w' := by
  have HPH := hid (show Calls Tryz.prog 49 #[.pointer (some ⟨m, 0, none⟩)] w (fun e w' => e = .returned (.int .i64 2) ∧ w' = w) from by
    have h1 := mphase m LM s.M w h.both.mm; rw [hp] at h1; exact h1)
  have HST := hid (fun W (hk : Keeps (fun _ => False) w W) => (h.same hk).stepM hok hcy)
  obtain ⟨x0, x1, x2, x3, xl⟩ := cells4 h.own
  clear h hok hcy hp
  go_enter Tryz.func51, Tryz.ntmps51
  go_wp2_with fail
  refine (HPH.out).mono ?_
  rintro e w' ⟨rfl, h'⟩
  obtain rfl := h'.symm
  go_wp2_with fail
  go_region_held3 (fun W => W.cell? ⟨p, 1, none⟩ = some (.pointer (some ⟨m, 0, none⟩)) ∧ W.cell? ⟨p, 0, none⟩ = some (.pointer (some ⟨a, 0, none⟩)))
    ((first | exact ⟨x1, x0⟩ | exact ⟨(cells4 hs3.own).2.1, (cells4 hs3.own).1⟩))
    (first | (go_at_call 132; refine (HST.out _ (Keeps.refl _ _).drew).mono ?_; rintro e w3 ⟨rfl, hs3, hk3⟩))
  all_goals
    go_wp2_with fail
    go_end0
    exact ⟨rfl, hs3, Keeps.trans (Keeps.refl _ _).drew hk3⟩
set_option maxRecDepth 100000 in
set_option maxHeartbeats 2000000 in
theorem scollect3 (h : Sy w0 w p a m LA LM s lv) (hok : s.Ok) (hcy : s.M.K.cy < 4611686018427387904) (hp : s.M.K.ph = 3) :
    Calls Tryz.prog 51 #[.pointer (some ⟨p, 0, none⟩)] w fun e w' => e = .returned (.tuple #[]) ∧ Sy w0 w' p a m LA LM s.step lv ∧ Keeps (foot2 LA LM s) w w' := by
  have HPH := hid (show Calls Tryz.prog 49 #[.pointer (some ⟨m, 0, none⟩)] w (fun e w' => e = .returned (.int .i64 3) ∧ w' = w) from by
    have h1 := mphase m LM s.M w h.both.mm; rw [hp] at h1; exact h1)
  have HST := hid (fun W (hk : Keeps (fun _ => False) w W) => (h.same hk).stepM hok hcy)
  obtain ⟨x0, x1, x2, x3, xl⟩ := cells4 h.own
  clear h hok hcy hp
  go_enter Tryz.func51, Tryz.ntmps51
  go_wp2_with fail
  refine (HPH.out).mono ?_
  rintro e w' ⟨rfl, h'⟩
  obtain rfl := h'.symm
  go_wp2_with fail
  go_region_held3 (fun W => W.cell? ⟨p, 1, none⟩ = some (.pointer (some ⟨m, 0, none⟩)) ∧ W.cell? ⟨p, 0, none⟩ = some (.pointer (some ⟨a, 0, none⟩)))
    ((first | exact ⟨x1, x0⟩ | exact ⟨(cells4 hs3.own).2.1, (cells4 hs3.own).1⟩))
    (first | (go_at_call 132; refine (HST.out _ (Keeps.refl _ _).drew).mono ?_; rintro e w3 ⟨rfl, hs3, hk3⟩))
  all_goals
    go_wp2_with fail
    go_end0
    exact ⟨rfl, hs3, Keeps.trans (Keeps.refl _ _).drew hk3⟩
set_option maxRecDepth 100000 in
set_option maxHeartbeats 2000000 in
theorem scollect4 (h : Sy w0 w p a m LA LM s lv) (hok : s.Ok) (hcy : s.M.K.cy < 4611686018427387904) (hp : s.M.K.ph = 4) :
    Calls Tryz.prog 51 #[.pointer (some ⟨p, 0, none⟩)] w fun e w' => e = .returned (.tuple #[]) ∧ Sy w0 w' p a m LA LM ⟨s.A, s.M.goR.1⟩ lv ∧ Keeps (foot2 LA LM s) w w' := by
  have HPH := hid (show Calls Tryz.prog 49 #[.pointer (some ⟨m, 0, none⟩)] w (fun e w' => e = .returned (.int .i64 4) ∧ w' = w) from by
    have h1 := mphase m LM s.M w h.both.mm; rw [hp] at h1; exact h1)
  have HST := hid (h.goM hok hcy)
  obtain ⟨x0, x1, x2, x3, xl⟩ := cells4 h.own
  clear h hok hcy hp
  go_enter Tryz.func51, Tryz.ntmps51
  go_wp2_with fail
  refine (HPH.out).mono ?_
  rintro e w' ⟨rfl, h'⟩
  obtain rfl := h'.symm
  go_wp2_with fail
  refine HST.out.mono ?_
  rintro e w3 ⟨rfl, hs3, hk3⟩
  go_wp2_with fail
  go_end0
  exact ⟨rfl, hs3, hk3⟩
set_option maxRecDepth 100000 in
set_option maxHeartbeats 2000000 in
theorem scollect0 (h : Sy w0 w p a m LA LM s lv) (hok : s.Ok) (hp : s.M.K.ph = 0) :
    Calls Tryz.prog 51 #[.pointer (some ⟨p, 0, none⟩)] w fun e w' => e = .returned (.tuple #[]) ∧ Sx w0 w' p a m LA LM s.begun s.A.lostL ∧ Keeps (footS p LA LM s) w w' := by
  have HPH := hid (show Calls Tryz.prog 49 #[.pointer (some ⟨m, 0, none⟩)] w (fun e w' => e = .returned (.int .i64 0) ∧ w' = w) from by
    have h1 := mphase m LM s.M w h.both.mm; rw [hp] at h1; exact h1)
  have HLO := hid (lost_ok a LA s.A w h.both.ar hok.a)
  have HS := hid h
  obtain ⟨x0, x1, x2, x3, xl⟩ := cells4 h.own
  clear h hok hp
  go_enter Tryz.func51, Tryz.ntmps51
  go_wp2_with fail
  refine (HPH.out).mono ?_
  rintro e w' ⟨rfl, h'⟩
  obtain rfl := h'.symm
  go_wp2_with fail
  refine HLO.out.mono ?_
  rintro e w3 ⟨v3, rfl, hr3, hk3⟩
  obtain ⟨q3, c3, rfl⟩ := hr3.refs.slice
  have HS3 := hid (HS.out.same hk3); have HR3 := hid hr3; have HK3 := hid hk3
  obtain ⟨y0, y1, y2, y3, yl⟩ := cells4 HS3.out.own
  have y3f := frozen_block HS3.out.own 3
  obtain ⟨w4, hw4⟩ : ∃ w4, w3.setCell ⟨p, 3, none⟩ (.slice q3 s.A.lostL.length c3) = w4 := ⟨_, rfl⟩
  have hk4 : Keeps (fun y => y = p) w3 w4 := by rw [← hw4]; exact keeps_set1 _ _ _ _
  have hs4 : Sy w0 w4 p a m LA LM s (.slice q3 s.A.lostL.length c3) := HS3.out.note hk4 (by rw [← hw4]; exact set_block HS3.out.own 3 _)
  have hr4 : Refs w4 (.slice q3 s.A.lostL.length c3) s.A.lostL := HS3.out.refs HR3.out.refs (hk4.mono fun _ _ h => .inl h)
  have HBG := hid hs4.beginM
  have HS4 := hid hs4; have HR4 := hid hr4; have HK4 := hid (show Keeps (footS p LA LM s) w w4 from HK3.out.up.trans (hk4.mono fun _ _ h => .inl h))
  have HW4 := hid hw4
  clear hr3 hk3 x0 x1 x2 x3 xl hk4 hs4 hr4 hw4
  go_wp2_with fail
  rw [HW4.out]
  refine HBG.out.mono ?_
  rintro e w5 ⟨rfl, hs5, hk5⟩
  have HX := hid (show Sx w0 w5 p a m LA LM s.begun s.A.lostL from ⟨_, hs5, HS4.out.refs HR4.out (hk5.mono fun _ _ h => .inr h)⟩)
  have HK5 := hid (HK4.out.trans (hk5.mono fun _ _ h => .inr h))
  clear hs5 hk5 y0 y1 y2 y3 yl y3f
  go_wp2_with fail
  go_end0
  exact ⟨rfl, HX.out, HK5.out⟩
set_option maxRecDepth 100000 in
set_option maxHeartbeats 4000000 in
theorem scollect5 (h : Sy w0 w p a m LA LM s lv) (hok : s.Ok) (hsf : Safe s) (hcy : s.M.K.cy < 4611686018427387904) (hp : s.M.K.ph = 5) :
    Calls Tryz.prog 51 #[.pointer (some ⟨p, 0, none⟩)] w fun e w' => e = .returned (.tuple #[]) ∧ Sy w0 w' p a m LA LM ⟨(s.swepts s.A.H.T.tk).A, s.M.goR.1⟩ lv ∧ Keeps (foot2 LA LM s) w w' := by
  have HPH := hid (show Calls Tryz.prog 49 #[.pointer (some ⟨m, 0, none⟩)] w (fun e w' => e = .returned (.int .i64 5) ∧ w' = w) from by
    have h1 := mphase m LM s.M w h.both.mm; rw [hp] at h1; exact h1)
  have HS := hid h
  have HAH := hid (aheap_ok a LA s.A w h.both.ar)
  have HOKS := hid (fun k => swepts_ok hok hsf (by omega) (l := s.A.H.T.tk.take k) (fun r hr => List.mem_of_mem_take hr) ((tk_nd _).sublist (List.take_sublist _ _)))
  have HYES := hid (fun (k : Nat) (r : Rf) => swepts_yes (k := k) (r := r) hok hsf (by omega))
  have HNO := hid (fun (k : Nat) (r : Rf) => swepts_no (s := s) (l := s.A.H.T.tk) (k := k) (r := r))
  have htn := tk_len s.A.H.T
  have hn256 := hok.a.n2
  have HTH := hid (fun r (hr : r ∈ s.A.H.T.tk) => (show 0 ≤ r.s ∧ r.s < s.M.P.n from by
    have h1 := (tk_iff (H := s.A.H) rfl).1 hr
    have := h1.lt.1; have := h1.lt.2.1; have := hok.n
    omega))
  have hmany : s.M.K.cy < 4611686018427387904 := hcy
  have HCY := hid hcy
  obtain ⟨T, hT⟩ : ∃ T, s.A.H.T.tk = T := ⟨_, rfl⟩
  have HMA := hid (fun k => (white_frd hok hsf (by omega) (l := s.A.H.T.tk.take k) (fun r hr => List.mem_of_mem_take hr) ((tk_nd _).sublist (List.take_sublist _ _))).many)
  rw [hT] at HOKS HYES HNO htn HTH HMA ⊢
  have HTT := hid hT
  obtain ⟨x0, x1, x2, x3, xl⟩ := cells4 h.own
  clear h hok hp hcy hmany hsf hT
  go_enter Tryz.func51, Tryz.ntmps51
  go_wp2_with fail
  refine (HPH.out).mono ?_
  rintro e w' ⟨rfl, h'⟩
  obtain rfl := h'.symm
  go_wp2_with fail
  refine HAH.out.mono ?_
  rintro e w1 ⟨bh, th, rfl, k1, _, _, hh⟩
  have HHA := hid (hall_ok bh th s.A.H w1 hh)
  rw [HTT.out] at HHA
  have HS1 := hid (HS.out.same k1); have HK1 := hid k1
  clear k1 hh HAH
  go_wp2_with fail
  refine HHA.out.mono ?_
  rintro e w2 ⟨v2, rfl, hr2, k2⟩
  obtain ⟨q2, c2, rfl⟩ := hr2.refs.slice
  have HS2 := hid (HS1.out.same k2); have HK2 := hid (show Keeps (foot2 LA LM s) w w2 from (HK1.out.trans k2).up); have HR2 := hid hr2.refs
  clear k2 hr2 HS1 HK1 HHA x0 x1 x2 x3 xl
  go_wp2_with fail
  go_loopw [3] (fun ix wr => ∃ k : Nat, k ≤ T.length ∧ ix = .int .i64 k ∧ Hid (Sy w0 wr p a m LA LM (s.swepts (T.take k)) lv) ∧ Hid (Refs wr (.slice q2 T.length c2) T) ∧ Hid (Keeps (foot2 LA LM s) w wr)) (fun ix _ => T.length - (intOf ix).toNat)
  case atStart => exact ⟨0, Nat.zero_le _, rfl, hid (by have e : s.swepts (T.take 0) = s := by simp [Sys.swepts, Sys.white, freeds]
                                                        rw [e]; exact HS2.out), HR2, HK2⟩
  case round =>
    obtain ⟨k, hk, rfl, HSR, HRR, HKR⟩ := hrel
    have hk0 : (0 : Int) ≤ k := by omega
    obtain ⟨x0, x1, x2, x3, xl⟩ := cells4 HSR.out.own
    by_cases hlt : k < T.length
    · have hlt' : (k : Int) < (T.length : Int) := by omega
      obtain ⟨r, hr⟩ : ∃ r, T[k]? = some r := ⟨_, List.getElem?_eq_getElem hlt⟩
      obtain ⟨g, rfl, d0, d1⟩ := HRR.out.cellk hr
      have hrn := HTH.out r (List.mem_of_getElem? hr)
      obtain ⟨s1, hs1⟩ : ∃ s1, s.swepts (T.take k) = s1 := ⟨_, rfl⟩
      have hM : s1.M = s.M := by rw [← hs1]; rfl
      have hok1 : s1.Ok := by rw [← hs1]; exact (HOKS.out k).1
      have hf1 : foot2 LA LM s1 = foot2 LA LM s := foot2_of (by rw [← hs1]; exact HMA.out k) (by rw [hM])
      rw [hs1] at HSR
      have hmk : s1.M.markedR r.s = (!(s.M.P.c r.s.toNat == 0), 0) := by rw [hM]; unfold Mk.markedR; rw [if_neg (by omega)]
      have HMK := hid (show ∀ W, Keeps (fun _ => False) wr W → _ from fun W hk => by have h := (HSR.out.same hk).markedM r.s; rw [hmk] at h; exact h)
      have HPS := hid (show ∀ W, Keeps (foot2 LA LM s1) wr W → (W.cell? ⟨p, 1, none⟩ = some (.pointer (some ⟨m, 0, none⟩)) ∧ W.cell? ⟨p, 0, none⟩ = some (.pointer (some ⟨a, 0, none⟩)) ∧ W.cell? ⟨g, k * 2, none⟩ = some (.int .i64 r.s) ∧ W.cell? ⟨g, k * 2 + 1, none⟩ = some (.int .u32 r.g)) from fun W hk => by
        obtain ⟨a0, a1, _, _, _⟩ := cells4 (block_keep HSR.out.own hk HSR.out.pfoot)
        obtain ⟨g1, hg1, b0, b1⟩ := (HSR.out.refs HRR.out (hk.mono fun _ _ h => .inr h)).cellk hr
        injection hg1 with hg1; injection hg1 with hg1
        subst hg1
        exact ⟨a1, a0, b0, b1⟩)
      have HR := hid hr; have HRN := hid hrn; have HS1 := hid hs1; have HM := hid hM; have HOK1 := hid hok1; have HF1 := hid hf1
      obtain ⟨wh, hwh⟩ : ∃ wh, decide (s.M.P.c r.s.toNat = 0) = wh := ⟨_, rfl⟩
      have hwq : (s.M.P.c r.s.toNat == 0) = wh := by rw [← hwh]; exact Bool.beq_eq_decide_eq _ _
      rw [hwq] at HMK
      have HWH := hid hwh
      clear hr hrn hs1 hM hok1 hf1 hmk hwh hwq x0 x1 x2 x3 xl d0 d1
      obtain ⟨wz, hwz⟩ : ∃ wz, wr = wz := ⟨_, rfl⟩
      rw [hwz] at HSR HRR HKR HMK HPS ⊢
      clear hwz
      go_wp2_with fail
      go_region_held3 (fun W => W.cell? ⟨p, 1, none⟩ = some (.pointer (some ⟨m, 0, none⟩)) ∧ W.cell? ⟨p, 0, none⟩ = some (.pointer (some ⟨a, 0, none⟩)) ∧ W.cell? ⟨g, k * 2, none⟩ = some (.int .i64 r.s) ∧ W.cell? ⟨g, k * 2 + 1, none⟩ = some (.int .u32 r.g))
        ((refine HPS.out _ ?_; (repeat (first | with_reducible exact Keeps.refl _ _ | with_reducible refine Keeps.drewN ?_ _ | with_reducible refine Keeps.drew ?_ | with_reducible refine Keeps.trans ?_ (Keeps.up hk3)))))
        (first | (go_at_call 46; refine (HMK.out _ (Keeps.refl _ _).drew).mono ?_; rintro e w3 ⟨rfl, hk3⟩))
      all_goals
        have hk3' : Keeps (fun _ => False) wz w3 := Keeps.trans (Keeps.refl _ _).drew hk3
        have HS3 := hid (HSR.out.same hk3'); have HK3 := hid hk3'
        clear hk3 hk3' HMK
        cases wh
        · have hnc := of_decide_eq_false HWH.out
          have he := HNO.out k r HR.out hnc
          have HE := hid he
          clear hnc he
          go_wp2_with fail
          refine ⟨⟨k + 1, by omega, by go_num, hid ?_, hid (HSR.out.refs HRR.out HK3.out.up), hid (HKR.out.trans HK3.out.up)⟩, by simp [intOf]; omega⟩
          rw [HE.out, HS1.out]; exact HS3.out
        · have hnc := of_decide_eq_true HWH.out
          have he := HYES.out k r HR.out hnc
          rw [HS1.out] at he
          have hfd := freed_white HRN.out.1 HRN.out.2 hnc
          have HE := hid he; have HFD := hid hfd
          have HFR := hid (fun W (hk : Keeps (fun _ => False) w3 W) => (HS3.out.same hk).free HOK1.out r)
          rw [HE.out] at HFR
          have HPT := hid (show ∀ W, Keeps (foot2 LA LM s1) w3 W → _ from fun W hk => HPS.out W (HK3.out.up.trans hk))
          clear hnc he hfd
          go_wp2_with fail
          go_region_held3 (fun W => W.cell? ⟨p, 1, none⟩ = some (.pointer (some ⟨m, 0, none⟩)) ∧ W.cell? ⟨p, 0, none⟩ = some (.pointer (some ⟨a, 0, none⟩)) ∧ W.cell? ⟨g, k * 2, none⟩ = some (.int .i64 r.s) ∧ W.cell? ⟨g, k * 2 + 1, none⟩ = some (.int .u32 r.g))
            ((refine HPT.out _ ?_; (repeat (first | with_reducible exact Keeps.refl _ _ | with_reducible refine Keeps.drewN ?_ _ | with_reducible refine Keeps.drew ?_ | with_reducible refine Keeps.trans ?_ hk4))))
            (first | (go_at_call 110; refine (HFR.out _ (Keeps.refl _ _).drew).mono ?_; rintro e w4 ⟨rfl, hs4, hk4⟩))
          all_goals
            have hk4' : Keeps (foot2 LA LM s1) w3 w4 := Keeps.trans (Keeps.refl _ _).drew hk4
            have HFD2 := hid (fun W (hk : Keeps (fun _ => False) w4 W) => (hs4.same hk).freedM r.s)
            have HK4 := hid hk4'
            have HPU := hid (show ∀ W, Keeps (foot2 LA LM s1) w4 W → _ from fun W hk => HPT.out W (HK4.out.trans hk))
            have HFF := hid (show foot2 LA LM (Sys.mk (s.swepts (T.take (k + 1))).A s1.M) = foot2 LA LM s1 from (foot2_of (s := s) (t := Sys.mk (s.swepts (T.take (k + 1))).A s1.M) (HMA.out (k + 1)) (by show s1.M.K.many = _; rw [HM.out])).trans HF1.out.symm)
            rw [HFF.out] at HFD2
            clear hs4 hk4 hk4'
            go_wp2_with fail
            go_region_held3 (fun W => W.cell? ⟨p, 1, none⟩ = some (.pointer (some ⟨m, 0, none⟩)) ∧ W.cell? ⟨p, 0, none⟩ = some (.pointer (some ⟨a, 0, none⟩)) ∧ W.cell? ⟨g, k * 2, none⟩ = some (.int .i64 r.s) ∧ W.cell? ⟨g, k * 2 + 1, none⟩ = some (.int .u32 r.g))
              ((refine HPU.out _ ?_; (repeat (first | with_reducible exact Keeps.refl _ _ | with_reducible refine Keeps.drewN ?_ _ | with_reducible refine Keeps.drew ?_ | with_reducible refine Keeps.trans ?_ hk5))))
              (first | (go_at_call 143; refine (HFD2.out _ (Keeps.refl _ _).drew).mono ?_; rintro e w5 ⟨rfl, hs5, hk5⟩))
            all_goals
              have hk5' : Keeps (foot2 LA LM s1) wz w5 := (HK3.out.up.trans HK4.out).trans (Keeps.trans (Keeps.refl _ _).drew hk5)
              have HS5 := hid hs5; have HK5 := hid hk5'
              clear hs5 hk5 hk5'
              go_wp2_with fail
              refine ⟨⟨k + 1, by omega, by go_num, hid ?_, hid (HSR.out.refs HRR.out (HK5.out.mono fun _ _ h => .inr h)), hid (HKR.out.trans (HF1.out ▸ HK5.out))⟩, by simp [intOf]; omega⟩
              have h5 := HS5.out
              rw [HM.out, HFD.out] at h5
              exact h5
    · have hlt' : ¬ (k : Int) < (T.length : Int) := by omega
      obtain rfl : k = T.length := by omega
      rw [List.take_length] at HSR
      have hok1 : (s.swepts T).Ok := by have := (HOKS.out T.length).1; rwa [List.take_length] at this
      have hf1 : foot2 LA LM (s.swepts T) = foot2 LA LM s := foot2_of (by have := HMA.out T.length; rwa [List.take_length] at this) rfl
      have HGO := hid (HSR.out.goM hok1 HCY.out)
      rw [hf1] at HGO
      clear hok1 hf1
      go_wp2_with fail
      refine HGO.out.mono ?_
      rintro e w3 ⟨rfl, hs3, hk3⟩
      have HS3 := hid hs3; have HK3 := hid hk3
      clear hs3 hk3
      go_wp2_with fail
      go_end0
      exact ⟨rfl, HS3.out, HKR.out.trans HK3.out⟩
set_option maxRecDepth 100000 in
set_option maxHeartbeats 2000000 in
theorem scoll {n k i : Nat} (h : Sx w0 w p a m LA LM s d) (hg : G24 n k i s) (hi : i < 4611686018427387904) :
    Calls Tryz.prog 51 #[.pointer (some ⟨p, 0, none⟩)] w fun e w' => e = .returned (.tuple #[]) ∧ Sx w0 w' p a m LA LM s.coll (if s.M.K.ph = 0 then s.A.lostL else d) ∧ Keeps (footS p LA LM s) w w' := by
  obtain ⟨lv, hs, hd⟩ := h
  have hp5 := hg.ok.m.ph
  have hcy : s.M.K.cy < 4611686018427387904 := Nat.lt_of_le_of_lt hg.cy hi
  have fin : ∀ {t : Sys} {e : Ending} {w' : World}, e = .returned (.tuple #[]) ∧ Sy w0 w' p a m LA LM t lv ∧ Keeps (foot2 LA LM s) w w' → e = .returned (.tuple #[]) ∧ Sx w0 w' p a m LA LM t d ∧ Keeps (footS p LA LM s) w w' := fun ⟨h1, h2, h3⟩ => ⟨h1, hs.sx hd h2 h3⟩
  by_cases h0 : s.M.K.ph = 0
  · rw [if_pos h0, coll_0 h0]; exact scollect0 hs hg.ok h0
  rw [if_neg h0]
  by_cases h4 : s.M.K.ph = 4
  · rw [show s.coll = ⟨s.A, s.M.goR.1⟩ by unfold Sys.coll; rw [if_neg h0, if_pos h4]]
    exact (scollect4 hs hg.ok hcy h4).mono fun e w' h => fin h
  by_cases h5 : s.M.K.ph = 5
  · rw [show s.coll = ⟨(s.swepts s.A.H.T.tk).A, s.M.goR.1⟩ by unfold Sys.coll; rw [if_neg h0, if_neg h4, if_pos h5]]
    exact (scollect5 hs hg.ok hg.safe hcy h5).mono fun e w' h => fin h
  rw [coll_step (by omega)]
  by_cases h1 : s.M.K.ph = 1
  · exact (scollect1 hs hg.ok hcy h1).mono fun e w' h => fin h
  by_cases h2 : s.M.K.ph = 2
  · exact (scollect2 hs hg.ok hcy h2).mono fun e w' h => fin h
  · exact (scollect3 hs hg.ok hcy (by omega)).mono fun e w' h => fin h
set_option maxRecDepth 100000 in
set_option maxHeartbeats 2000000 in
theorem sturn_col {n k i : Nat} (x : Tv) (h : Sx w0 w p a m LA LM s d) (hg : G24 n k i s) (hi : i < 4611686018427387904) (hx : x.Byte) (hk : 200 ≤ x.kind) :
    Calls Tryz.prog 45 #[.pointer (some ⟨p, 0, none⟩), x.val] w fun e w' => e = .returned (.tuple #[]) ∧ Sx w0 w' p a m LA LM s.coll (if s.M.K.ph = 0 then s.A.lostL else d) ∧ Keeps (footS p LA LM s) w w' := by
  have HCO := hid (fun W (hk : Keeps (fun _ => False) w W) => scoll (h.same hk) hg hi)
  obtain ⟨d2, hd2⟩ : ∃ x, (if s.M.K.ph = 0 then s.A.lostL else d) = x := ⟨_, rfl⟩
  rw [hd2] at HCO ⊢
  clear hd2
  obtain ⟨lv, h, hd⟩ := h
  have hki1 : ¬ (x.kind : Int) < 160 := by omega
  have hki2 : ¬ (x.kind : Int) < 200 := by omega
  obtain ⟨wA, hwA⟩ : ∃ wA, w.alloc (.cells #[.int .u8 x.kind, .int .u8 x.m, .int .u8 x.a, .int .u8 x.b] 78) = wA := ⟨_, rfl⟩
  have kA : Keeps (fun _ => False) w wA := by rw [← hwA]; exact (Keeps.refl _ _).alloc _
  have qA : wA.heap[w.heap.size]? = some (.cells #[.int .u8 x.kind, .int .u8 x.m, .int .u8 x.a, .int .u8 x.b] 78) := by rw [← hwA]; exact alloc_new
  have HKA := hid kA; have HWA := hid hwA; have HSA := hid (h.same kA)
  have hfl := h.both.footlt
  have HCF := hid (fun W (hk : Keeps (foot2 LA LM s) wA W) => And.intro (cells4 (block_keep qA hk (fun hf => by have := hfl _ hf; omega))) (cells4 (block_keep (block_keep h.own kA (fun h => h)) hk h.pfoot)))
  obtain ⟨b0, b1, b2, b3, bl⟩ := cells4 qA
  obtain ⟨x0, x1, x2, x3, xl⟩ := cells4 (h.same kA).own
  unfold Tv.val
  clear h hd hx hk hg hwA kA qA hfl
  go_enter Tryz.func45, Tryz.ntmps45
  go_upto_region 2 with (fail)
  rw [HWA.out]
  go_wp2_with fail
  refine (HCO.out _ HKA.out).mono ?_
  rintro e w3 ⟨rfl, hs3, hk3⟩
  have HS3 := hid hs3; have HK3 := hid (HKA.out.up.trans hk3)
  clear hs3 hk3
  go_wp2_with fail
  go_end0
  exact ⟨rfl, HS3.out, HK3.out⟩
theorem sturn {n k i : Nat} (x : Tv) (h : Sx w0 w p a m LA LM s d) (hg : G24 n k i s) (hi : i < 4611686018427387904) (hx : x.Byte) :
    Calls Tryz.prog 45 #[.pointer (some ⟨p, 0, none⟩), x.val] w fun e w' => e = .returned (.tuple #[]) ∧ Sx w0 w' p a m LA LM (x.turn s) (x.lost s d) ∧ Keeps (footS p LA LM s) w w' := by
  unfold Tv.turn Tv.lost
  by_cases h1 : x.kind < 160
  · rw [if_pos h1, if_neg (by omega)]
    obtain ⟨lv, hs, hd⟩ := h
    exact (sturn_mu x hs hg.ok hx h1).mono fun e w' ⟨a1, a2, a3⟩ => ⟨a1, hs.sx hd a2 a3⟩
  rw [if_neg h1]
  by_cases h2 : x.kind < 200
  · rw [if_pos h2, if_neg (by omega)]
    obtain ⟨lv, hs, hd⟩ := h
    exact (sturn_ack x hs hg.ok hx (by omega) h2).mono fun e w' ⟨a1, a2, a3⟩ => ⟨a1, hs.sx hd a2 a3⟩
  rw [if_neg h2]
  have h3 : 200 ≤ x.kind := by omega
  refine (sturn_col x h hg hi hx h3).mono fun e w' ⟨a1, a2, a3⟩ => ⟨a1, ?_, a3⟩
  by_cases h0 : s.M.K.ph = 0
  · rw [if_pos ⟨h3, h0⟩]; rwa [if_pos h0] at a2
  · rw [if_neg (fun h => h0 h.2)]; rwa [if_neg h0] at a2
end

end Go.Proofs.YtehmoikbeflkaaaGreat
