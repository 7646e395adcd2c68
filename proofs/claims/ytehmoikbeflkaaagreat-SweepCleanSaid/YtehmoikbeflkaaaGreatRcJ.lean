/- estraylaw19: names, the arena of the examples. -/
import Derived.Test.YtehmoikbeflkaaaGreatRcI
namespace Go.Proofs.YtehmoikbeflkaaaGreat
open Go.RowKit
set_option linter.unusedVariables false
set_option linter.unusedSimpArgs false

structure Ay (N : Nat) (w0 w : World) (a : Nat) (L : ArL) (A : Ar) : Prop where
  ar : ArIn w a L A
  ok : A.Ok
  lo : ∀ y, L.foot A.many y → N ≤ y
  k : Keeps (fun y => N ≤ y) w0 w
variable {N : Nat} {w0 w w' : World} {a : Nat} {L : ArL} {A A' : Ar}
theorem Ay.quiet (h : Ay N w0 w a L A) (hk : Keeps (fun _ => False) w w') : Ay N w0 w' a L A := ⟨h.ar.keeps0 hk, h.ok, h.lo, h.k.trans hk.up⟩
theorem Ay.op (h : Ay N w0 w a L A) (hk : Keeps (fun y => L.foot A.many y) w w') (ha : ArIn w' a L A') (ok : A'.Ok) (hm : A'.many = A.many) : Ay N w0 w' a L A' :=
  ⟨ha, ok, fun y hy => h.lo y (by rw [← hm]; exact hy), h.k.trans' hk (fun _ _ h => h) (fun y _ hy => h.lo y hy)⟩
theorem Ay.make (h : Ay N w0 w a L A) (m n : Int) (hd : Bool) : Calls Tryz.prog 99 #[.pointer (some ⟨a, 0, none⟩), .int .i64 m, .int .i64 n, .bool hd] w
    fun e w' => e = .returned (.tuple #[(A.makeR m n hd).now.val, .int .i64 (A.makeR m n hd).e]) ∧ Ay N w0 w' a L (A.makeR m n hd).A ∧ Keeps (fun y => L.foot A.many y) w w' :=
  (amake_any a L A m n hd w h.ar h.ok).mono fun _ _ ⟨h1, h2, h3⟩ => ⟨h1, h.op h2 h3 (h.ok.makeR _ _ _) (A.makeR_n _ _ _).2, h2⟩
theorem Ay.store (h : Ay N w0 w a L A) (m i f j : Int) : Calls Tryz.prog 103 #[.pointer (some ⟨a, 0, none⟩), .int .i64 m, .int .i64 i, .int .i64 f, .int .i64 j] w
    fun e w' => e = .returned (.tuple #[(A.storeR m i f j).was.val, (A.storeR m i f j).now.val, .int .i64 (A.storeR m i f j).e]) ∧ Ay N w0 w' a L (A.storeR m i f j).A ∧ Keeps (fun y => L.foot A.many y) w w' :=
  (astore_any a L A m i f j w h.ar h.ok).mono fun _ _ ⟨h1, h2, h3⟩ => ⟨h1, h.op h2 h3 (h.ok.storeR _ _ _ _) (A.storeR_n _ _ _ _).2, h2⟩
theorem Ay.put (h : Ay N w0 w a L A) (m i k : Int) : Calls Tryz.prog 106 #[.pointer (some ⟨a, 0, none⟩), .int .i64 m, .int .i64 i, .int .i64 k] w
    fun e w' => e = .returned (.tuple #[(A.putR m i k).was.val, (A.putR m i k).now.val, .int .i64 (A.putR m i k).e]) ∧ Ay N w0 w' a L (A.putR m i k).A ∧ Keeps (fun y => L.foot A.many y) w w' :=
  (aput_any a L A m i k w h.ar h.ok).mono fun _ _ ⟨h1, h2, h3⟩ => ⟨h1, h.op h2 h3 (h.ok.putR _ _ _) (A.putR_n _ _ _).2, h2⟩
theorem Ay.drop (h : Ay N w0 w a L A) (m i : Int) : Calls Tryz.prog 88 #[.pointer (some ⟨a, 0, none⟩), .int .i64 m, .int .i64 i] w
    fun e w' => e = .returned (.tuple #[(A.dropR m i).now.val, .int .i64 (A.dropR m i).e]) ∧ Ay N w0 w' a L (A.dropR m i).A ∧ Keeps (fun y => L.foot A.many y) w w' :=
  (adrop_any a L A m i w h.ar).mono fun _ _ ⟨h1, h2, h3⟩ => ⟨h1, h.op h2 h3 (h.ok.dropR _ _) (A.dropR_n _ _).2, h2⟩
theorem Ay.load (h : Ay N w0 w a L A) (m i f : Int) : Calls Tryz.prog 101 #[.pointer (some ⟨a, 0, none⟩), .int .i64 m, .int .i64 i, .int .i64 f] w
    fun e w' => e = .returned (.tuple #[(A.loadR m i f).now.val, .int .i64 (A.loadR m i f).e]) ∧ Ay N w0 w' a L (A.loadR m i f).A ∧ Keeps (fun y => L.foot A.many y) w w' :=
  (aload_any a L A m i f w h.ar h.ok).mono fun _ _ ⟨h1, h2, h3⟩ => ⟨h1, h.op h2 h3 (h.ok.loadR _ _ _) (A.loadR_n _ _ _).2, h2⟩
theorem Ay.get (h : Ay N w0 w a L A) (m k : Int) : Calls Tryz.prog 108 #[.pointer (some ⟨a, 0, none⟩), .int .i64 m, .int .i64 k] w
    fun e w' => e = .returned (.tuple #[(A.getR m k).now.val, .int .i64 (A.getR m k).e]) ∧ Ay N w0 w' a L (A.getR m k).A ∧ Keeps (fun y => L.foot A.many y) w w' :=
  (aget_any a L A m k w h.ar h.ok).mono fun _ _ ⟨h1, h2, h3⟩ => ⟨h1, h.op h2 h3 (h.ok.getR _ _) (A.getR_n _ _).2, h2⟩
theorem Ay.free (h : Ay N w0 w a L A) (r : Rf) : Calls Tryz.prog 110 #[.pointer (some ⟨a, 0, none⟩), .agg #[.int .i64 r.s, .int .u32 r.g]] w
    fun e w' => e = .returned (.int .i64 (A.freeR r).2) ∧ Ay N w0 w' a L (A.freeR r).1 ∧ Keeps (fun y => L.foot A.many y) w w' :=
  (afree_any a L A r w h.ar h.ok).mono fun _ _ ⟨h1, h2, h3⟩ => ⟨h1, h.op h2 h3 (h.ok.freeR _) (A.freeR_n _).2, h2⟩
theorem Ay.new (n k : Nat) (w : World) (n1 : 1 ≤ n) (n2 : n ≤ 256) (k1 : 1 ≤ k) (k4 : k ≤ 4) :
    Calls Tryz.prog 24 #[.int .i64 n, .int .i64 k, .int .u32 1] w fun e w' => ∃ a L, e = .returned (.tuple #[.pointer (some ⟨a, 0, none⟩), .int .i64 0]) ∧ Ay w.heap.size w w' a L (Ar.new n k 1) := by
  refine (anew_ok n k 1 w (by omega) (by omega) k1 k4 (by omega) (by omega)).mono ?_
  rintro e w' ⟨a, rfl, hk, L, h1, h2⟩
  rw [Int.toNat_natCast] at h1 h2
  refine ⟨a, L, rfl, h1, Ar.Ok.new n1 n2 k1 k4 (by omega) (by omega), fun y hy => ?_, hk.up⟩
  rcases hy with rfl | rfl | rfl | ⟨j, hj, rfl⟩
  · exact h2.b.1
  · exact h2.t.1
  · exact h2.g.1
  · exact (h2.ss j hj).1
theorem ref19 (s : Int) (w : World) : Calls Tryz.prog 86 #[.int .i64 s] w fun e w' => e = .returned (.agg #[.int .i64 s, .int .u32 1]) ∧ Keeps (fun _ => False) w w' := by
  go_enter Tryz.func86, Tryz.ntmps86
  go_wp2
  have q := alloc_new (w := w) (o := .cells #[.int .i64 s, .int .u32 1] 33)
  obtain ⟨c0, c1, _, _⟩ := cells2 q
  have z0 := isAgg_ref (w.alloc (.cells #[.int .i64 s, .int .u32 1] 33))
  have z1 := sizeOf_ref (w.alloc (.cells #[.int .i64 s, .int .u32 1] 33))
  refine bodyPost_ret_by (v := .agg #[.int .i64 s, .int .u32 1]) (by simp [results, Tryz.results86, go_sem, z0, z1, c0, c1]) rfl ⟨rfl, (Keeps.refl _ _).alloc _⟩
def IntsB (w : World) (v : Value) (l : List Int) : Prop := ∃ b c cur, v = .slice (some ⟨b, 0, none⟩) l.length c ∧ w.heap[b]? = some (.cells cur 3) ∧ ∀ (j : Nat) (x : Int), l[j]? = some x → cur[j]? = some (.int .i64 x)
theorem IntsB.keeps {v : Value} {l : List Int} (h : IntsB w v l) (hk : Keeps (fun _ => False) w w') : IntsB w' v l := by
  obtain ⟨b, c, cur, h1, h2, h3⟩ := h
  exact ⟨b, c, cur, h1, block_keep h2 hk (fun h => h), h3⟩
set_option maxRecDepth 100000 in
theorem refs19 (v : Value) (l : List Int) (w : World) (hv : IntsB w v l) (hn : l.length ≤ 256) :
    Calls Tryz.prog 87 #[v] w fun e w' => ∃ v', e = .returned v' ∧ Row w' w.heap.size v' (l.map fun s => ⟨s, 1⟩) ∧ Keeps (fun _ => False) w w' := by
  obtain ⟨b, c, cur, rfl, hb, hc⟩ := hv
  have HB := hid hb; have HC := hid hc
  clear hb hc
  go_enter Tryz.func87, Tryz.ntmps87
  go_wp2_with fail
  go_loopw [3, 8] (fun s3 ix wr => ∃ (k : Nat) (p : Option Addr) (c : Nat), k ≤ l.length ∧ ix = .int .i64 k ∧ s3 = .slice p k c ∧ Hid (Row wr w.heap.size (.slice p k c) ((l.take k).map fun s => ⟨s, 1⟩)) ∧ Hid (Keeps (fun _ => False) w wr)) (fun _ ix _ => l.length - (intOf ix).toNat)
  case atStart => exact ⟨0, none, 0, Nat.zero_le _, rfl, rfl, hid (Row.nil _ _), hid (Keeps.refl _ _)⟩
  case round =>
    obtain ⟨k, p3, c3, hk, rfl, rfl, HR, HK⟩ := hrel
    have hk0 : (0 : Int) ≤ k := by omega
    by_cases hlt : k < l.length
    · obtain ⟨x, hx⟩ : ∃ x, l[k]? = some x := ⟨_, List.getElem?_eq_getElem hlt⟩
      have c0 := cell_at (block_keep HB.out HK.out (fun h => h)) (HC.out k x hx)
      have hbl := lt_block (block_keep HB.out HK.out (fun h => h))
      have hlt' : (k : Int) < (l.length : Int) := by omega
      have HX := hid hx
      have htl : ((l.take k).map fun s => (⟨s, 1⟩ : Rf)).length = k := by simp; omega
      have HTL := hid htl
      have HL7 := hid (show (((l.take k).map fun s => (⟨s, 1⟩ : Rf)) ++ [(⟨x, 1⟩ : Rf)]).length = k + 1 from by rw [List.length_append, HTL.out]; rfl)
      clear hx htl
      go_wp2_with fail
      refine (ref19 x wr).mono ?_
      rintro e w5 ⟨rfl, k5⟩
      have HK5 := hid (HK.out.trans k5)
      have HR5 := hid (HR.out.keeps k5 (fun _ _ _ _ h => h))
      have HRO := hid (refs_one (x := ⟨x, 1⟩) (alloc_new (w := w5)))
      have HVD := hid (HR5.out.keeps ((Keeps.refl (fun _ => False) _).alloc (.cells #[.int .i64 x, .int .u32 1] 33)) (fun _ _ _ _ h => h))
      have hs5 := HK5.out.size
      clear k5
      go_wp2_with (first
        | (at_builtin; refine wpList_append_refs _ rfl _ _ rfl w.heap.size _ _ ((l.take k).map fun s => ⟨s, 1⟩) [⟨x, 1⟩] rfl rfl HVD.out HRO.out (by rw [HTL.out, List.length_singleton]; omega) (by rw [World.size_alloc]; omega) ?_; intro v7 w7 hr7 hk7 ho7; obtain ⟨p7, c7, rfl⟩ := hr7.refs.slice; rw [HL7.out] at hr7)
        | fail)
      have hlt7 := HVD.out.lt
      refine ⟨⟨k + 1, p7, c7, by omega, by go_num, rfl, ?_, ?_⟩, by simp [intOf]; omega⟩
      · rw [List.take_add_one, HX.out, List.map_append]; exact hid hr7
      · exact hid ((HK5.out.alloc _).trans' hk7 (fun _ _ h => h) (fun y hy hz => by have := (hlt7 y hz).1; omega))
    · have hlt' : ¬ (k : Int) < (l.length : Int) := by omega
      have ht : l.take k = l := List.take_of_length_le (by omega)
      rw [ht] at HR
      clear ht
      go_wp2_with fail
      go_ret
      exact ⟨_, rfl, HR.out, HK.out⟩
/-! the example -/
def exM : Nat → Ar
  | 0 => Ar.new 5 1 1
  | k + 1 => ((exM k).makeR 0 4 false).A
def exX : List (Int × Int × Int) := [(0, 0, 1), (0, 3, 2), (1, 0, 2), (1, 1, 2), (2, 2, 3), (3, 0, 0)]
def exS : List (Int × Int × Int) → Ar
  | [] => exM 5
  | x :: l => ((exS l).storeR 0 x.1 x.2.1 x.2.2).A
def exP : Ar := ((exS exX.reverse).putR 0 4 6).A
def exD : List Int → Ar
  | [] => exP
  | x :: l => ((exD l).dropR 0 x).A
def exA : Ar := exD [1, 2, 3, 4]
def exB : Ar := (exA.dropR 0 0).A
theorem exM_e0 : ((exM 0).makeR 0 4 false).e = 0 := by kernel_rfl
theorem exM_e1 : ((exM 1).makeR 0 4 false).e = 0 := by kernel_rfl
theorem exM_e2 : ((exM 2).makeR 0 4 false).e = 0 := by kernel_rfl
theorem exM_e3 : ((exM 3).makeR 0 4 false).e = 0 := by kernel_rfl
theorem exM_e4 : ((exM 4).makeR 0 4 false).e = 0 := by kernel_rfl
theorem exM_e : ∀ k, k < 5 → ((exM k).makeR 0 4 false).e = 0 := by
  intro k hk
  match k, hk with
  | 0, _ => exact exM_e0
  | 1, _ => exact exM_e1
  | 2, _ => exact exM_e2
  | 3, _ => exact exM_e3
  | 4, _ => exact exM_e4
theorem exS_e0 : ((exS (exX.take 0).reverse).storeR 0 0 0 1).e = 0 := by kernel_rfl
theorem exS_e1 : ((exS (exX.take 1).reverse).storeR 0 0 3 2).e = 0 := by kernel_rfl
theorem exS_e2 : ((exS (exX.take 2).reverse).storeR 0 1 0 2).e = 0 := by kernel_rfl
theorem exS_e3 : ((exS (exX.take 3).reverse).storeR 0 1 1 2).e = 0 := by kernel_rfl
theorem exS_e4 : ((exS (exX.take 4).reverse).storeR 0 2 2 3).e = 0 := by kernel_rfl
theorem exS_e5 : ((exS (exX.take 5).reverse).storeR 0 3 0 0).e = 0 := by kernel_rfl
theorem exS_e : ∀ k x, exX[k]? = some x → ((exS (exX.take k).reverse).storeR 0 x.1 x.2.1 x.2.2).e = 0 := by
  intro k x hx
  match k, hx with
  | 0, hx => obtain rfl := Option.some.inj hx; exact exS_e0
  | 1, hx => obtain rfl := Option.some.inj hx; exact exS_e1
  | 2, hx => obtain rfl := Option.some.inj hx; exact exS_e2
  | 3, hx => obtain rfl := Option.some.inj hx; exact exS_e3
  | 4, hx => obtain rfl := Option.some.inj hx; exact exS_e4
  | 5, hx => obtain rfl := Option.some.inj hx; exact exS_e5
theorem exP_e : ((exS exX.reverse).putR 0 4 6).e = 0 := by kernel_rfl
theorem exD_e0 : ((exD ([4, 3, 2, 1].take 0).reverse).dropR 0 4).e = 0 := by kernel_rfl
theorem exD_e1 : ((exD ([4, 3, 2, 1].take 1).reverse).dropR 0 3).e = 0 := by kernel_rfl
theorem exD_e2 : ((exD ([4, 3, 2, 1].take 2).reverse).dropR 0 2).e = 0 := by kernel_rfl
theorem exD_e3 : ((exD ([4, 3, 2, 1].take 3).reverse).dropR 0 1).e = 0 := by kernel_rfl
theorem exD_e : ∀ (k : Nat) (x : Int), ([4, 3, 2, 1] : List Int)[k]? = some x → ((exD (([4, 3, 2, 1] : List Int).take k).reverse).dropR 0 x).e = 0 := by
  intro k x hx
  match k, hx with
  | 0, hx => obtain rfl := Option.some.inj hx; exact exD_e0
  | 1, hx => obtain rfl := Option.some.inj hx; exact exD_e1
  | 2, hx => obtain rfl := Option.some.inj hx; exact exD_e2
  | 3, hx => obtain rfl := Option.some.inj hx; exact exD_e3
theorem exB_e : (exA.dropR 0 0).e = 0 := by kernel_rfl
theorem ex_all : srt exA.rq.keys = [⟨0, 1⟩, ⟨1, 1⟩, ⟨2, 1⟩, ⟨3, 1⟩, ⟨4, 1⟩] := by kernel_rfl
theorem ex_lost : exA.lostL = [] := by kernel_rfl
theorem ex_way : exA.wayL ⟨3, 1⟩ = [⟨0, 1⟩, ⟨2, 1⟩, ⟨3, 1⟩] := by kernel_rfl
theorem ex_in : decide ((⟨3, 1⟩ : Rf) ∈ exA.rq.keys) = true := by kernel_rfl
theorem ex_ck : ckV exA.H.T 3 1 = 0 := by kernel_rfl
theorem ex_thr : thrE exA.H [⟨0, 0⟩, ⟨2, 1⟩] = 0 := by kernel_rfl
theorem ex_from : fromL exA.H [⟨0, 0⟩, ⟨2, 1⟩] = [⟨0, 1⟩, ⟨1, 1⟩, ⟨2, 1⟩, ⟨3, 1⟩] := by kernel_rfl
theorem ex_cl1 : (thrE exA.H [⟨2, 1⟩, ⟨3, 1⟩] == 0 && closB exA.H ([⟨2, 1⟩, ⟨3, 1⟩].filter (·.nz))) = false ∧ thrE exA.H [⟨2, 1⟩, ⟨3, 1⟩] = 0 := by constructor <;> kernel_rfl
theorem ex_cl2 : (thrE exA.H [⟨0, 1⟩, ⟨1, 1⟩, ⟨2, 1⟩, ⟨3, 1⟩] == 0 && closB exA.H ([⟨0, 1⟩, ⟨1, 1⟩, ⟨2, 1⟩, ⟨3, 1⟩].filter (·.nz))) = true ∧ thrE exA.H [⟨0, 1⟩, ⟨1, 1⟩, ⟨2, 1⟩, ⟨3, 1⟩] = 0 := by constructor <;> kernel_rfl
theorem ey_all : srt exB.rq.keys = [⟨4, 1⟩] := by kernel_rfl
theorem ey_lost : exB.lostL = [⟨0, 1⟩, ⟨1, 1⟩, ⟨2, 1⟩, ⟨3, 1⟩] := by kernel_rfl
theorem ey_in : decide ((⟨3, 1⟩ : Rf) ∈ exB.rq.keys) = false := by kernel_rfl
theorem ey_ck : ckV exB.H.T 3 1 = 0 := by kernel_rfl
end Go.Proofs.YtehmoikbeflkaaaGreat
