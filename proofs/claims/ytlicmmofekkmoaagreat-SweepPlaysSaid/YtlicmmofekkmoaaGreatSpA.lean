import Derived.Test.YtlicmmofekkmoaaGreatRiV
set_option maxHeartbeats 1000000
set_option maxRecDepth 100000
namespace Go.Proofs.YtlicmmofekkmoaaGreat
open Go.RowKit
set_option linter.unusedVariables false
set_option linter.unusedSimpArgs false
def FD (w0 w:World) (a m:Nat) (LA:ArL) (LM:MkL) (x y:Nat) (A:Ar) (M:Mk) (s:Sys) (q:Nat):Prop:=Fo (fun _=>False) w0 w a m LA LM x y A M s.A s.M q
theorem mvref_make {w0:World} {LA:ArL} {LM:MkL} {x y qq:Nat} {A:Ar} {M:Mk} (a m:Nat) (k p q r c ms:Nat) (s:Sys) (w:World) (h:FD w0 w a m LA LM x y A M s qq) (hok:s.Ok) (hz:¬ ms=0) (h4:ms≤4) (hk:k<256) (hp:p<256) (hq:q<256) (hr:r<256) (hc:c<256) (hk8:(k:Int) % 8=0∨(k:Int) % 8=1):
 Calls Tryz.prog 25 #[.agg #[.int .u8 k,.int .u8 p,.int .u8 q,.int .u8 r,.int .u8 c],.pointer (some ⟨x,0,none⟩),.pointer (some ⟨y,0,none⟩),.int .i64 ms] w fun e w'=>e = .returned (.tuple #[])∧FD w0 w' a m LA LM x y A M ⟨(s.A.makeR ((p:Int) % ms) ((r:Int) % 5) false).A,if (s.A.makeR ((p:Int) % ms) ((r:Int) % 5) false).e=0 then (s.M.madeR (s.A.makeR ((p:Int) % ms) ((r:Int) % 5) false).now).1 else s.M⟩ qq∧Keeps (Ft w w0.heap.size) w w':=by
 have HA:=hid (fun W (hk:Keeps (fun _=>False) w W)=>Fo.dmake (Fo.quiet h hk) (fun z h=>h.elim) ((p:Int) % ms) ((r:Int) % 5) false)
 obtain⟨R,hR⟩:∃ R,s.A.makeR ((p:Int) % ms) ((r:Int) % 5) false=R:=⟨_,rfl⟩
 rw [hR] at HA ⊢
 clear h hR hok
 rcases hk8 with hk8 | hk8 <;> by_cases he:R.e=0
 ·rw [if_pos he]
  rw [he] at HA
  clear he
  go_enter Tryz.func25,Tryz.ntmps25
  go_wp2_with fail
  go_quiet (fail)
  go_wp2_with fail
  refine (HA.out _ (((Keeps.refl _ _).alloc _).drewN _)).mono ?_
  rintro e w1 ⟨rfl,hd,hka⟩
  dsimp only [Rf.val]
  have HD:=hid hd;have HKA:=hid (Ft.trans (((Keeps.refl (fun _=>False) w).alloc _).drewN _).up hka)
  clear hd hka
  go_wp2_with fail
  refine (Fo.dmade (Fo.quiet HD.out ((Keeps.refl _ _).alloc _)) R.now).mono ?_
  rintro e w2 ⟨rfl,hd2⟩
  have HD2:=hid hd2
  clear hd2
  go_wp2_with fail
  go_end0
  exact⟨rfl,HD2.out.1,Ft.trans (HKA.out.alloc _) HD2.out.2⟩
 ·rw [if_neg he]
  have hn0:(R.e == 0)=false:=by simpa using he
  clear he
  go_enter Tryz.func25,Tryz.ntmps25
  go_wp2_with fail
  go_quiet (fail)
  go_wp2_with fail
  refine (HA.out _ (((Keeps.refl _ _).alloc _).drewN _)).mono ?_
  rintro e w1 ⟨rfl,hd,hka⟩
  dsimp only [Rf.val]
  have HD:=hid hd;have HKA:=hid (Ft.trans (((Keeps.refl (fun _=>False) w).alloc _).drewN _).up hka)
  clear hd hka
  go_wp2_with fail
  go_end0
  exact⟨rfl,Fo.quiet HD.out ((Keeps.refl _ _).alloc _),HKA.out.alloc _⟩
 ·rw [if_pos he]
  rw [he] at HA
  clear he
  go_enter Tryz.func25,Tryz.ntmps25
  go_wp2_with fail
  go_quiet (fail)
  go_wp2_with fail
  refine (HA.out _ (((Keeps.refl _ _).alloc _).drewN _)).mono ?_
  rintro e w1 ⟨rfl,hd,hka⟩
  dsimp only [Rf.val]
  have HD:=hid hd;have HKA:=hid (Ft.trans (((Keeps.refl (fun _=>False) w).alloc _).drewN _).up hka)
  clear hd hka
  go_wp2_with fail
  refine (Fo.dmade (Fo.quiet HD.out ((Keeps.refl _ _).alloc _)) R.now).mono ?_
  rintro e w2 ⟨rfl,hd2⟩
  have HD2:=hid hd2
  clear hd2
  go_wp2_with fail
  go_end0
  exact⟨rfl,HD2.out.1,Ft.trans (HKA.out.alloc _) HD2.out.2⟩
 ·rw [if_neg he]
  have hn0:(R.e == 0)=false:=by simpa using he
  clear he
  go_enter Tryz.func25,Tryz.ntmps25
  go_wp2_with fail
  go_quiet (fail)
  go_wp2_with fail
  refine (HA.out _ (((Keeps.refl _ _).alloc _).drewN _)).mono ?_
  rintro e w1 ⟨rfl,hd,hka⟩
  dsimp only [Rf.val]
  have HD:=hid hd;have HKA:=hid (Ft.trans (((Keeps.refl (fun _=>False) w).alloc _).drewN _).up hka)
  clear hd hka
  go_wp2_with fail
  go_end0
  exact⟨rfl,Fo.quiet HD.out ((Keeps.refl _ _).alloc _),HKA.out.alloc _⟩
theorem mvref_store {w0:World} {LA:ArL} {LM:MkL} {x y qq:Nat} {A:Ar} {M:Mk} (a m:Nat) (k p q r c ms:Nat) (s:Sys) (w:World) (h:FD w0 w a m LA LM x y A M s qq) (hok:s.Ok) (hz:¬ ms=0) (h4:ms≤4) (hk:k<256) (hp:p<256) (hq:q<256) (hr:r<256) (hc:c<256) (hk8:(k:Int) % 8=2∨(k:Int) % 8=3):
 Calls Tryz.prog 25 #[.agg #[.int .u8 k,.int .u8 p,.int .u8 q,.int .u8 r,.int .u8 c],.pointer (some ⟨x,0,none⟩),.pointer (some ⟨y,0,none⟩),.int .i64 ms] w fun e w'=>e = .returned (.tuple #[])∧FD w0 w' a m LA LM x y A M (Sys.told (s.A.storeR ((p:Int) % ms) ((q:Int) % 8) ((r:Int) % 4) ((c:Int) % 9 - 1)) s ((p:Int) % ms)) qq∧Keeps (Ft w w0.heap.size) w w':=by
 have HA:=hid (fun W (hk:Keeps (fun _=>False) w W)=>Fo.dstore (Fo.quiet h hk) (fun z h=>h.elim) ((p:Int) % ms) ((q:Int) % 8) ((r:Int) % 4) ((c:Int) % 9 - 1))
 unfold Sys.told
 obtain⟨R,hR⟩:∃ R,s.A.storeR ((p:Int) % ms) ((q:Int) % 8) ((r:Int) % 4) ((c:Int) % 9 - 1)=R:=⟨_,rfl⟩
 rw [hR] at HA ⊢
 clear h hR hok
 rcases hk8 with hk8 | hk8 <;> by_cases he:R.e=0
 ·rw [if_pos he]
  rw [he] at HA
  clear he
  go_enter Tryz.func25,Tryz.ntmps25
  go_wp2_with fail
  go_quiet (fail)
  go_wp2_with fail
  refine (HA.out _ (((Keeps.refl _ _).alloc _).drewN _)).mono ?_
  rintro e w1 ⟨rfl,hd,hka⟩
  dsimp only [Rf.val]
  have HD:=hid hd;have HKA:=hid (Ft.trans (((Keeps.refl (fun _=>False) w).alloc _).drewN _).up hka)
  clear hd hka
  go_wp2_with fail
  refine (Fo.dwrote (Fo.quiet HD.out (((Keeps.refl _ _).alloc _).alloc _)) ((p:Int) % ms) R.was R.now).mono ?_
  rintro e w2 ⟨rfl,hd2⟩
  have HD2:=hid hd2
  clear hd2
  go_wp2_with fail
  go_end0
  exact⟨rfl,HD2.out.1,Ft.trans ((HKA.out.alloc _).alloc _) HD2.out.2⟩
 ·rw [if_neg he]
  have hn0:(R.e == 0)=false:=by simpa using he
  clear he
  go_enter Tryz.func25,Tryz.ntmps25
  go_wp2_with fail
  go_quiet (fail)
  go_wp2_with fail
  refine (HA.out _ (((Keeps.refl _ _).alloc _).drewN _)).mono ?_
  rintro e w1 ⟨rfl,hd,hka⟩
  dsimp only [Rf.val]
  have HD:=hid hd;have HKA:=hid (Ft.trans (((Keeps.refl (fun _=>False) w).alloc _).drewN _).up hka)
  clear hd hka
  go_wp2_with fail
  go_end0
  exact⟨rfl,Fo.quiet HD.out (((Keeps.refl _ _).alloc _).alloc _),(HKA.out.alloc _).alloc _⟩
 ·rw [if_pos he]
  rw [he] at HA
  clear he
  go_enter Tryz.func25,Tryz.ntmps25
  go_wp2_with fail
  go_quiet (fail)
  go_wp2_with fail
  refine (HA.out _ (((Keeps.refl _ _).alloc _).drewN _)).mono ?_
  rintro e w1 ⟨rfl,hd,hka⟩
  dsimp only [Rf.val]
  have HD:=hid hd;have HKA:=hid (Ft.trans (((Keeps.refl (fun _=>False) w).alloc _).drewN _).up hka)
  clear hd hka
  go_wp2_with fail
  refine (Fo.dwrote (Fo.quiet HD.out (((Keeps.refl _ _).alloc _).alloc _)) ((p:Int) % ms) R.was R.now).mono ?_
  rintro e w2 ⟨rfl,hd2⟩
  have HD2:=hid hd2
  clear hd2
  go_wp2_with fail
  go_end0
  exact⟨rfl,HD2.out.1,Ft.trans ((HKA.out.alloc _).alloc _) HD2.out.2⟩
 ·rw [if_neg he]
  have hn0:(R.e == 0)=false:=by simpa using he
  clear he
  go_enter Tryz.func25,Tryz.ntmps25
  go_wp2_with fail
  go_quiet (fail)
  go_wp2_with fail
  refine (HA.out _ (((Keeps.refl _ _).alloc _).drewN _)).mono ?_
  rintro e w1 ⟨rfl,hd,hka⟩
  dsimp only [Rf.val]
  have HD:=hid hd;have HKA:=hid (Ft.trans (((Keeps.refl (fun _=>False) w).alloc _).drewN _).up hka)
  clear hd hka
  go_wp2_with fail
  go_end0
  exact⟨rfl,Fo.quiet HD.out (((Keeps.refl _ _).alloc _).alloc _),(HKA.out.alloc _).alloc _⟩
theorem mvref_drop {w0:World} {LA:ArL} {LM:MkL} {x y qq:Nat} {A:Ar} {M:Mk} (a m:Nat) (k p q r c ms:Nat) (s:Sys) (w:World) (h:FD w0 w a m LA LM x y A M s qq) (hok:s.Ok) (hz:¬ ms=0) (h4:ms≤4) (hk:k<256) (hp:p<256) (hq:q<256) (hr:r<256) (hc:c<256) (hk8:(k:Int) % 8=4):
 Calls Tryz.prog 25 #[.agg #[.int .u8 k,.int .u8 p,.int .u8 q,.int .u8 r,.int .u8 c],.pointer (some ⟨x,0,none⟩),.pointer (some ⟨y,0,none⟩),.int .i64 ms] w fun e w'=>e = .returned (.tuple #[])∧FD w0 w' a m LA LM x y A M ⟨(s.A.dropR ((p:Int) % ms) ((q:Int) % 8)).A,s.M⟩ qq∧Keeps (Ft w w0.heap.size) w w':=by
 have HA:=hid (fun W (hk:Keeps (fun _=>False) w W)=>Fo.ddrop (Fo.quiet h hk) (fun z h=>h.elim) ((p:Int) % ms) ((q:Int) % 8))
 clear h hok
 go_enter Tryz.func25,Tryz.ntmps25
 go_wp2_with fail
 go_quiet (fail)
 go_wp2_with fail
 refine (HA.out _ (((Keeps.refl _ _).alloc _).drewN _)).mono ?_
 rintro e w1 ⟨rfl,hd,hka⟩
 dsimp only [Rf.val]
 have HD:=hid hd;have HKA:=hid (Ft.trans (((Keeps.refl (fun _=>False) w).alloc _).drewN _).up hka)
 clear hd hka
 go_wp2_with fail
 go_end0
 exact⟨rfl,HD.out,HKA.out⟩
theorem mvref_put {w0:World} {LA:ArL} {LM:MkL} {x y qq:Nat} {A:Ar} {M:Mk} (a m:Nat) (k p q r c ms:Nat) (s:Sys) (w:World) (h:FD w0 w a m LA LM x y A M s qq) (hok:s.Ok) (hz:¬ ms=0) (h4:ms≤4) (hk:k<256) (hp:p<256) (hq:q<256) (hr:r<256) (hc:c<256) (hk8:(k:Int) % 8=5):
 Calls Tryz.prog 25 #[.agg #[.int .u8 k,.int .u8 p,.int .u8 q,.int .u8 r,.int .u8 c],.pointer (some ⟨x,0,none⟩),.pointer (some ⟨y,0,none⟩),.int .i64 ms] w fun e w'=>e = .returned (.tuple #[])∧FD w0 w' a m LA LM x y A M (Sys.told (s.A.putR ((p:Int) % ms) ((q:Int) % 8 - 1) ((r:Int) % 3)) s ((p:Int) % ms)) qq∧Keeps (Ft w w0.heap.size) w w':=by
 have HA:=hid (fun W (hk:Keeps (fun _=>False) w W)=>Fo.dput (Fo.quiet h hk) (fun z h=>h.elim) ((p:Int) % ms) ((q:Int) % 8 - 1) ((r:Int) % 3))
 unfold Sys.told
 obtain⟨R,hR⟩:∃ R,s.A.putR ((p:Int) % ms) ((q:Int) % 8 - 1) ((r:Int) % 3)=R:=⟨_,rfl⟩
 rw [hR] at HA ⊢
 clear h hR hok
 by_cases he:R.e=0
 ·rw [if_pos he]
  rw [he] at HA
  clear he
  go_enter Tryz.func25,Tryz.ntmps25
  go_wp2_with fail
  go_quiet (fail)
  go_wp2_with fail
  refine (HA.out _ (((Keeps.refl _ _).alloc _).drewN _)).mono ?_
  rintro e w1 ⟨rfl,hd,hka⟩
  dsimp only [Rf.val]
  have HD:=hid hd;have HKA:=hid (Ft.trans (((Keeps.refl (fun _=>False) w).alloc _).drewN _).up hka)
  clear hd hka
  go_wp2_with fail
  refine (Fo.dwrote (Fo.quiet HD.out (((Keeps.refl _ _).alloc _).alloc _)) ((p:Int) % ms) R.was R.now).mono ?_
  rintro e w2 ⟨rfl,hd2⟩
  have HD2:=hid hd2
  clear hd2
  go_wp2_with fail
  go_end0
  exact⟨rfl,HD2.out.1,Ft.trans ((HKA.out.alloc _).alloc _) HD2.out.2⟩
 ·rw [if_neg he]
  have hn0:(R.e == 0)=false:=by simpa using he
  clear he
  go_enter Tryz.func25,Tryz.ntmps25
  go_wp2_with fail
  go_quiet (fail)
  go_wp2_with fail
  refine (HA.out _ (((Keeps.refl _ _).alloc _).drewN _)).mono ?_
  rintro e w1 ⟨rfl,hd,hka⟩
  dsimp only [Rf.val]
  have HD:=hid hd;have HKA:=hid (Ft.trans (((Keeps.refl (fun _=>False) w).alloc _).drewN _).up hka)
  clear hd hka
  go_wp2_with fail
  go_end0
  exact⟨rfl,Fo.quiet HD.out (((Keeps.refl _ _).alloc _).alloc _),(HKA.out.alloc _).alloc _⟩
theorem mvref_get {w0:World} {LA:ArL} {LM:MkL} {x y qq:Nat} {A:Ar} {M:Mk} (a m:Nat) (k p q r c ms:Nat) (s:Sys) (w:World) (h:FD w0 w a m LA LM x y A M s qq) (hok:s.Ok) (hz:¬ ms=0) (h4:ms≤4) (hk:k<256) (hp:p<256) (hq:q<256) (hr:r<256) (hc:c<256) (hk8:(k:Int) % 8=6):
 Calls Tryz.prog 25 #[.agg #[.int .u8 k,.int .u8 p,.int .u8 q,.int .u8 r,.int .u8 c],.pointer (some ⟨x,0,none⟩),.pointer (some ⟨y,0,none⟩),.int .i64 ms] w fun e w'=>e = .returned (.tuple #[])∧FD w0 w' a m LA LM x y A M ⟨(s.A.getR ((p:Int) % ms) ((r:Int) % 3)).A,s.M⟩ qq∧Keeps (Ft w w0.heap.size) w w':=by
 have HA:=hid (fun W (hk:Keeps (fun _=>False) w W)=>Fo.dget (Fo.quiet h hk) (fun z h=>h.elim) ((p:Int) % ms) ((r:Int) % 3))
 clear h hok
 go_enter Tryz.func25,Tryz.ntmps25
 go_wp2_with fail
 go_quiet (fail)
 go_wp2_with fail
 refine (HA.out _ (((Keeps.refl _ _).alloc _).drewN _)).mono ?_
 rintro e w1 ⟨rfl,hd,hka⟩
 dsimp only [Rf.val]
 have HD:=hid hd;have HKA:=hid (Ft.trans (((Keeps.refl (fun _=>False) w).alloc _).drewN _).up hka)
 clear hd hka
 go_wp2_with fail
 go_end0
 exact⟨rfl,HD.out,HKA.out⟩
theorem mvref_load {w0:World} {LA:ArL} {LM:MkL} {x y qq:Nat} {A:Ar} {M:Mk} (a m:Nat) (k p q r c ms:Nat) (s:Sys) (w:World) (h:FD w0 w a m LA LM x y A M s qq) (hok:s.Ok) (hz:¬ ms=0) (h4:ms≤4) (hk:k<256) (hp:p<256) (hq:q<256) (hr:r<256) (hc:c<256) (hk8:(k:Int) % 8=7):
 Calls Tryz.prog 25 #[.agg #[.int .u8 k,.int .u8 p,.int .u8 q,.int .u8 r,.int .u8 c],.pointer (some ⟨x,0,none⟩),.pointer (some ⟨y,0,none⟩),.int .i64 ms] w fun e w'=>e = .returned (.tuple #[])∧FD w0 w' a m LA LM x y A M ⟨(s.A.loadR ((p:Int) % ms) ((q:Int) % 8) ((r:Int) % 4)).A,s.M⟩ qq∧Keeps (Ft w w0.heap.size) w w':=by
 have HA:=hid (fun W (hk:Keeps (fun _=>False) w W)=>Fo.dload (Fo.quiet h hk) (fun z h=>h.elim) ((p:Int) % ms) ((q:Int) % 8) ((r:Int) % 4))
 clear h hok
 go_enter Tryz.func25,Tryz.ntmps25
 go_wp2_with fail
 go_quiet (fail)
 go_wp2_with fail
 refine (HA.out _ (((Keeps.refl _ _).alloc _).drewN _)).mono ?_
 rintro e w1 ⟨rfl,hd,hka⟩
 dsimp only [Rf.val]
 have HD:=hid hd;have HKA:=hid (Ft.trans (((Keeps.refl (fun _=>False) w).alloc _).drewN _).up hka)
 clear hd hka
 go_wp2_with fail
 go_end0
 exact⟨rfl,HD.out,HKA.out⟩
theorem mvref {w0:World} {LA:ArL} {LM:MkL} {x y qq:Nat} {A:Ar} {M:Mk} (a m:Nat) (z:Mv) (ms:Nat) (s:Sys) (w:World) (h:FD w0 w a m LA LM x y A M s qq) (hok:s.Ok) (hz:¬ ms=0) (h4:ms≤4) (hx:z.Byte):
 Calls Tryz.prog 25 #[z.val,.pointer (some ⟨x,0,none⟩),.pointer (some ⟨y,0,none⟩),.int .i64 ms] w fun e w'=>e = .returned (.tuple #[])∧FD w0 w' a m LA LM x y A M (z.doR s ms) qq∧Keeps (Ft w w0.heap.size) w w':=by
 obtain⟨k,p,q,r,c⟩:=z
 have e1:((p % ms:Nat):Int)=(p:Int) % ms:=Int.natCast_emod _ _
 have e2:((q % 8:Nat):Int)=(q:Int) % 8:=Int.natCast_emod _ _
 have e3:((r % 4:Nat):Int)=(r:Int) % 4:=Int.natCast_emod _ _
 have e4:((r % 5:Nat):Int)=(r:Int) % 5:=Int.natCast_emod _ _
 have e5:((r % 3:Nat):Int)=(r:Int) % 3:=Int.natCast_emod _ _
 have e6:((c % 9:Nat):Int)=(c:Int) % 9:=Int.natCast_emod _ _
 obtain⟨j,hj⟩:∃ j,k % 8=j:=⟨_,rfl⟩
 have hj8:j<8:=by omega
 unfold Mv.doR Mv.val
 dsimp only
 rw [hj]
 match j,hj8 with
 | 0,_=>rw [e1,e4];exact mvref_make a m k p q r c ms s w h hok hz h4 hx.1 hx.2.1 hx.2.2.1 hx.2.2.2.1 hx.2.2.2.2 (.inl (by omega))
 | 1,_=>rw [e1,e4];exact mvref_make a m k p q r c ms s w h hok hz h4 hx.1 hx.2.1 hx.2.2.1 hx.2.2.2.1 hx.2.2.2.2 (.inr (by omega))
 | 2,_=>rw [e1,e2,e3,e6];exact mvref_store a m k p q r c ms s w h hok hz h4 hx.1 hx.2.1 hx.2.2.1 hx.2.2.2.1 hx.2.2.2.2 (.inl (by omega))
 | 3,_=>rw [e1,e2,e3,e6];exact mvref_store a m k p q r c ms s w h hok hz h4 hx.1 hx.2.1 hx.2.2.1 hx.2.2.2.1 hx.2.2.2.2 (.inr (by omega))
 | 4,_=>rw [e1,e2];exact mvref_drop a m k p q r c ms s w h hok hz h4 hx.1 hx.2.1 hx.2.2.1 hx.2.2.2.1 hx.2.2.2.2 (by omega)
 | 5,_=>rw [e1,e2,e5];exact mvref_put a m k p q r c ms s w h hok hz h4 hx.1 hx.2.1 hx.2.2.1 hx.2.2.2.1 hx.2.2.2.2 (by omega)
 | 6,_=>rw [e1,e5];exact mvref_get a m k p q r c ms s w h hok hz h4 hx.1 hx.2.1 hx.2.2.1 hx.2.2.2.1 hx.2.2.2.2 (by omega)
 | 7,_=>rw [e1,e2,e3];exact mvref_load a m k p q r c ms s w h hok hz h4 hx.1 hx.2.1 hx.2.2.1 hx.2.2.2.1 hx.2.2.2.2 (by omega)
end Go.Proofs.YtlicmmofekkmoaaGreat
