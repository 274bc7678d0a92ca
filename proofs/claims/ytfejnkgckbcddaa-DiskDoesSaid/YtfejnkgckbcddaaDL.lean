/- A disk of which all blocks lie behind a world; the examples of the chapter (awake). -/
import Derived.Test.YtfejnkgckbcddaaDK
namespace Go.Proofs.Ytfejnkgckbcddaa
open Go.ChangeShapes Go.WideShapes Go.ChangeAt Go.RowKit
attribute [local go_sem] ownAt ownUpon mixAt mixUpon

def At (w0 w : World) (g : Nat) (s : DS) : Prop := ∃ F, DiskAt w g F s ∧ Below w0.heap.size w0 w ∧ ∀ b ∈ F, w0.heap.size ≤ b
theorem At.below {w0 w : World} {g : Nat} {s : DS} (h : At w0 w g s) : Below w0.heap.size w0 w := by obtain ⟨_, _, h, _⟩ := h; exact h
theorem At.up {w0 w w' : World} {g : Nat} {s : DS} (h : At w0 w g s) (hb : Below w.heap.size w w') : At w0 w' g s := by
  obtain ⟨F, h1, h2, h3⟩ := h
  exact ⟨F, h1.up hb, below_step h2 hb, h3⟩
theorem at_left {w0 w : World} {g : Nat} {s s' : DS} {er : Int} {f : FuncId} {args : Array Value} (h : At w0 w g s) (k : ∀ F, DiskAt w g F s → Calls Try.prog f args w (Left w g F er s')) : Calls Try.prog f args w fun e w' => e = .returned (.int .i64 er) ∧ At w0 w' g s' := by
  obtain ⟨F, h1, h2, h3⟩ := h
  refine (k F h1).mono fun e w' hl => ?_
  obtain ⟨he, F', k1, k2, k3⟩ := hl
  refine ⟨he, F', k1, h2.trans (k2.below h3 h2.size), fun b hb => ?_⟩
  rcases k3 b hb with h | h
  · exact h3 b h
  · exact Nat.le_trans h2.size h
theorem at_write {w0 w : World} {g : Nat} {s s' : DS} {er : Int} (t : ByteArray) (h : At w0 w g s) (hf : Fit s) (hv : writeV s t.data.toList = (er, s')) : Calls Try.prog 18 #[.pointer (some ⟨g, 0, none⟩), .string t] w fun e w' => e = .returned (.int .i64 er) ∧ At w0 w' g s' :=
  at_left h fun F hd => by have := write_any w g F t s hd hf; rwa [hv] at this
theorem at_sync {w0 w : World} {g : Nat} {s s' : DS} {er : Int} (h : At w0 w g s) (hf : Fit s) (hv : syncV s = (er, s')) : Calls Try.prog 20 #[.pointer (some ⟨g, 0, none⟩)] w fun e w' => e = .returned (.int .i64 er) ∧ At w0 w' g s' :=
  at_left h fun F hd => by have := sync_any w g F s hd hf; rwa [hv] at this
theorem at_replace {w0 w : World} {g : Nat} {s s' : DS} {er : Int} (t : ByteArray) (h : At w0 w g s) (hf : Fit s) (hv : replaceV s t.data.toList = (er, s')) : Calls Try.prog 19 #[.pointer (some ⟨g, 0, none⟩), .string t] w fun e w' => e = .returned (.int .i64 er) ∧ At w0 w' g s' :=
  at_left h fun F hd => by have := replace_any w g F t s hd hf; rwa [hv] at this
theorem at_crash {w0 w : World} {g : Nat} {s s' : DS} {er : Int} (k : Int) (h : At w0 w g s) (hf : Fit s) (hv : crashV s k = (er, s')) : Calls Try.prog 21 #[.pointer (some ⟨g, 0, none⟩), .int .i64 k] w fun e w' => e = .returned (.int .i64 er) ∧ At w0 w' g s' :=
  at_left h fun F hd => by have := crash_any w g F k s hd hf; rwa [hv] at this
theorem at_restart {w0 w : World} {g : Nat} {s s' : DS} {er : Int} (h : At w0 w g s) (hv : restartV s = (er, s')) : Calls Try.prog 22 #[.pointer (some ⟨g, 0, none⟩)] w fun e w' => e = .returned (.int .i64 er) ∧ At w0 w' g s' :=
  at_left h fun F hd => by have := restart_any w g F s hd; rwa [hv] at this
theorem at_contents {w0 w : World} {g : Nat} {s : DS} {x : ByteArray} (h : At w0 w g s) (hf : Fit s) (hv : (⟨(contV s).toArray⟩ : ByteArray) = x) : Calls Try.prog 12 #[.pointer (some ⟨g, 0, none⟩)] w fun e w' => e = .returned (.string x) ∧ At w0 w' g s := by
  obtain ⟨F, h1, h2, h3⟩ := h
  subst hv
  exact (Contents_any w g F s h1 hf).mono fun e w' ⟨he, hb⟩ => ⟨he, F, h1.up hb, below_step h2 hb, h3⟩
theorem at_synced {w0 w : World} {g : Nat} {s : DS} {n : Int} (h : At w0 w g s) (hv : (if s.sz = 0 then 0 else (s.dur.length : Int)) = n) : Calls Try.prog 14 #[.pointer (some ⟨g, 0, none⟩)] w fun e w' => e = .returned (.int .i64 n) ∧ At w0 w' g s := by
  obtain ⟨F, h1, h2, h3⟩ := h
  subst hv
  exact (synced_any w g F s h1).mono fun e w' ⟨he, hw⟩ => by subst hw; exact ⟨he, F, h1, h2, h3⟩
theorem at_down {w0 w : World} {g : Nat} {s : DS} {r : Bool} (h : At w0 w g s) (hv : (rdy s == 22) = r) : Calls Try.prog 16 #[.pointer (some ⟨g, 0, none⟩)] w fun e w' => e = .returned (.bool r) ∧ At w0 w' g s := by
  obtain ⟨F, h1, h2, h3⟩ := h
  subst hv
  exact (down_any w g F s h1).mono fun e w' ⟨he, hw⟩ => by subst hw; exact ⟨he, F, h1, h2, h3⟩
theorem at_new {w0 w : World} (sz : Int) (hb : Below w0.heap.size w0 w) (h1 : 1 ≤ sz) (h2 : sz ≤ 262144) : Calls Try.prog 6 #[.int .i64 sz] w fun e w' => ∃ g, e = .returned (.tuple #[.pointer (some ⟨g, 0, none⟩), .int .i64 0]) ∧ At w0 w' g ⟨sz, [], [], false, [], false⟩ :=
  (newDisk_yes sz w h1 h2).mono fun e w' ⟨he, hw⟩ => by
    subst hw
    exact ⟨_, he, _, DiskAt.new w sz, below_box hb _, fun b hb' => by (simp only [List.mem_singleton] at hb'; subst hb'; exact hb.size)⟩
theorem nil_ready (f : FuncId) (args : Array Value) (w : World) (h : Calls Try.prog f args w fun e w' => e = .returned (.int .i64 10) ∧ w = w') : Calls Try.prog f args w fun e w' => e = .returned (.int .i64 10) ∧ w = w' := h
theorem nil_Write (t : ByteArray) (w : World) : Calls Try.prog 18 #[.pointer none, .string t] w fun e w' => e = .returned (.int .i64 10) ∧ w = w' := by
  go_enter Try.func18, Try.ntmps18
  go_wp2_with (go_at_call 28; refine (ready_nil _).mono ?_; rintro _ _ ⟨rfl, rfl⟩)
  go_ret
  exact ⟨rfl, rfl⟩
theorem nil_Sync (w : World) : Calls Try.prog 20 #[.pointer none] w fun e w' => e = .returned (.int .i64 10) ∧ w = w' := by
  go_enter Try.func20, Try.ntmps20
  go_wp2_with (go_at_call 28; refine (ready_nil _).mono ?_; rintro _ _ ⟨rfl, rfl⟩)
  go_ret
  exact ⟨rfl, rfl⟩
theorem nil_Replace (t : ByteArray) (w : World) : Calls Try.prog 19 #[.pointer none, .string t] w fun e w' => e = .returned (.int .i64 10) ∧ w = w' := by
  go_enter Try.func19, Try.ntmps19
  go_wp2_with (go_at_call 28; refine (ready_nil _).mono ?_; rintro _ _ ⟨rfl, rfl⟩)
  go_ret
  exact ⟨rfl, rfl⟩
theorem nil_Crash (k : Int) (w : World) : Calls Try.prog 21 #[.pointer none, .int .i64 k] w fun e w' => e = .returned (.int .i64 10) ∧ w = w' := by
  go_enter Try.func21, Try.ntmps21
  go_wp2_with (go_at_call 28; refine (ready_nil _).mono ?_; rintro _ _ ⟨rfl, rfl⟩)
  go_ret
  exact ⟨rfl, rfl⟩
set_option maxHeartbeats 4000000 in
theorem awake_any (w : World) : Calls Try.prog 9 #[] w fun e w' => e = .returned (.bool true) ∧ Below w.heap.size w w' := by
  go_enter Try.func9, Try.ntmps9
  go_wp2_with fail
  refine (at_new (w0 := w) 100 (Below.refl _ _) (by decide) (by decide)).mono ?_
  rintro _ w1 ⟨g1, rfl, H1⟩
  go_wp2_with fail
  refine (at_write ⟨#[97, 98]⟩ H1 ⟨by decide, by decide, by decide, by decide⟩ (s' := ⟨100, [], [97, 98], false, [], false⟩) (er := 0) rfl).mono ?_
  rintro _ w2 ⟨rfl, H2⟩
  go_wp2_with fail
  refine (at_sync H2 ⟨by decide, by decide, by decide, by decide⟩ (s' := ⟨100, [97, 98], [], false, [], false⟩) (er := 0) rfl).mono ?_
  rintro _ w3 ⟨rfl, H3⟩
  go_wp2_with fail
  refine (at_write ⟨#[99, 100]⟩ H3 ⟨by decide, by decide, by decide, by decide⟩ (s' := ⟨100, [97, 98], [99, 100], false, [], false⟩) (er := 0) rfl).mono ?_
  rintro _ w4 ⟨rfl, H4⟩
  go_wp2_with fail
  refine (at_contents H4 ⟨by decide, by decide, by decide, by decide⟩ (x := ⟨#[97, 98, 99, 100]⟩) rfl).mono ?_
  rintro _ w5 ⟨rfl, H5⟩
  go_wp2_with fail
  refine (at_synced H5 (n := 2) rfl).mono ?_
  rintro _ w6 ⟨rfl, H6⟩
  go_wp2_with fail
  refine (at_crash (1) H6 ⟨by decide, by decide, by decide, by decide⟩ (s' := ⟨100, [97, 98, 99], [], false, [], true⟩) (er := 0) rfl).mono ?_
  rintro _ w7 ⟨rfl, H7⟩
  go_wp2_with fail
  refine (at_down H7 (r := true) rfl).mono ?_
  rintro _ w8 ⟨rfl, H8⟩
  go_wp2_with fail
  refine (at_contents H8 ⟨by decide, by decide, by decide, by decide⟩ (x := ⟨#[]⟩) rfl).mono ?_
  rintro _ w9 ⟨rfl, H9⟩
  go_wp2_with fail
  refine (at_write ⟨#[120]⟩ H9 ⟨by decide, by decide, by decide, by decide⟩ (s' := ⟨100, [97, 98, 99], [], false, [], true⟩) (er := 22) rfl).mono ?_
  rintro _ w10 ⟨rfl, H10⟩
  go_wp2_with fail
  refine (at_restart H10 (s' := ⟨100, [97, 98, 99], [], false, [], false⟩) (er := 0) rfl).mono ?_
  rintro _ w11 ⟨rfl, H11⟩
  go_wp2_with fail
  refine (at_restart H11 (s' := ⟨100, [97, 98, 99], [], false, [], false⟩) (er := 10) rfl).mono ?_
  rintro _ w12 ⟨rfl, H12⟩
  go_wp2_with fail
  refine (at_contents H12 ⟨by decide, by decide, by decide, by decide⟩ (x := ⟨#[97, 98, 99]⟩) rfl).mono ?_
  rintro _ w13 ⟨rfl, H13⟩
  go_wp2_with fail
  refine (at_new (w0 := w) 3 H13.below (by decide) (by decide)).mono ?_
  rintro _ w14 ⟨g14, rfl, H14⟩
  go_wp2_with fail
  refine (at_write ⟨#[97, 98]⟩ H14 ⟨by decide, by decide, by decide, by decide⟩ (s' := ⟨3, [], [97, 98], false, [], false⟩) (er := 0) rfl).mono ?_
  rintro _ w15 ⟨rfl, H15⟩
  go_wp2_with fail
  refine (at_sync H15 ⟨by decide, by decide, by decide, by decide⟩ (s' := ⟨3, [97, 98], [], false, [], false⟩) (er := 0) rfl).mono ?_
  rintro _ w16 ⟨rfl, H16⟩
  go_wp2_with fail
  refine (at_write ⟨#[99]⟩ H16 ⟨by decide, by decide, by decide, by decide⟩ (s' := ⟨3, [97, 98], [99], false, [], false⟩) (er := 0) rfl).mono ?_
  rintro _ w17 ⟨rfl, H17⟩
  go_wp2_with fail
  refine (at_write ⟨#[100]⟩ H17 ⟨by decide, by decide, by decide, by decide⟩ (s' := ⟨3, [97, 98], [99], false, [], false⟩) (er := 3) rfl).mono ?_
  rintro _ w18 ⟨rfl, H18⟩
  go_wp2_with fail
  refine (at_replace ⟨#[120]⟩ H18 ⟨by decide, by decide, by decide, by decide⟩ (s' := ⟨3, [97, 98], [99], true, [120], false⟩) (er := 0) rfl).mono ?_
  rintro _ w19 ⟨rfl, H19⟩
  go_wp2_with fail
  refine (at_write ⟨#[121]⟩ H19 ⟨by decide, by decide, by decide, by decide⟩ (s' := ⟨3, [97, 98], [99], true, [120, 121], false⟩) (er := 0) rfl).mono ?_
  rintro _ w20 ⟨rfl, H20⟩
  go_wp2_with fail
  refine (at_contents H20 ⟨by decide, by decide, by decide, by decide⟩ (x := ⟨#[120, 121]⟩) rfl).mono ?_
  rintro _ w21 ⟨rfl, H21⟩
  go_wp2_with fail
  refine (at_crash (9) H21 ⟨by decide, by decide, by decide, by decide⟩ (s' := ⟨3, [97, 98, 99], [], false, [], true⟩) (er := 0) rfl).mono ?_
  rintro _ w22 ⟨rfl, H22⟩
  go_wp2_with fail
  refine (at_restart H22 (s' := ⟨3, [97, 98, 99], [], false, [], false⟩) (er := 0) rfl).mono ?_
  rintro _ w23 ⟨rfl, H23⟩
  go_wp2_with fail
  refine (at_contents H23 ⟨by decide, by decide, by decide, by decide⟩ (x := ⟨#[97, 98, 99]⟩) rfl).mono ?_
  rintro _ w24 ⟨rfl, H24⟩
  go_wp2_with fail
  refine (newDisk_no 0 _ (by decide)).mono ?_
  rintro _ w25 ⟨rfl, rfl⟩
  go_wp2_with fail
  refine (nil_Sync _).mono ?_
  rintro _ w26 ⟨rfl, rfl⟩
  go_wp2_with fail
  refine (contents_nil _).mono ?_
  rintro _ w27 ⟨rfl, rfl⟩
  go_wp2_with fail
  refine (at_crash (-1) H24 ⟨by decide, by decide, by decide, by decide⟩ (s' := ⟨3, [97, 98, 99], [], false, [], false⟩) (er := 2) rfl).mono ?_
  rintro _ wz ⟨rfl, HZ⟩
  go_wp2
  go_ret
  exact ⟨rfl, HZ.below⟩
end Go.Proofs.Ytfejnkgckbcddaa
