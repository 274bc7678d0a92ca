/- The walk of MeterSums of layer 34. -/
import Derived.Test.YtdlkpohjeedbiaaO
namespace Go.Proofs.Ytdlkpohjeedbiaa
open Go.ChangeShapes Go.WideShapes Go.ChangeAt Go.RowKit
attribute [local go_sem high] eql33 neq33

set_option maxHeartbeats 1000000 in
theorem ms_long (a1 a2 a3 a4 b1 b2 b3 b4 : Int) (A : Option Addr) (n cap : Nat) (w : World) (h : decide ((300 : Int) < (n : Int)) = true) : Calls Try.prog 6 #[.agg #[.int .i64 a1, .int .i64 a2, .int .i64 a3, .int .i64 a4], .agg #[.int .i64 b1, .int .i64 b2, .int .i64 b3, .int .i64 b4], .slice A n cap] w fun e w' => e = .returned (.bool true) ∧ Below w.heap.size w w' := by
  go_enter Try.func6, Try.ntmps6
  go_wp2_with fail
  refine (awake_any _).mono ?_
  rintro _ wx1 ⟨rfl, hb⟩
  have A := ((Box.new w 33 #[.int .i64 a1, .int .i64 a2, .int .i64 a3, .int .i64 a4]).alloc _).next hb
  have B := (Box.new ((w).alloc (.cells #[.int .i64 a1, .int .i64 a2, .int .i64 a3, .int .i64 a4] 33)) 33 #[.int .i64 b1, .int .i64 b2, .int .i64 b3, .int .i64 b4]).next hb
  simp only [World.size_alloc] at B
  have hB := below_step (below_box (below_box (Below.refl _ w) _) _) hb
  clear hb
  go_wp2
  go_ret
  exact ⟨rfl, hB⟩
set_option maxHeartbeats 2000000 in
theorem ms_main (a1 a2 a3 a4 b1 b2 b3 b4 : Int) (A : Option Addr) (n cap : Nat) (us : List U4) (w : World) (h : decide ((300 : Int) < (n : Int)) = false) (hn : us.length = n) (hs : Hid (Seg w A (n * 4) (uCell us))) (hbig : n ≤ 300) : Calls Try.prog 6 #[.agg #[.int .i64 a1, .int .i64 a2, .int .i64 a3, .int .i64 a4], .agg #[.int .i64 b1, .int .i64 b2, .int .i64 b3, .int .i64 b4], .slice A n cap] w fun e w' => e = .returned (.bool true) ∧ Below w.heap.size w w' := by
  have h1 : Hid (∀ W, _) := fun W => add_any a1 a2 a3 a4 b1 b2 b3 b4 W
  have h2 : Hid (∀ W, _) := fun W => radd_any a1 a2 a3 a4 b1 b2 b3 b4 W
  have h3 : Hid (∀ W, Seg W A (n * 4) (uCell us) → _) := fun W k => sum_any A n cap us W hn k (by omega)
  have h4 : Hid (∀ W, Seg W A (n * 4) (uCell us) → _) := fun W k => rsum_any A n cap us W hn k (by omega)
  clear hn
  generalize addV a1 a2 a3 a4 b1 b2 b3 b4 = x at *
  generalize sumF us 0 0 0 0 = y at *
  obtain ⟨x1, x2, x3, x4, x5⟩ := x
  obtain ⟨y1, y2, y3, y4, y5⟩ := y
  simp only at h1 h2 h3 h4
  have hq1 := eq4_self x1 x2 x3 x4
  have hq2 := eq4_self y1 y2 y3 y4
  go_enter Try.func6, Try.ntmps6
  go_wp2_with fail
  refine (h1.out _).mono ?_
  rintro _ wx1 ⟨rfl, hb⟩
  have A0 := ((Box.new w 33 #[.int .i64 a1, .int .i64 a2, .int .i64 a3, .int .i64 a4]).alloc _).next hb
  have B0 := (Box.new ((w).alloc (.cells #[.int .i64 a1, .int .i64 a2, .int .i64 a3, .int .i64 a4] 33)) 33 #[.int .i64 b1, .int .i64 b2, .int .i64 b3, .int .i64 b4]).next hb
  simp only [World.size_alloc] at B0
  have hB := below_step (below_box (below_box (Below.refl _ w) _) _) hb
  clear hb
  have cA0_0 := A0.cell 0 _ rfl
  have cA0_1 := A0.cell 1 _ rfl
  have cA0_2 := A0.cell 2 _ rfl
  have cA0_3 := A0.cell 3 _ rfl
  have lA0 := A0.lt
  have cB0_0 := B0.cell 0 _ rfl
  have cB0_1 := B0.cell 1 _ rfl
  have cB0_2 := B0.cell 2 _ rfl
  have cB0_3 := B0.cell 3 _ rfl
  have lB0 := B0.lt
  have zA0_X := A0.lt
  have zB0_X := B0.lt
  have zB_X := hB.size
  go_wp2_with fail
  refine (h2.out _).mono ?_
  rintro _ wx2 ⟨rfl, hb⟩
  clear cA0_0 cA0_1 cA0_2 cA0_3 lA0 cB0_0 cB0_1 cB0_2 cB0_3 lB0
  replace A0 := (A0.alloc _).next hb
  replace B0 := (B0.alloc _).next hb
  have X := (Box.new wx1 33 #[.int .i64 x1, .int .i64 x2, .int .i64 x3, .int .i64 x4]).next hb
  replace hB := below_step (below_box hB _) hb
  clear hb
  have cA0_0 := A0.cell 0 _ rfl
  have cA0_1 := A0.cell 1 _ rfl
  have cA0_2 := A0.cell 2 _ rfl
  have cA0_3 := A0.cell 3 _ rfl
  have lA0 := A0.lt
  have cB0_0 := B0.cell 0 _ rfl
  have cB0_1 := B0.cell 1 _ rfl
  have cB0_2 := B0.cell 2 _ rfl
  have cB0_3 := B0.cell 3 _ rfl
  have lB0 := B0.lt
  have cX_0 := X.cell 0 _ rfl
  have cX_1 := X.cell 1 _ rfl
  have cX_2 := X.cell 2 _ rfl
  have cX_3 := X.cell 3 _ rfl
  have lX := X.lt
  have zA0_X2 := A0.lt
  have zB0_X2 := B0.lt
  have zX_X2 := X.lt
  have zB_X2 := hB.size
  go_wp2_with fail
  refine (h3.out _ (hs.out.next (below_box hB _))).mono ?_
  rintro _ wx3 ⟨rfl, hb⟩
  clear cA0_0 cA0_1 cA0_2 cA0_3 lA0 cB0_0 cB0_1 cB0_2 cB0_3 lB0 cX_0 cX_1 cX_2 cX_3 lX
  replace A0 := (A0.alloc _).next hb
  replace B0 := (B0.alloc _).next hb
  replace X := (X.alloc _).next hb
  have X2 := (Box.new wx2 33 #[.int .i64 x1, .int .i64 x2, .int .i64 x3, .int .i64 x4]).next hb
  replace hB := below_step (below_box hB _) hb
  clear hb
  have cA0_0 := A0.cell 0 _ rfl
  have cA0_1 := A0.cell 1 _ rfl
  have cA0_2 := A0.cell 2 _ rfl
  have cA0_3 := A0.cell 3 _ rfl
  have lA0 := A0.lt
  have cB0_0 := B0.cell 0 _ rfl
  have cB0_1 := B0.cell 1 _ rfl
  have cB0_2 := B0.cell 2 _ rfl
  have cB0_3 := B0.cell 3 _ rfl
  have lB0 := B0.lt
  have cX_0 := X.cell 0 _ rfl
  have cX_1 := X.cell 1 _ rfl
  have cX_2 := X.cell 2 _ rfl
  have cX_3 := X.cell 3 _ rfl
  have lX := X.lt
  have cX2_0 := X2.cell 0 _ rfl
  have cX2_1 := X2.cell 1 _ rfl
  have cX2_2 := X2.cell 2 _ rfl
  have cX2_3 := X2.cell 3 _ rfl
  have lX2 := X2.lt
  have zA0_Y := A0.lt
  have zB0_Y := B0.lt
  have zX_Y := X.lt
  have zX2_Y := X2.lt
  have zB_Y := hB.size
  go_wp2_with fail
  refine (h4.out _ (hs.out.next (below_box hB _))).mono ?_
  rintro _ wx4 ⟨rfl, hb⟩
  clear cA0_0 cA0_1 cA0_2 cA0_3 lA0 cB0_0 cB0_1 cB0_2 cB0_3 lB0 cX_0 cX_1 cX_2 cX_3 lX cX2_0 cX2_1 cX2_2 cX2_3 lX2
  replace A0 := (A0.alloc _).next hb
  replace B0 := (B0.alloc _).next hb
  replace X := (X.alloc _).next hb
  replace X2 := (X2.alloc _).next hb
  have Y := (Box.new wx3 33 #[.int .i64 y1, .int .i64 y2, .int .i64 y3, .int .i64 y4]).next hb
  replace hB := below_step (below_box hB _) hb
  clear hb
  have cA0_0 := A0.cell 0 _ rfl
  have cA0_1 := A0.cell 1 _ rfl
  have cA0_2 := A0.cell 2 _ rfl
  have cA0_3 := A0.cell 3 _ rfl
  have lA0 := A0.lt
  have cB0_0 := B0.cell 0 _ rfl
  have cB0_1 := B0.cell 1 _ rfl
  have cB0_2 := B0.cell 2 _ rfl
  have cB0_3 := B0.cell 3 _ rfl
  have lB0 := B0.lt
  have cX_0 := X.cell 0 _ rfl
  have cX_1 := X.cell 1 _ rfl
  have cX_2 := X.cell 2 _ rfl
  have cX_3 := X.cell 3 _ rfl
  have lX := X.lt
  have cX2_0 := X2.cell 0 _ rfl
  have cX2_1 := X2.cell 1 _ rfl
  have cX2_2 := X2.cell 2 _ rfl
  have cX2_3 := X2.cell 3 _ rfl
  have lX2 := X2.lt
  have cY_0 := Y.cell 0 _ rfl
  have cY_1 := Y.cell 1 _ rfl
  have cY_2 := Y.cell 2 _ rfl
  have cY_3 := Y.cell 3 _ rfl
  have lY := Y.lt
  have zA0_Y2 := A0.lt
  have zB0_Y2 := B0.lt
  have zX_Y2 := X.lt
  have zX2_Y2 := X2.lt
  have zY_Y2 := Y.lt
  have zB_Y2 := hB.size
  go_wp2_with fail
  refine (awake_any _).mono ?_
  rintro _ wx5 ⟨rfl, hb⟩
  clear cA0_0 cA0_1 cA0_2 cA0_3 lA0 cB0_0 cB0_1 cB0_2 cB0_3 lB0 cX_0 cX_1 cX_2 cX_3 lX cX2_0 cX2_1 cX2_2 cX2_3 lX2 cY_0 cY_1 cY_2 cY_3 lY
  replace A0 := (A0.alloc _).next hb
  replace B0 := (B0.alloc _).next hb
  replace X := (X.alloc _).next hb
  replace X2 := (X2.alloc _).next hb
  replace Y := (Y.alloc _).next hb
  have Y2 := (Box.new wx4 33 #[.int .i64 y1, .int .i64 y2, .int .i64 y3, .int .i64 y4]).next hb
  replace hB := below_step (below_box hB _) hb
  clear hb
  go_wp2
  go_ret
  exact ⟨rfl, hB⟩
theorem meterSums_main (a1 a2 a3 a4 b1 b2 b3 b4 : Int) (A : Option Addr) (n cap : Nat) (us : List U4) (w : World) (hn : us.length = n) (hs : Seg w A (n * 4) (uCell us)) : Calls Try.prog 6 #[.agg #[.int .i64 a1, .int .i64 a2, .int .i64 a3, .int .i64 a4], .agg #[.int .i64 b1, .int .i64 b2, .int .i64 b3, .int .i64 b4], .slice A n cap] w fun e w' => e = .returned (.bool true) ∧ Below w.heap.size w w' := by
  by_cases h : 300 < n
  · exact ms_long a1 a2 a3 a4 b1 b2 b3 b4 A n cap w (by simp; omega)
  · exact ms_main a1 a2 a3 a4 b1 b2 b3 b4 A n cap us w (by simp; omega) hn hs (by omega)

end Go.Proofs.Ytdlkpohjeedbiaa
