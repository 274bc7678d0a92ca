/- Contracts of Add of layer 34 (meter) and of its reference. -/
import Derived.Test.YtdlkpohjeedbiaaK
namespace Go.Proofs.Ytdlkpohjeedbiaa
open Go.ChangeShapes Go.WideShapes Go.ChangeAt Go.RowKit

def addV (a1 a2 a3 a4 b1 b2 b3 b4 : Int) : N5 := if usB a1 a2 a3 a4 = true ∧ usB b1 b2 b3 b4 = true then (if usB (a1 + b1) (a2 + b2) (a3 + b3) (a4 + b4) then ⟨a1 + b1, a2 + b2, a3 + b3, a4 + b4, 0⟩ else ⟨0, 0, 0, 0, 8⟩) else ⟨0, 0, 0, 0, 2⟩
theorem usB_bd (u1 u2 u3 u4 : Int) (h : usB u1 u2 u3 u4 = true) : (0 ≤ u1 ∧ u1 ≤ 1000000000000) ∧ (0 ≤ u2 ∧ u2 ≤ 1000000000000) ∧ (0 ≤ u3 ∧ u3 ≤ 1000000000000) ∧ (0 ≤ u4 ∧ u4 ≤ 1000000000000) := by
  obtain ⟨a, b, c, d⟩ := (usB_iff u1 u2 u3 u4).1 h
  exact ⟨(amtB_iff _).1 a, (amtB_iff _).1 b, (amtB_iff _).1 c, (amtB_iff _).1 d⟩
set_option maxHeartbeats 1000000 in
theorem add_a (a1 a2 a3 a4 b1 b2 b3 b4 : Int) (w : World) (HA : Hid (∀ W, Calls Try.prog 17 #[.agg #[.int .i64 a1, .int .i64 a2, .int .i64 a3, .int .i64 a4]] W fun e w' => e = .returned (.bool false) ∧ Below W.heap.size W w')) : Calls Try.prog 19 #[.agg #[.int .i64 a1, .int .i64 a2, .int .i64 a3, .int .i64 a4], .agg #[.int .i64 b1, .int .i64 b2, .int .i64 b3, .int .i64 b4]] w fun e w' => e = .returned (.tuple #[.agg #[.int .i64 0, .int .i64 0, .int .i64 0, .int .i64 0], .int .i64 2]) ∧ Below w.heap.size w w' := by
  go_enter Try.func19, Try.ntmps19
  go_wp2_with fail
  refine (HA.out _).mono ?_
  rintro _ wx1 ⟨rfl, hb⟩
  have A := (((Box.new w 33 #[.int .i64 a1, .int .i64 a2, .int .i64 a3, .int .i64 a4]).alloc _).alloc _).next hb
  have B := ((Box.new ((w).alloc (.cells #[.int .i64 a1, .int .i64 a2, .int .i64 a3, .int .i64 a4] 33)) 33 #[.int .i64 b1, .int .i64 b2, .int .i64 b3, .int .i64 b4]).alloc _).next hb
  simp only [World.size_alloc] at B
  have R := (Box.new (((w).alloc (.cells #[.int .i64 a1, .int .i64 a2, .int .i64 a3, .int .i64 a4] 33)).alloc (.cells #[.int .i64 b1, .int .i64 b2, .int .i64 b3, .int .i64 b4] 33)) 33 #[.int .i64 0, .int .i64 0, .int .i64 0, .int .i64 0]).next hb
  simp only [World.size_alloc] at R
  have hB := below_step (below_box (below_box (below_box (Below.refl _ w) _) _) _) hb
  clear hb
  have cA_0 := A.cell 0 _ rfl
  have cA_1 := A.cell 1 _ rfl
  have cA_2 := A.cell 2 _ rfl
  have cA_3 := A.cell 3 _ rfl
  have lA := A.lt
  have cB_0 := B.cell 0 _ rfl
  have cB_1 := B.cell 1 _ rfl
  have cB_2 := B.cell 2 _ rfl
  have cB_3 := B.cell 3 _ rfl
  have lB := B.lt
  have cR_0 := R.cell 0 _ rfl
  have cR_1 := R.cell 1 _ rfl
  have cR_2 := R.cell 2 _ rfl
  have cR_3 := R.cell 3 _ rfl
  have fR_0 := R.frozen 0
  have fR_1 := R.frozen 1
  have fR_2 := R.frozen 2
  have fR_3 := R.frozen 3
  have lR := R.lt
  go_wp2
  refine bodyPost_ret (v := .tuple #[.agg #[.int .i64 0, .int .i64 0, .int .i64 0, .int .i64 0], .int .i64 2]) ?_ rfl ⟨rfl, below_set4 hB (by omega) _ _ _ _⟩
  simp [results, Try.results19, go_sem, cR_0, cR_1, cR_2, cR_3]
set_option maxHeartbeats 1000000 in
theorem add_b (a1 a2 a3 a4 b1 b2 b3 b4 : Int) (w : World) (HA : Hid (∀ W, Calls Try.prog 17 #[.agg #[.int .i64 a1, .int .i64 a2, .int .i64 a3, .int .i64 a4]] W fun e w' => e = .returned (.bool true) ∧ Below W.heap.size W w')) (HB : Hid (∀ W, Calls Try.prog 17 #[.agg #[.int .i64 b1, .int .i64 b2, .int .i64 b3, .int .i64 b4]] W fun e w' => e = .returned (.bool false) ∧ Below W.heap.size W w')) : Calls Try.prog 19 #[.agg #[.int .i64 a1, .int .i64 a2, .int .i64 a3, .int .i64 a4], .agg #[.int .i64 b1, .int .i64 b2, .int .i64 b3, .int .i64 b4]] w fun e w' => e = .returned (.tuple #[.agg #[.int .i64 0, .int .i64 0, .int .i64 0, .int .i64 0], .int .i64 2]) ∧ Below w.heap.size w w' := by
  go_enter Try.func19, Try.ntmps19
  go_wp2_with fail
  refine (HA.out _).mono ?_
  rintro _ wx1 ⟨rfl, hb⟩
  have A := (((Box.new w 33 #[.int .i64 a1, .int .i64 a2, .int .i64 a3, .int .i64 a4]).alloc _).alloc _).next hb
  have B := ((Box.new ((w).alloc (.cells #[.int .i64 a1, .int .i64 a2, .int .i64 a3, .int .i64 a4] 33)) 33 #[.int .i64 b1, .int .i64 b2, .int .i64 b3, .int .i64 b4]).alloc _).next hb
  simp only [World.size_alloc] at B
  have R := (Box.new (((w).alloc (.cells #[.int .i64 a1, .int .i64 a2, .int .i64 a3, .int .i64 a4] 33)).alloc (.cells #[.int .i64 b1, .int .i64 b2, .int .i64 b3, .int .i64 b4] 33)) 33 #[.int .i64 0, .int .i64 0, .int .i64 0, .int .i64 0]).next hb
  simp only [World.size_alloc] at R
  have hB := below_step (below_box (below_box (below_box (Below.refl _ w) _) _) _) hb
  clear hb
  have cA_0 := A.cell 0 _ rfl
  have cA_1 := A.cell 1 _ rfl
  have cA_2 := A.cell 2 _ rfl
  have cA_3 := A.cell 3 _ rfl
  have lA := A.lt
  have cB_0 := B.cell 0 _ rfl
  have cB_1 := B.cell 1 _ rfl
  have cB_2 := B.cell 2 _ rfl
  have cB_3 := B.cell 3 _ rfl
  have lB := B.lt
  have cR_0 := R.cell 0 _ rfl
  have cR_1 := R.cell 1 _ rfl
  have cR_2 := R.cell 2 _ rfl
  have cR_3 := R.cell 3 _ rfl
  have fR_0 := R.frozen 0
  have fR_1 := R.frozen 1
  have fR_2 := R.frozen 2
  have fR_3 := R.frozen 3
  have lR := R.lt
  go_wp2_with fail
  refine (HB.out _).mono ?_
  rintro _ wx2 ⟨rfl, hb⟩
  clear cA_0 cA_1 cA_2 cA_3 lA cB_0 cB_1 cB_2 cB_3 lB cR_0 cR_1 cR_2 cR_3 fR_0 fR_1 fR_2 fR_3 lR
  replace A := A.next hb
  replace B := B.next hb
  replace R := R.next hb
  replace hB := below_step hB hb
  clear hb
  have cA_0 := A.cell 0 _ rfl
  have cA_1 := A.cell 1 _ rfl
  have cA_2 := A.cell 2 _ rfl
  have cA_3 := A.cell 3 _ rfl
  have lA := A.lt
  have cB_0 := B.cell 0 _ rfl
  have cB_1 := B.cell 1 _ rfl
  have cB_2 := B.cell 2 _ rfl
  have cB_3 := B.cell 3 _ rfl
  have lB := B.lt
  have cR_0 := R.cell 0 _ rfl
  have cR_1 := R.cell 1 _ rfl
  have cR_2 := R.cell 2 _ rfl
  have cR_3 := R.cell 3 _ rfl
  have fR_0 := R.frozen 0
  have fR_1 := R.frozen 1
  have fR_2 := R.frozen 2
  have fR_3 := R.frozen 3
  have lR := R.lt
  go_wp2
  refine bodyPost_ret (v := .tuple #[.agg #[.int .i64 0, .int .i64 0, .int .i64 0, .int .i64 0], .int .i64 2]) ?_ rfl ⟨rfl, below_set4 hB (by omega) _ _ _ _⟩
  simp [results, Try.results19, go_sem, cR_0, cR_1, cR_2, cR_3]
set_option maxHeartbeats 1000000 in
theorem add_o (a1 a2 a3 a4 b1 b2 b3 b4 : Int) (w : World) (HA : Hid (∀ W, Calls Try.prog 17 #[.agg #[.int .i64 a1, .int .i64 a2, .int .i64 a3, .int .i64 a4]] W fun e w' => e = .returned (.bool true) ∧ Below W.heap.size W w')) (HB : Hid (∀ W, Calls Try.prog 17 #[.agg #[.int .i64 b1, .int .i64 b2, .int .i64 b3, .int .i64 b4]] W fun e w' => e = .returned (.bool true) ∧ Below W.heap.size W w')) (HS : Hid (∀ W, Calls Try.prog 17 #[.agg #[.int .i64 (a1 + b1), .int .i64 (a2 + b2), .int .i64 (a3 + b3), .int .i64 (a4 + b4)]] W fun e w' => e = .returned (.bool false) ∧ Below W.heap.size W w')) (k1 : 0 ≤ a1) (l1 : a1 ≤ 1000000000000) (m1 : 0 ≤ b1) (n1 : b1 ≤ 1000000000000) (k2 : 0 ≤ a2) (l2 : a2 ≤ 1000000000000) (m2 : 0 ≤ b2) (n2 : b2 ≤ 1000000000000) (k3 : 0 ≤ a3) (l3 : a3 ≤ 1000000000000) (m3 : 0 ≤ b3) (n3 : b3 ≤ 1000000000000) (k4 : 0 ≤ a4) (l4 : a4 ≤ 1000000000000) (m4 : 0 ≤ b4) (n4 : b4 ≤ 1000000000000) : Calls Try.prog 19 #[.agg #[.int .i64 a1, .int .i64 a2, .int .i64 a3, .int .i64 a4], .agg #[.int .i64 b1, .int .i64 b2, .int .i64 b3, .int .i64 b4]] w fun e w' => e = .returned (.tuple #[.agg #[.int .i64 0, .int .i64 0, .int .i64 0, .int .i64 0], .int .i64 8]) ∧ Below w.heap.size w w' := by
  go_enter Try.func19, Try.ntmps19
  go_wp2_with fail
  refine (HA.out _).mono ?_
  rintro _ wx1 ⟨rfl, hb⟩
  have A := (((Box.new w 33 #[.int .i64 a1, .int .i64 a2, .int .i64 a3, .int .i64 a4]).alloc _).alloc _).next hb
  have B := ((Box.new ((w).alloc (.cells #[.int .i64 a1, .int .i64 a2, .int .i64 a3, .int .i64 a4] 33)) 33 #[.int .i64 b1, .int .i64 b2, .int .i64 b3, .int .i64 b4]).alloc _).next hb
  simp only [World.size_alloc] at B
  have R := (Box.new (((w).alloc (.cells #[.int .i64 a1, .int .i64 a2, .int .i64 a3, .int .i64 a4] 33)).alloc (.cells #[.int .i64 b1, .int .i64 b2, .int .i64 b3, .int .i64 b4] 33)) 33 #[.int .i64 0, .int .i64 0, .int .i64 0, .int .i64 0]).next hb
  simp only [World.size_alloc] at R
  have hB := below_step (below_box (below_box (below_box (Below.refl _ w) _) _) _) hb
  clear hb
  have cA_0 := A.cell 0 _ rfl
  have cA_1 := A.cell 1 _ rfl
  have cA_2 := A.cell 2 _ rfl
  have cA_3 := A.cell 3 _ rfl
  have lA := A.lt
  have cB_0 := B.cell 0 _ rfl
  have cB_1 := B.cell 1 _ rfl
  have cB_2 := B.cell 2 _ rfl
  have cB_3 := B.cell 3 _ rfl
  have lB := B.lt
  have cR_0 := R.cell 0 _ rfl
  have cR_1 := R.cell 1 _ rfl
  have cR_2 := R.cell 2 _ rfl
  have cR_3 := R.cell 3 _ rfl
  have fR_0 := R.frozen 0
  have fR_1 := R.frozen 1
  have fR_2 := R.frozen 2
  have fR_3 := R.frozen 3
  have lR := R.lt
  go_wp2_with fail
  refine (HB.out _).mono ?_
  rintro _ wx2 ⟨rfl, hb⟩
  clear cA_0 cA_1 cA_2 cA_3 lA cB_0 cB_1 cB_2 cB_3 lB cR_0 cR_1 cR_2 cR_3 fR_0 fR_1 fR_2 fR_3 lR
  replace A := A.next hb
  replace B := B.next hb
  replace R := R.next hb
  replace hB := below_step hB hb
  clear hb
  have cA_0 := A.cell 0 _ rfl
  have cA_1 := A.cell 1 _ rfl
  have cA_2 := A.cell 2 _ rfl
  have cA_3 := A.cell 3 _ rfl
  have lA := A.lt
  have cB_0 := B.cell 0 _ rfl
  have cB_1 := B.cell 1 _ rfl
  have cB_2 := B.cell 2 _ rfl
  have cB_3 := B.cell 3 _ rfl
  have lB := B.lt
  have cR_0 := R.cell 0 _ rfl
  have cR_1 := R.cell 1 _ rfl
  have cR_2 := R.cell 2 _ rfl
  have cR_3 := R.cell 3 _ rfl
  have fR_0 := R.frozen 0
  have fR_1 := R.frozen 1
  have fR_2 := R.frozen 2
  have fR_3 := R.frozen 3
  have lR := R.lt
  have zA_S := A.lt
  have zB_S := B.lt
  have zR_S := R.lt
  have zB_S := hB.size
  go_wp2_with fail
  refine (HS.out _).mono ?_
  rintro _ wx3 ⟨rfl, hb⟩
  clear cA_0 cA_1 cA_2 cA_3 lA cB_0 cB_1 cB_2 cB_3 lB cR_0 cR_1 cR_2 cR_3 fR_0 fR_1 fR_2 fR_3 lR
  replace A := (A.alloc _).next hb
  replace B := (B.alloc _).next hb
  replace R := (R.alloc _).next hb
  have S := (Box.new wx2 33 #[.int .i64 (a1 + b1), .int .i64 (a2 + b2), .int .i64 (a3 + b3), .int .i64 (a4 + b4)]).next hb
  replace hB := below_step (below_box hB _) hb
  clear hb
  have cA_0 := A.cell 0 _ rfl
  have cA_1 := A.cell 1 _ rfl
  have cA_2 := A.cell 2 _ rfl
  have cA_3 := A.cell 3 _ rfl
  have lA := A.lt
  have cB_0 := B.cell 0 _ rfl
  have cB_1 := B.cell 1 _ rfl
  have cB_2 := B.cell 2 _ rfl
  have cB_3 := B.cell 3 _ rfl
  have lB := B.lt
  have cR_0 := R.cell 0 _ rfl
  have cR_1 := R.cell 1 _ rfl
  have cR_2 := R.cell 2 _ rfl
  have cR_3 := R.cell 3 _ rfl
  have fR_0 := R.frozen 0
  have fR_1 := R.frozen 1
  have fR_2 := R.frozen 2
  have fR_3 := R.frozen 3
  have lR := R.lt
  have cS_0 := S.cell 0 _ rfl
  have cS_1 := S.cell 1 _ rfl
  have cS_2 := S.cell 2 _ rfl
  have cS_3 := S.cell 3 _ rfl
  have lS := S.lt
  go_wp2
  refine bodyPost_ret (v := .tuple #[.agg #[.int .i64 0, .int .i64 0, .int .i64 0, .int .i64 0], .int .i64 8]) ?_ rfl ⟨rfl, below_set4 hB (by omega) _ _ _ _⟩
  simp [results, Try.results19, go_sem, cR_0, cR_1, cR_2, cR_3]
set_option maxHeartbeats 1000000 in
theorem add_k (a1 a2 a3 a4 b1 b2 b3 b4 : Int) (w : World) (HA : Hid (∀ W, Calls Try.prog 17 #[.agg #[.int .i64 a1, .int .i64 a2, .int .i64 a3, .int .i64 a4]] W fun e w' => e = .returned (.bool true) ∧ Below W.heap.size W w')) (HB : Hid (∀ W, Calls Try.prog 17 #[.agg #[.int .i64 b1, .int .i64 b2, .int .i64 b3, .int .i64 b4]] W fun e w' => e = .returned (.bool true) ∧ Below W.heap.size W w')) (HS : Hid (∀ W, Calls Try.prog 17 #[.agg #[.int .i64 (a1 + b1), .int .i64 (a2 + b2), .int .i64 (a3 + b3), .int .i64 (a4 + b4)]] W fun e w' => e = .returned (.bool true) ∧ Below W.heap.size W w')) (k1 : 0 ≤ a1) (l1 : a1 ≤ 1000000000000) (m1 : 0 ≤ b1) (n1 : b1 ≤ 1000000000000) (k2 : 0 ≤ a2) (l2 : a2 ≤ 1000000000000) (m2 : 0 ≤ b2) (n2 : b2 ≤ 1000000000000) (k3 : 0 ≤ a3) (l3 : a3 ≤ 1000000000000) (m3 : 0 ≤ b3) (n3 : b3 ≤ 1000000000000) (k4 : 0 ≤ a4) (l4 : a4 ≤ 1000000000000) (m4 : 0 ≤ b4) (n4 : b4 ≤ 1000000000000) : Calls Try.prog 19 #[.agg #[.int .i64 a1, .int .i64 a2, .int .i64 a3, .int .i64 a4], .agg #[.int .i64 b1, .int .i64 b2, .int .i64 b3, .int .i64 b4]] w fun e w' => e = .returned (.tuple #[.agg #[.int .i64 (a1 + b1), .int .i64 (a2 + b2), .int .i64 (a3 + b3), .int .i64 (a4 + b4)], .int .i64 0]) ∧ Below w.heap.size w w' := by
  go_enter Try.func19, Try.ntmps19
  go_wp2_with fail
  refine (HA.out _).mono ?_
  rintro _ wx1 ⟨rfl, hb⟩
  have A := (((Box.new w 33 #[.int .i64 a1, .int .i64 a2, .int .i64 a3, .int .i64 a4]).alloc _).alloc _).next hb
  have B := ((Box.new ((w).alloc (.cells #[.int .i64 a1, .int .i64 a2, .int .i64 a3, .int .i64 a4] 33)) 33 #[.int .i64 b1, .int .i64 b2, .int .i64 b3, .int .i64 b4]).alloc _).next hb
  simp only [World.size_alloc] at B
  have R := (Box.new (((w).alloc (.cells #[.int .i64 a1, .int .i64 a2, .int .i64 a3, .int .i64 a4] 33)).alloc (.cells #[.int .i64 b1, .int .i64 b2, .int .i64 b3, .int .i64 b4] 33)) 33 #[.int .i64 0, .int .i64 0, .int .i64 0, .int .i64 0]).next hb
  simp only [World.size_alloc] at R
  have hB := below_step (below_box (below_box (below_box (Below.refl _ w) _) _) _) hb
  clear hb
  have cA_0 := A.cell 0 _ rfl
  have cA_1 := A.cell 1 _ rfl
  have cA_2 := A.cell 2 _ rfl
  have cA_3 := A.cell 3 _ rfl
  have lA := A.lt
  have cB_0 := B.cell 0 _ rfl
  have cB_1 := B.cell 1 _ rfl
  have cB_2 := B.cell 2 _ rfl
  have cB_3 := B.cell 3 _ rfl
  have lB := B.lt
  have cR_0 := R.cell 0 _ rfl
  have cR_1 := R.cell 1 _ rfl
  have cR_2 := R.cell 2 _ rfl
  have cR_3 := R.cell 3 _ rfl
  have fR_0 := R.frozen 0
  have fR_1 := R.frozen 1
  have fR_2 := R.frozen 2
  have fR_3 := R.frozen 3
  have lR := R.lt
  go_wp2_with fail
  refine (HB.out _).mono ?_
  rintro _ wx2 ⟨rfl, hb⟩
  clear cA_0 cA_1 cA_2 cA_3 lA cB_0 cB_1 cB_2 cB_3 lB cR_0 cR_1 cR_2 cR_3 fR_0 fR_1 fR_2 fR_3 lR
  replace A := A.next hb
  replace B := B.next hb
  replace R := R.next hb
  replace hB := below_step hB hb
  clear hb
  have cA_0 := A.cell 0 _ rfl
  have cA_1 := A.cell 1 _ rfl
  have cA_2 := A.cell 2 _ rfl
  have cA_3 := A.cell 3 _ rfl
  have lA := A.lt
  have cB_0 := B.cell 0 _ rfl
  have cB_1 := B.cell 1 _ rfl
  have cB_2 := B.cell 2 _ rfl
  have cB_3 := B.cell 3 _ rfl
  have lB := B.lt
  have cR_0 := R.cell 0 _ rfl
  have cR_1 := R.cell 1 _ rfl
  have cR_2 := R.cell 2 _ rfl
  have cR_3 := R.cell 3 _ rfl
  have fR_0 := R.frozen 0
  have fR_1 := R.frozen 1
  have fR_2 := R.frozen 2
  have fR_3 := R.frozen 3
  have lR := R.lt
  have zA_S := A.lt
  have zB_S := B.lt
  have zR_S := R.lt
  have zB_S := hB.size
  go_wp2_with fail
  refine (HS.out _).mono ?_
  rintro _ wx3 ⟨rfl, hb⟩
  clear cA_0 cA_1 cA_2 cA_3 lA cB_0 cB_1 cB_2 cB_3 lB cR_0 cR_1 cR_2 cR_3 fR_0 fR_1 fR_2 fR_3 lR
  replace A := (A.alloc _).next hb
  replace B := (B.alloc _).next hb
  replace R := (R.alloc _).next hb
  have S := (Box.new wx2 33 #[.int .i64 (a1 + b1), .int .i64 (a2 + b2), .int .i64 (a3 + b3), .int .i64 (a4 + b4)]).next hb
  replace hB := below_step (below_box hB _) hb
  clear hb
  have cA_0 := A.cell 0 _ rfl
  have cA_1 := A.cell 1 _ rfl
  have cA_2 := A.cell 2 _ rfl
  have cA_3 := A.cell 3 _ rfl
  have lA := A.lt
  have cB_0 := B.cell 0 _ rfl
  have cB_1 := B.cell 1 _ rfl
  have cB_2 := B.cell 2 _ rfl
  have cB_3 := B.cell 3 _ rfl
  have lB := B.lt
  have cR_0 := R.cell 0 _ rfl
  have cR_1 := R.cell 1 _ rfl
  have cR_2 := R.cell 2 _ rfl
  have cR_3 := R.cell 3 _ rfl
  have fR_0 := R.frozen 0
  have fR_1 := R.frozen 1
  have fR_2 := R.frozen 2
  have fR_3 := R.frozen 3
  have lR := R.lt
  have cS_0 := S.cell 0 _ rfl
  have cS_1 := S.cell 1 _ rfl
  have cS_2 := S.cell 2 _ rfl
  have cS_3 := S.cell 3 _ rfl
  have lS := S.lt
  go_wp2
  refine bodyPost_ret (v := .tuple #[.agg #[.int .i64 (a1 + b1), .int .i64 (a2 + b2), .int .i64 (a3 + b3), .int .i64 (a4 + b4)], .int .i64 0]) ?_ rfl ⟨rfl, below_set4 hB (by omega) _ _ _ _⟩
  simp [results, Try.results19, go_sem, cR_0, cR_1, cR_2, cR_3]
theorem add_any (a1 a2 a3 a4 b1 b2 b3 b4 : Int) (w : World) : Calls Try.prog 19 #[.agg #[.int .i64 a1, .int .i64 a2, .int .i64 a3, .int .i64 a4], .agg #[.int .i64 b1, .int .i64 b2, .int .i64 b3, .int .i64 b4]] w fun e w' => e = .returned (.tuple #[.agg #[.int .i64 (addV a1 a2 a3 a4 b1 b2 b3 b4).a, .int .i64 (addV a1 a2 a3 a4 b1 b2 b3 b4).b, .int .i64 (addV a1 a2 a3 a4 b1 b2 b3 b4).c, .int .i64 (addV a1 a2 a3 a4 b1 b2 b3 b4).d], .int .i64 (addV a1 a2 a3 a4 b1 b2 b3 b4).e]) ∧ Below w.heap.size w w' := by
  have HA : Hid (∀ W, _) := fun W => us_any a1 a2 a3 a4 W
  have HB : Hid (∀ W, _) := fun W => us_any b1 b2 b3 b4 W
  have HS : Hid (∀ W, _) := fun W => us_any (a1 + b1) (a2 + b2) (a3 + b3) (a4 + b4) W
  unfold addV
  cases h1 : usB a1 a2 a3 a4
  · rw [h1] at HA
    rw [if_neg (by simp)]
    exact add_a a1 a2 a3 a4 b1 b2 b3 b4 w HA
  · rw [h1] at HA
    cases h2 : usB b1 b2 b3 b4
    · rw [h2] at HB
      rw [if_neg (by simp)]
      exact add_b a1 a2 a3 a4 b1 b2 b3 b4 w HA HB
    · rw [h2] at HB
      rw [if_pos ⟨rfl, rfl⟩]
      obtain ⟨⟨p1, p2⟩, ⟨p3, p4⟩, ⟨p5, p6⟩, ⟨p7, p8⟩⟩ := usB_bd a1 a2 a3 a4 h1
      obtain ⟨⟨q1, q2⟩, ⟨q3, q4⟩, ⟨q5, q6⟩, ⟨q7, q8⟩⟩ := usB_bd b1 b2 b3 b4 h2
      cases h3 : usB (a1 + b1) (a2 + b2) (a3 + b3) (a4 + b4)
      · rw [h3] at HS
        exact add_o a1 a2 a3 a4 b1 b2 b3 b4 w HA HB HS p1 p2 q1 q2 p3 p4 q3 q4 p5 p6 q5 q6 p7 p8 q7 q8
      · rw [h3] at HS
        exact add_k a1 a2 a3 a4 b1 b2 b3 b4 w HA HB HS p1 p2 q1 q2 p3 p4 q3 q4 p5 p6 q5 q6 p7 p8 q7 q8
set_option maxHeartbeats 1000000 in
theorem radd_a (a1 a2 a3 a4 b1 b2 b3 b4 : Int) (w : World) (HA : Hid (∀ W, Calls Try.prog 18 #[.agg #[.int .i64 a1, .int .i64 a2, .int .i64 a3, .int .i64 a4]] W fun e w' => e = .returned (.bool false) ∧ Below W.heap.size W w')) : Calls Try.prog 20 #[.agg #[.int .i64 a1, .int .i64 a2, .int .i64 a3, .int .i64 a4], .agg #[.int .i64 b1, .int .i64 b2, .int .i64 b3, .int .i64 b4]] w fun e w' => e = .returned (.tuple #[.agg #[.int .i64 0, .int .i64 0, .int .i64 0, .int .i64 0], .int .i64 2]) ∧ Below w.heap.size w w' := by
  go_enter Try.func20, Try.ntmps20
  go_wp2_with fail
  refine (HA.out _).mono ?_
  rintro _ wx1 ⟨rfl, hb⟩
  have A := (((Box.new w 33 #[.int .i64 a1, .int .i64 a2, .int .i64 a3, .int .i64 a4]).alloc _).alloc _).next hb
  have B := ((Box.new ((w).alloc (.cells #[.int .i64 a1, .int .i64 a2, .int .i64 a3, .int .i64 a4] 33)) 33 #[.int .i64 b1, .int .i64 b2, .int .i64 b3, .int .i64 b4]).alloc _).next hb
  simp only [World.size_alloc] at B
  have R := (Box.new (((w).alloc (.cells #[.int .i64 a1, .int .i64 a2, .int .i64 a3, .int .i64 a4] 33)).alloc (.cells #[.int .i64 b1, .int .i64 b2, .int .i64 b3, .int .i64 b4] 33)) 33 #[.int .i64 0, .int .i64 0, .int .i64 0, .int .i64 0]).next hb
  simp only [World.size_alloc] at R
  have hB := below_step (below_box (below_box (below_box (Below.refl _ w) _) _) _) hb
  clear hb
  have cA_0 := A.cell 0 _ rfl
  have cA_1 := A.cell 1 _ rfl
  have cA_2 := A.cell 2 _ rfl
  have cA_3 := A.cell 3 _ rfl
  have lA := A.lt
  have cB_0 := B.cell 0 _ rfl
  have cB_1 := B.cell 1 _ rfl
  have cB_2 := B.cell 2 _ rfl
  have cB_3 := B.cell 3 _ rfl
  have lB := B.lt
  have cR_0 := R.cell 0 _ rfl
  have cR_1 := R.cell 1 _ rfl
  have cR_2 := R.cell 2 _ rfl
  have cR_3 := R.cell 3 _ rfl
  have fR_0 := R.frozen 0
  have fR_1 := R.frozen 1
  have fR_2 := R.frozen 2
  have fR_3 := R.frozen 3
  have lR := R.lt
  go_wp2
  refine bodyPost_ret (v := .tuple #[.agg #[.int .i64 0, .int .i64 0, .int .i64 0, .int .i64 0], .int .i64 2]) ?_ rfl ⟨rfl, below_set4 hB (by omega) _ _ _ _⟩
  simp [results, Try.results20, go_sem, cR_0, cR_1, cR_2, cR_3]
set_option maxHeartbeats 1000000 in
theorem radd_b (a1 a2 a3 a4 b1 b2 b3 b4 : Int) (w : World) (HA : Hid (∀ W, Calls Try.prog 18 #[.agg #[.int .i64 a1, .int .i64 a2, .int .i64 a3, .int .i64 a4]] W fun e w' => e = .returned (.bool true) ∧ Below W.heap.size W w')) (HB : Hid (∀ W, Calls Try.prog 18 #[.agg #[.int .i64 b1, .int .i64 b2, .int .i64 b3, .int .i64 b4]] W fun e w' => e = .returned (.bool false) ∧ Below W.heap.size W w')) : Calls Try.prog 20 #[.agg #[.int .i64 a1, .int .i64 a2, .int .i64 a3, .int .i64 a4], .agg #[.int .i64 b1, .int .i64 b2, .int .i64 b3, .int .i64 b4]] w fun e w' => e = .returned (.tuple #[.agg #[.int .i64 0, .int .i64 0, .int .i64 0, .int .i64 0], .int .i64 2]) ∧ Below w.heap.size w w' := by
  go_enter Try.func20, Try.ntmps20
  go_wp2_with fail
  refine (HA.out _).mono ?_
  rintro _ wx1 ⟨rfl, hb⟩
  have A := (((Box.new w 33 #[.int .i64 a1, .int .i64 a2, .int .i64 a3, .int .i64 a4]).alloc _).alloc _).next hb
  have B := ((Box.new ((w).alloc (.cells #[.int .i64 a1, .int .i64 a2, .int .i64 a3, .int .i64 a4] 33)) 33 #[.int .i64 b1, .int .i64 b2, .int .i64 b3, .int .i64 b4]).alloc _).next hb
  simp only [World.size_alloc] at B
  have R := (Box.new (((w).alloc (.cells #[.int .i64 a1, .int .i64 a2, .int .i64 a3, .int .i64 a4] 33)).alloc (.cells #[.int .i64 b1, .int .i64 b2, .int .i64 b3, .int .i64 b4] 33)) 33 #[.int .i64 0, .int .i64 0, .int .i64 0, .int .i64 0]).next hb
  simp only [World.size_alloc] at R
  have hB := below_step (below_box (below_box (below_box (Below.refl _ w) _) _) _) hb
  clear hb
  have cA_0 := A.cell 0 _ rfl
  have cA_1 := A.cell 1 _ rfl
  have cA_2 := A.cell 2 _ rfl
  have cA_3 := A.cell 3 _ rfl
  have lA := A.lt
  have cB_0 := B.cell 0 _ rfl
  have cB_1 := B.cell 1 _ rfl
  have cB_2 := B.cell 2 _ rfl
  have cB_3 := B.cell 3 _ rfl
  have lB := B.lt
  have cR_0 := R.cell 0 _ rfl
  have cR_1 := R.cell 1 _ rfl
  have cR_2 := R.cell 2 _ rfl
  have cR_3 := R.cell 3 _ rfl
  have fR_0 := R.frozen 0
  have fR_1 := R.frozen 1
  have fR_2 := R.frozen 2
  have fR_3 := R.frozen 3
  have lR := R.lt
  go_wp2_with fail
  refine (HB.out _).mono ?_
  rintro _ wx2 ⟨rfl, hb⟩
  clear cA_0 cA_1 cA_2 cA_3 lA cB_0 cB_1 cB_2 cB_3 lB cR_0 cR_1 cR_2 cR_3 fR_0 fR_1 fR_2 fR_3 lR
  replace A := A.next hb
  replace B := B.next hb
  replace R := R.next hb
  replace hB := below_step hB hb
  clear hb
  have cA_0 := A.cell 0 _ rfl
  have cA_1 := A.cell 1 _ rfl
  have cA_2 := A.cell 2 _ rfl
  have cA_3 := A.cell 3 _ rfl
  have lA := A.lt
  have cB_0 := B.cell 0 _ rfl
  have cB_1 := B.cell 1 _ rfl
  have cB_2 := B.cell 2 _ rfl
  have cB_3 := B.cell 3 _ rfl
  have lB := B.lt
  have cR_0 := R.cell 0 _ rfl
  have cR_1 := R.cell 1 _ rfl
  have cR_2 := R.cell 2 _ rfl
  have cR_3 := R.cell 3 _ rfl
  have fR_0 := R.frozen 0
  have fR_1 := R.frozen 1
  have fR_2 := R.frozen 2
  have fR_3 := R.frozen 3
  have lR := R.lt
  go_wp2
  refine bodyPost_ret (v := .tuple #[.agg #[.int .i64 0, .int .i64 0, .int .i64 0, .int .i64 0], .int .i64 2]) ?_ rfl ⟨rfl, below_set4 hB (by omega) _ _ _ _⟩
  simp [results, Try.results20, go_sem, cR_0, cR_1, cR_2, cR_3]
set_option maxHeartbeats 1000000 in
theorem radd_o (a1 a2 a3 a4 b1 b2 b3 b4 : Int) (w : World) (HA : Hid (∀ W, Calls Try.prog 18 #[.agg #[.int .i64 a1, .int .i64 a2, .int .i64 a3, .int .i64 a4]] W fun e w' => e = .returned (.bool true) ∧ Below W.heap.size W w')) (HB : Hid (∀ W, Calls Try.prog 18 #[.agg #[.int .i64 b1, .int .i64 b2, .int .i64 b3, .int .i64 b4]] W fun e w' => e = .returned (.bool true) ∧ Below W.heap.size W w')) (HS : Hid (∀ W, Calls Try.prog 18 #[.agg #[.int .i64 (a1 + b1), .int .i64 (a2 + b2), .int .i64 (a3 + b3), .int .i64 (a4 + b4)]] W fun e w' => e = .returned (.bool false) ∧ Below W.heap.size W w')) (k1 : 0 ≤ a1) (l1 : a1 ≤ 1000000000000) (m1 : 0 ≤ b1) (n1 : b1 ≤ 1000000000000) (k2 : 0 ≤ a2) (l2 : a2 ≤ 1000000000000) (m2 : 0 ≤ b2) (n2 : b2 ≤ 1000000000000) (k3 : 0 ≤ a3) (l3 : a3 ≤ 1000000000000) (m3 : 0 ≤ b3) (n3 : b3 ≤ 1000000000000) (k4 : 0 ≤ a4) (l4 : a4 ≤ 1000000000000) (m4 : 0 ≤ b4) (n4 : b4 ≤ 1000000000000) : Calls Try.prog 20 #[.agg #[.int .i64 a1, .int .i64 a2, .int .i64 a3, .int .i64 a4], .agg #[.int .i64 b1, .int .i64 b2, .int .i64 b3, .int .i64 b4]] w fun e w' => e = .returned (.tuple #[.agg #[.int .i64 0, .int .i64 0, .int .i64 0, .int .i64 0], .int .i64 8]) ∧ Below w.heap.size w w' := by
  go_enter Try.func20, Try.ntmps20
  go_wp2_with fail
  refine (HA.out _).mono ?_
  rintro _ wx1 ⟨rfl, hb⟩
  have A := (((Box.new w 33 #[.int .i64 a1, .int .i64 a2, .int .i64 a3, .int .i64 a4]).alloc _).alloc _).next hb
  have B := ((Box.new ((w).alloc (.cells #[.int .i64 a1, .int .i64 a2, .int .i64 a3, .int .i64 a4] 33)) 33 #[.int .i64 b1, .int .i64 b2, .int .i64 b3, .int .i64 b4]).alloc _).next hb
  simp only [World.size_alloc] at B
  have R := (Box.new (((w).alloc (.cells #[.int .i64 a1, .int .i64 a2, .int .i64 a3, .int .i64 a4] 33)).alloc (.cells #[.int .i64 b1, .int .i64 b2, .int .i64 b3, .int .i64 b4] 33)) 33 #[.int .i64 0, .int .i64 0, .int .i64 0, .int .i64 0]).next hb
  simp only [World.size_alloc] at R
  have hB := below_step (below_box (below_box (below_box (Below.refl _ w) _) _) _) hb
  clear hb
  have cA_0 := A.cell 0 _ rfl
  have cA_1 := A.cell 1 _ rfl
  have cA_2 := A.cell 2 _ rfl
  have cA_3 := A.cell 3 _ rfl
  have lA := A.lt
  have cB_0 := B.cell 0 _ rfl
  have cB_1 := B.cell 1 _ rfl
  have cB_2 := B.cell 2 _ rfl
  have cB_3 := B.cell 3 _ rfl
  have lB := B.lt
  have cR_0 := R.cell 0 _ rfl
  have cR_1 := R.cell 1 _ rfl
  have cR_2 := R.cell 2 _ rfl
  have cR_3 := R.cell 3 _ rfl
  have fR_0 := R.frozen 0
  have fR_1 := R.frozen 1
  have fR_2 := R.frozen 2
  have fR_3 := R.frozen 3
  have lR := R.lt
  go_wp2_with fail
  refine (HB.out _).mono ?_
  rintro _ wx2 ⟨rfl, hb⟩
  clear cA_0 cA_1 cA_2 cA_3 lA cB_0 cB_1 cB_2 cB_3 lB cR_0 cR_1 cR_2 cR_3 fR_0 fR_1 fR_2 fR_3 lR
  replace A := A.next hb
  replace B := B.next hb
  replace R := R.next hb
  replace hB := below_step hB hb
  clear hb
  have cA_0 := A.cell 0 _ rfl
  have cA_1 := A.cell 1 _ rfl
  have cA_2 := A.cell 2 _ rfl
  have cA_3 := A.cell 3 _ rfl
  have lA := A.lt
  have cB_0 := B.cell 0 _ rfl
  have cB_1 := B.cell 1 _ rfl
  have cB_2 := B.cell 2 _ rfl
  have cB_3 := B.cell 3 _ rfl
  have lB := B.lt
  have cR_0 := R.cell 0 _ rfl
  have cR_1 := R.cell 1 _ rfl
  have cR_2 := R.cell 2 _ rfl
  have cR_3 := R.cell 3 _ rfl
  have fR_0 := R.frozen 0
  have fR_1 := R.frozen 1
  have fR_2 := R.frozen 2
  have fR_3 := R.frozen 3
  have lR := R.lt
  have zA_S := A.lt
  have zB_S := B.lt
  have zR_S := R.lt
  have zB_S := hB.size
  go_wp2_with fail
  refine (HS.out _).mono ?_
  rintro _ wx3 ⟨rfl, hb⟩
  clear cA_0 cA_1 cA_2 cA_3 lA cB_0 cB_1 cB_2 cB_3 lB cR_0 cR_1 cR_2 cR_3 fR_0 fR_1 fR_2 fR_3 lR
  replace A := (A.alloc _).next hb
  replace B := (B.alloc _).next hb
  replace R := (R.alloc _).next hb
  have S := (Box.new wx2 33 #[.int .i64 (a1 + b1), .int .i64 (a2 + b2), .int .i64 (a3 + b3), .int .i64 (a4 + b4)]).next hb
  replace hB := below_step (below_box hB _) hb
  clear hb
  have cA_0 := A.cell 0 _ rfl
  have cA_1 := A.cell 1 _ rfl
  have cA_2 := A.cell 2 _ rfl
  have cA_3 := A.cell 3 _ rfl
  have lA := A.lt
  have cB_0 := B.cell 0 _ rfl
  have cB_1 := B.cell 1 _ rfl
  have cB_2 := B.cell 2 _ rfl
  have cB_3 := B.cell 3 _ rfl
  have lB := B.lt
  have cR_0 := R.cell 0 _ rfl
  have cR_1 := R.cell 1 _ rfl
  have cR_2 := R.cell 2 _ rfl
  have cR_3 := R.cell 3 _ rfl
  have fR_0 := R.frozen 0
  have fR_1 := R.frozen 1
  have fR_2 := R.frozen 2
  have fR_3 := R.frozen 3
  have lR := R.lt
  have cS_0 := S.cell 0 _ rfl
  have cS_1 := S.cell 1 _ rfl
  have cS_2 := S.cell 2 _ rfl
  have cS_3 := S.cell 3 _ rfl
  have lS := S.lt
  go_wp2
  refine bodyPost_ret (v := .tuple #[.agg #[.int .i64 0, .int .i64 0, .int .i64 0, .int .i64 0], .int .i64 8]) ?_ rfl ⟨rfl, below_set4 hB (by omega) _ _ _ _⟩
  simp [results, Try.results20, go_sem, cR_0, cR_1, cR_2, cR_3]
set_option maxHeartbeats 1000000 in
theorem radd_k (a1 a2 a3 a4 b1 b2 b3 b4 : Int) (w : World) (HA : Hid (∀ W, Calls Try.prog 18 #[.agg #[.int .i64 a1, .int .i64 a2, .int .i64 a3, .int .i64 a4]] W fun e w' => e = .returned (.bool true) ∧ Below W.heap.size W w')) (HB : Hid (∀ W, Calls Try.prog 18 #[.agg #[.int .i64 b1, .int .i64 b2, .int .i64 b3, .int .i64 b4]] W fun e w' => e = .returned (.bool true) ∧ Below W.heap.size W w')) (HS : Hid (∀ W, Calls Try.prog 18 #[.agg #[.int .i64 (a1 + b1), .int .i64 (a2 + b2), .int .i64 (a3 + b3), .int .i64 (a4 + b4)]] W fun e w' => e = .returned (.bool true) ∧ Below W.heap.size W w')) (k1 : 0 ≤ a1) (l1 : a1 ≤ 1000000000000) (m1 : 0 ≤ b1) (n1 : b1 ≤ 1000000000000) (k2 : 0 ≤ a2) (l2 : a2 ≤ 1000000000000) (m2 : 0 ≤ b2) (n2 : b2 ≤ 1000000000000) (k3 : 0 ≤ a3) (l3 : a3 ≤ 1000000000000) (m3 : 0 ≤ b3) (n3 : b3 ≤ 1000000000000) (k4 : 0 ≤ a4) (l4 : a4 ≤ 1000000000000) (m4 : 0 ≤ b4) (n4 : b4 ≤ 1000000000000) : Calls Try.prog 20 #[.agg #[.int .i64 a1, .int .i64 a2, .int .i64 a3, .int .i64 a4], .agg #[.int .i64 b1, .int .i64 b2, .int .i64 b3, .int .i64 b4]] w fun e w' => e = .returned (.tuple #[.agg #[.int .i64 (a1 + b1), .int .i64 (a2 + b2), .int .i64 (a3 + b3), .int .i64 (a4 + b4)], .int .i64 0]) ∧ Below w.heap.size w w' := by
  go_enter Try.func20, Try.ntmps20
  go_wp2_with fail
  refine (HA.out _).mono ?_
  rintro _ wx1 ⟨rfl, hb⟩
  have A := (((Box.new w 33 #[.int .i64 a1, .int .i64 a2, .int .i64 a3, .int .i64 a4]).alloc _).alloc _).next hb
  have B := ((Box.new ((w).alloc (.cells #[.int .i64 a1, .int .i64 a2, .int .i64 a3, .int .i64 a4] 33)) 33 #[.int .i64 b1, .int .i64 b2, .int .i64 b3, .int .i64 b4]).alloc _).next hb
  simp only [World.size_alloc] at B
  have R := (Box.new (((w).alloc (.cells #[.int .i64 a1, .int .i64 a2, .int .i64 a3, .int .i64 a4] 33)).alloc (.cells #[.int .i64 b1, .int .i64 b2, .int .i64 b3, .int .i64 b4] 33)) 33 #[.int .i64 0, .int .i64 0, .int .i64 0, .int .i64 0]).next hb
  simp only [World.size_alloc] at R
  have hB := below_step (below_box (below_box (below_box (Below.refl _ w) _) _) _) hb
  clear hb
  have cA_0 := A.cell 0 _ rfl
  have cA_1 := A.cell 1 _ rfl
  have cA_2 := A.cell 2 _ rfl
  have cA_3 := A.cell 3 _ rfl
  have lA := A.lt
  have cB_0 := B.cell 0 _ rfl
  have cB_1 := B.cell 1 _ rfl
  have cB_2 := B.cell 2 _ rfl
  have cB_3 := B.cell 3 _ rfl
  have lB := B.lt
  have cR_0 := R.cell 0 _ rfl
  have cR_1 := R.cell 1 _ rfl
  have cR_2 := R.cell 2 _ rfl
  have cR_3 := R.cell 3 _ rfl
  have fR_0 := R.frozen 0
  have fR_1 := R.frozen 1
  have fR_2 := R.frozen 2
  have fR_3 := R.frozen 3
  have lR := R.lt
  go_wp2_with fail
  refine (HB.out _).mono ?_
  rintro _ wx2 ⟨rfl, hb⟩
  clear cA_0 cA_1 cA_2 cA_3 lA cB_0 cB_1 cB_2 cB_3 lB cR_0 cR_1 cR_2 cR_3 fR_0 fR_1 fR_2 fR_3 lR
  replace A := A.next hb
  replace B := B.next hb
  replace R := R.next hb
  replace hB := below_step hB hb
  clear hb
  have cA_0 := A.cell 0 _ rfl
  have cA_1 := A.cell 1 _ rfl
  have cA_2 := A.cell 2 _ rfl
  have cA_3 := A.cell 3 _ rfl
  have lA := A.lt
  have cB_0 := B.cell 0 _ rfl
  have cB_1 := B.cell 1 _ rfl
  have cB_2 := B.cell 2 _ rfl
  have cB_3 := B.cell 3 _ rfl
  have lB := B.lt
  have cR_0 := R.cell 0 _ rfl
  have cR_1 := R.cell 1 _ rfl
  have cR_2 := R.cell 2 _ rfl
  have cR_3 := R.cell 3 _ rfl
  have fR_0 := R.frozen 0
  have fR_1 := R.frozen 1
  have fR_2 := R.frozen 2
  have fR_3 := R.frozen 3
  have lR := R.lt
  have zA_S := A.lt
  have zB_S := B.lt
  have zR_S := R.lt
  have zB_S := hB.size
  go_wp2_with fail
  refine (HS.out _).mono ?_
  rintro _ wx3 ⟨rfl, hb⟩
  clear cA_0 cA_1 cA_2 cA_3 lA cB_0 cB_1 cB_2 cB_3 lB cR_0 cR_1 cR_2 cR_3 fR_0 fR_1 fR_2 fR_3 lR
  replace A := (A.alloc _).next hb
  replace B := (B.alloc _).next hb
  replace R := (R.alloc _).next hb
  have S := (Box.new wx2 33 #[.int .i64 (a1 + b1), .int .i64 (a2 + b2), .int .i64 (a3 + b3), .int .i64 (a4 + b4)]).next hb
  replace hB := below_step (below_box hB _) hb
  clear hb
  have cA_0 := A.cell 0 _ rfl
  have cA_1 := A.cell 1 _ rfl
  have cA_2 := A.cell 2 _ rfl
  have cA_3 := A.cell 3 _ rfl
  have lA := A.lt
  have cB_0 := B.cell 0 _ rfl
  have cB_1 := B.cell 1 _ rfl
  have cB_2 := B.cell 2 _ rfl
  have cB_3 := B.cell 3 _ rfl
  have lB := B.lt
  have cR_0 := R.cell 0 _ rfl
  have cR_1 := R.cell 1 _ rfl
  have cR_2 := R.cell 2 _ rfl
  have cR_3 := R.cell 3 _ rfl
  have fR_0 := R.frozen 0
  have fR_1 := R.frozen 1
  have fR_2 := R.frozen 2
  have fR_3 := R.frozen 3
  have lR := R.lt
  have cS_0 := S.cell 0 _ rfl
  have cS_1 := S.cell 1 _ rfl
  have cS_2 := S.cell 2 _ rfl
  have cS_3 := S.cell 3 _ rfl
  have lS := S.lt
  go_wp2
  refine bodyPost_ret (v := .tuple #[.agg #[.int .i64 (a1 + b1), .int .i64 (a2 + b2), .int .i64 (a3 + b3), .int .i64 (a4 + b4)], .int .i64 0]) ?_ rfl ⟨rfl, below_set4 hB (by omega) _ _ _ _⟩
  simp [results, Try.results20, go_sem, cR_0, cR_1, cR_2, cR_3]
theorem radd_any (a1 a2 a3 a4 b1 b2 b3 b4 : Int) (w : World) : Calls Try.prog 20 #[.agg #[.int .i64 a1, .int .i64 a2, .int .i64 a3, .int .i64 a4], .agg #[.int .i64 b1, .int .i64 b2, .int .i64 b3, .int .i64 b4]] w fun e w' => e = .returned (.tuple #[.agg #[.int .i64 (addV a1 a2 a3 a4 b1 b2 b3 b4).a, .int .i64 (addV a1 a2 a3 a4 b1 b2 b3 b4).b, .int .i64 (addV a1 a2 a3 a4 b1 b2 b3 b4).c, .int .i64 (addV a1 a2 a3 a4 b1 b2 b3 b4).d], .int .i64 (addV a1 a2 a3 a4 b1 b2 b3 b4).e]) ∧ Below w.heap.size w w' := by
  have HA : Hid (∀ W, _) := fun W => rus_any a1 a2 a3 a4 W
  have HB : Hid (∀ W, _) := fun W => rus_any b1 b2 b3 b4 W
  have HS : Hid (∀ W, _) := fun W => rus_any (a1 + b1) (a2 + b2) (a3 + b3) (a4 + b4) W
  unfold addV
  cases h1 : usB a1 a2 a3 a4
  · rw [h1] at HA
    rw [if_neg (by simp)]
    exact radd_a a1 a2 a3 a4 b1 b2 b3 b4 w HA
  · rw [h1] at HA
    cases h2 : usB b1 b2 b3 b4
    · rw [h2] at HB
      rw [if_neg (by simp)]
      exact radd_b a1 a2 a3 a4 b1 b2 b3 b4 w HA HB
    · rw [h2] at HB
      rw [if_pos ⟨rfl, rfl⟩]
      obtain ⟨⟨p1, p2⟩, ⟨p3, p4⟩, ⟨p5, p6⟩, ⟨p7, p8⟩⟩ := usB_bd a1 a2 a3 a4 h1
      obtain ⟨⟨q1, q2⟩, ⟨q3, q4⟩, ⟨q5, q6⟩, ⟨q7, q8⟩⟩ := usB_bd b1 b2 b3 b4 h2
      cases h3 : usB (a1 + b1) (a2 + b2) (a3 + b3) (a4 + b4)
      · rw [h3] at HS
        exact radd_o a1 a2 a3 a4 b1 b2 b3 b4 w HA HB HS p1 p2 q1 q2 p3 p4 q3 q4 p5 p6 q5 q6 p7 p8 q7 q8
      · rw [h3] at HS
        exact radd_k a1 a2 a3 a4 b1 b2 b3 b4 w HA HB HS p1 p2 q1 q2 p3 p4 q3 q4 p5 p6 q5 q6 p7 p8 q7 q8

end Go.Proofs.Ytdlkpohjeedbiaa
