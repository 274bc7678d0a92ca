/- The walk of MeterRounds of layer 34. -/
import Derived.Test.YtdlkpohjeedbiaaK
namespace Go.Proofs.Ytdlkpohjeedbiaa
open Go.ChangeShapes Go.WideShapes Go.ChangeAt Go.RowKit

theorem ceil_open (x s : Int) (h : 1 ≤ s) : ∃ r, 0 ≤ r ∧ r < s ∧ ceilI x s * s = x + s - 1 - r := by
  unfold ceilI
  have e1 := Int.mul_ediv_add_emod (x + s - 1) s
  have e2 := Int.emod_nonneg (x + s - 1) (b := s) (by omega)
  have e3 := Int.emod_lt_of_pos (x + s - 1) (b := s) (by omega)
  rw [Int.mul_comm] at e1
  exact ⟨_, e2, e3, by omega⟩
theorem mul_lt_one (D s : Int) (h : 1 ≤ s) (h2 : -s < D * s) : 0 ≤ D := by
  rcases (show 0 ≤ D ∨ D ≤ -1 by omega) with g | g
  · exact g
  · have : D * s ≤ -1 * s := Int.mul_le_mul_of_nonneg_right g (by omega)
    omega
theorem ceil_mono (x y s : Int) (h : 1 ≤ s) (hxy : x ≤ y) : ceilI x s ≤ ceilI y s := by
  unfold ceilI
  exact Int.ediv_le_ediv (by omega) (by omega)
theorem ceil_pos (x s : Int) (h : 1 ≤ s) (hx : 1 ≤ x) : 1 ≤ ceilI x s := by
  obtain ⟨r, r1, r2, e⟩ := ceil_open x s h
  have : 0 ≤ ceilI x s - 1 := mul_lt_one _ s h (by rw [Int.sub_mul, Int.one_mul]; omega)
  omega
theorem ceil_zero (s : Int) (h : 1 ≤ s) : ceilI 0 s = 0 := by
  unfold ceilI
  exact Int.ediv_eq_zero_of_lt (by omega) (by omega)
structure Rounds (sp x y a b c : Int) : Prop where
  a1 : 1 ≤ a
  a2 : x ≤ a * sp
  a3 : a = 1 ∨ (2 ≤ a ∧ (a - 1) * sp < x)
  a4 : 0 ≤ a * sp
  a5 : a * sp ≤ 10000000000000
  a6 : 0 ≤ (a - 1) * sp
  ac : a ≤ c
  bc : b ≤ c
  b1 : 1 ≤ b
  ab : c ≤ a + b
  ab1 : 0 < x → 0 < y → a + b ≤ c + 1
  cc : c ≤ 1000000000000
theorem rounds_of (sp x y : Int) (h1 : 1 ≤ sp) (h2 : sp ≤ 1000000000) (hx : 0 ≤ x) (hx2 : x ≤ 500000000000) (hy : 0 ≤ y) (hy2 : y ≤ 500000000000) :
    Rounds sp x y (max (ceilI x sp) 1) (max (ceilI y sp) 1) (max (ceilI (x + y) sp) 1) := by
  obtain ⟨r, r1, r2, er⟩ := ceil_open x sp h1
  obtain ⟨s, s1, s2, es⟩ := ceil_open y sp h1
  obtain ⟨t, t1, t2, et⟩ := ceil_open (x + y) sp h1
  have m1 := ceil_mono x (x + y) sp h1 (by omega)
  have m2 := ceil_mono y (x + y) sp h1 (by omega)
  have d1 : 0 ≤ ceilI x sp + ceilI y sp - ceilI (x + y) sp := mul_lt_one _ sp h1 (by rw [Int.sub_mul, Int.add_mul]; omega)
  have d2 : 0 ≤ ceilI (x + y) sp + 1 - ceilI x sp - ceilI y sp := mul_lt_one _ sp h1 (by rw [Int.sub_mul, Int.sub_mul, Int.add_mul, Int.one_mul]; omega)
  have px : 0 < x → 1 ≤ ceilI x sp := fun h => ceil_pos x sp h1 (by omega)
  have py : 0 < y → 1 ≤ ceilI y sp := fun h => ceil_pos y sp h1 (by omega)
  have z : ceilI (x + y) sp ≤ x + y := by
    rcases (show ceilI (x + y) sp ≤ 1 ∨ 2 ≤ ceilI (x + y) sp by omega) with g | g
    · rcases (show x + y = 0 ∨ 1 ≤ x + y by omega) with g2 | g2
      · rw [g2, ceil_zero sp h1]; omega
      · omega
    · have : (ceilI (x + y) sp - 1) * 1 ≤ (ceilI (x + y) sp - 1) * sp := Int.mul_le_mul_of_nonneg_left h1 (by omega)
      rw [Int.sub_mul (ceilI (x + y) sp) 1 sp, Int.one_mul] at this
      omega
  have hm : (max (ceilI x sp) 1 = 1 ∧ ceilI x sp ≤ 1) ∨ (max (ceilI x sp) 1 = ceilI x sp ∧ 2 ≤ ceilI x sp) := by omega
  refine ⟨by omega, ?_, ?_, ?_, ?_, ?_, by omega, by omega, by omega, by omega, fun a b => by have := px a; have := py b; omega, by omega⟩
  · rcases hm with ⟨e, g⟩ | ⟨e, g⟩
    · rw [e, Int.one_mul]
      have : ceilI x sp * sp ≤ 1 * sp := Int.mul_le_mul_of_nonneg_right g (by omega)
      omega
    · rw [e]; omega
  · rcases hm with ⟨e, g⟩ | ⟨e, g⟩
    · exact .inl e
    · refine .inr ⟨by omega, ?_⟩
      rw [e, Int.sub_mul, Int.one_mul]
      omega
  · rcases hm with ⟨e, g⟩ | ⟨e, g⟩
    · rw [e]; omega
    · rw [e]; omega
  · rcases hm with ⟨e, g⟩ | ⟨e, g⟩
    · rw [e]; omega
    · rw [e]; omega
  · exact Int.mul_nonneg (by omega) (by omega)
set_option maxRecDepth 100000 in
set_option maxHeartbeats 1000000 in
theorem mr_out0 (sp gr x y cells more e0 : Int) (w : World) (HC : Hid (∀ W, Calls Try.prog 8 #[.agg #[.int .i64 sp, .int .i64 gr]] W fun e w' => e = .returned (.int .i64 e0) ∧ Below W.heap.size W w'))  (b : (e0 != 0) = true) : Calls Try.prog 3 #[.agg #[.int .i64 sp, .int .i64 gr], .int .i64 x, .int .i64 y, .int .i64 cells, .int .i64 more] w fun e w' => e = .returned (.bool true) ∧ Below w.heap.size w w' := by
  go_enter Try.func3, Try.ntmps3
  go_wp2_with fail
  refine (HC.out _).mono ?_
  rintro _ wx1 ⟨rfl, hb⟩
  have P := ((Box.new w 23 #[.int .i64 sp, .int .i64 gr])).next hb
  have hB := below_step (below_box (Below.refl _ w) _) hb
  clear hb
  have cP_0 := P.cell 0 _ rfl
  have cP_1 := P.cell 1 _ rfl
  have lP := P.lt
  go_wp2_with fail
  refine (awake_any _).mono ?_
  rintro _ wx2 ⟨rfl, hb⟩
  clear cP_0 cP_1 lP
  replace P := (P).next hb
  replace hB := below_step hB hb
  clear hb
  have cP_0 := P.cell 0 _ rfl
  have cP_1 := P.cell 1 _ rfl
  have lP := P.lt
  go_wp2
  go_ret
  exact ⟨rfl, hB⟩
set_option maxRecDepth 100000 in
set_option maxHeartbeats 1000000 in
theorem mr_out1 (sp gr x y cells more e0 : Int) (w : World) (HC : Hid (∀ W, Calls Try.prog 8 #[.agg #[.int .i64 sp, .int .i64 gr]] W fun e w' => e = .returned (.int .i64 e0) ∧ Below W.heap.size W w')) (g0 : (e0 != 0) = false) (b : x < 0) : Calls Try.prog 3 #[.agg #[.int .i64 sp, .int .i64 gr], .int .i64 x, .int .i64 y, .int .i64 cells, .int .i64 more] w fun e w' => e = .returned (.bool true) ∧ Below w.heap.size w w' := by
  go_enter Try.func3, Try.ntmps3
  go_wp2_with fail
  refine (HC.out _).mono ?_
  rintro _ wx1 ⟨rfl, hb⟩
  have P := ((Box.new w 23 #[.int .i64 sp, .int .i64 gr])).next hb
  have hB := below_step (below_box (Below.refl _ w) _) hb
  clear hb
  have cP_0 := P.cell 0 _ rfl
  have cP_1 := P.cell 1 _ rfl
  have lP := P.lt
  go_wp2_with fail
  refine (awake_any _).mono ?_
  rintro _ wx2 ⟨rfl, hb⟩
  clear cP_0 cP_1 lP
  replace P := (P).next hb
  replace hB := below_step hB hb
  clear hb
  have cP_0 := P.cell 0 _ rfl
  have cP_1 := P.cell 1 _ rfl
  have lP := P.lt
  go_wp2
  go_ret
  exact ⟨rfl, hB⟩
set_option maxRecDepth 100000 in
set_option maxHeartbeats 1000000 in
theorem mr_out2 (sp gr x y cells more e0 : Int) (w : World) (HC : Hid (∀ W, Calls Try.prog 8 #[.agg #[.int .i64 sp, .int .i64 gr]] W fun e w' => e = .returned (.int .i64 e0) ∧ Below W.heap.size W w')) (g0 : (e0 != 0) = false) (g1 : 0 ≤ x) (b : y < 0) : Calls Try.prog 3 #[.agg #[.int .i64 sp, .int .i64 gr], .int .i64 x, .int .i64 y, .int .i64 cells, .int .i64 more] w fun e w' => e = .returned (.bool true) ∧ Below w.heap.size w w' := by
  go_enter Try.func3, Try.ntmps3
  go_wp2_with fail
  refine (HC.out _).mono ?_
  rintro _ wx1 ⟨rfl, hb⟩
  have P := ((Box.new w 23 #[.int .i64 sp, .int .i64 gr])).next hb
  have hB := below_step (below_box (Below.refl _ w) _) hb
  clear hb
  have cP_0 := P.cell 0 _ rfl
  have cP_1 := P.cell 1 _ rfl
  have lP := P.lt
  go_wp2_with fail
  refine (awake_any _).mono ?_
  rintro _ wx2 ⟨rfl, hb⟩
  clear cP_0 cP_1 lP
  replace P := (P).next hb
  replace hB := below_step hB hb
  clear hb
  have cP_0 := P.cell 0 _ rfl
  have cP_1 := P.cell 1 _ rfl
  have lP := P.lt
  go_wp2
  go_ret
  exact ⟨rfl, hB⟩
set_option maxRecDepth 100000 in
set_option maxHeartbeats 1000000 in
theorem mr_out3 (sp gr x y cells more e0 : Int) (w : World) (HC : Hid (∀ W, Calls Try.prog 8 #[.agg #[.int .i64 sp, .int .i64 gr]] W fun e w' => e = .returned (.int .i64 e0) ∧ Below W.heap.size W w')) (g0 : (e0 != 0) = false) (g1 : 0 ≤ x) (g2 : 0 ≤ y) (b : cells < 0) : Calls Try.prog 3 #[.agg #[.int .i64 sp, .int .i64 gr], .int .i64 x, .int .i64 y, .int .i64 cells, .int .i64 more] w fun e w' => e = .returned (.bool true) ∧ Below w.heap.size w w' := by
  go_enter Try.func3, Try.ntmps3
  go_wp2_with fail
  refine (HC.out _).mono ?_
  rintro _ wx1 ⟨rfl, hb⟩
  have P := ((Box.new w 23 #[.int .i64 sp, .int .i64 gr])).next hb
  have hB := below_step (below_box (Below.refl _ w) _) hb
  clear hb
  have cP_0 := P.cell 0 _ rfl
  have cP_1 := P.cell 1 _ rfl
  have lP := P.lt
  go_wp2_with fail
  refine (awake_any _).mono ?_
  rintro _ wx2 ⟨rfl, hb⟩
  clear cP_0 cP_1 lP
  replace P := (P).next hb
  replace hB := below_step hB hb
  clear hb
  have cP_0 := P.cell 0 _ rfl
  have cP_1 := P.cell 1 _ rfl
  have lP := P.lt
  go_wp2
  go_ret
  exact ⟨rfl, hB⟩
set_option maxRecDepth 100000 in
set_option maxHeartbeats 1000000 in
theorem mr_out4 (sp gr x y cells more e0 : Int) (w : World) (HC : Hid (∀ W, Calls Try.prog 8 #[.agg #[.int .i64 sp, .int .i64 gr]] W fun e w' => e = .returned (.int .i64 e0) ∧ Below W.heap.size W w')) (g0 : (e0 != 0) = false) (g1 : 0 ≤ x) (g2 : 0 ≤ y) (g3 : 0 ≤ cells) (b : more < 0) : Calls Try.prog 3 #[.agg #[.int .i64 sp, .int .i64 gr], .int .i64 x, .int .i64 y, .int .i64 cells, .int .i64 more] w fun e w' => e = .returned (.bool true) ∧ Below w.heap.size w w' := by
  go_enter Try.func3, Try.ntmps3
  go_wp2_with fail
  refine (HC.out _).mono ?_
  rintro _ wx1 ⟨rfl, hb⟩
  have P := ((Box.new w 23 #[.int .i64 sp, .int .i64 gr])).next hb
  have hB := below_step (below_box (Below.refl _ w) _) hb
  clear hb
  have cP_0 := P.cell 0 _ rfl
  have cP_1 := P.cell 1 _ rfl
  have lP := P.lt
  go_wp2_with fail
  refine (awake_any _).mono ?_
  rintro _ wx2 ⟨rfl, hb⟩
  clear cP_0 cP_1 lP
  replace P := (P).next hb
  replace hB := below_step hB hb
  clear hb
  have cP_0 := P.cell 0 _ rfl
  have cP_1 := P.cell 1 _ rfl
  have lP := P.lt
  go_wp2
  go_ret
  exact ⟨rfl, hB⟩
set_option maxRecDepth 100000 in
set_option maxHeartbeats 1000000 in
theorem mr_out5 (sp gr x y cells more e0 : Int) (w : World) (HC : Hid (∀ W, Calls Try.prog 8 #[.agg #[.int .i64 sp, .int .i64 gr]] W fun e w' => e = .returned (.int .i64 e0) ∧ Below W.heap.size W w')) (g0 : (e0 != 0) = false) (g1 : 0 ≤ x) (g2 : 0 ≤ y) (g3 : 0 ≤ cells) (g4 : 0 ≤ more) (b : 500000000000 < x) : Calls Try.prog 3 #[.agg #[.int .i64 sp, .int .i64 gr], .int .i64 x, .int .i64 y, .int .i64 cells, .int .i64 more] w fun e w' => e = .returned (.bool true) ∧ Below w.heap.size w w' := by
  go_enter Try.func3, Try.ntmps3
  go_wp2_with fail
  refine (HC.out _).mono ?_
  rintro _ wx1 ⟨rfl, hb⟩
  have P := ((Box.new w 23 #[.int .i64 sp, .int .i64 gr])).next hb
  have hB := below_step (below_box (Below.refl _ w) _) hb
  clear hb
  have cP_0 := P.cell 0 _ rfl
  have cP_1 := P.cell 1 _ rfl
  have lP := P.lt
  go_wp2_with fail
  refine (awake_any _).mono ?_
  rintro _ wx2 ⟨rfl, hb⟩
  clear cP_0 cP_1 lP
  replace P := (P).next hb
  replace hB := below_step hB hb
  clear hb
  have cP_0 := P.cell 0 _ rfl
  have cP_1 := P.cell 1 _ rfl
  have lP := P.lt
  go_wp2
  go_ret
  exact ⟨rfl, hB⟩
set_option maxRecDepth 100000 in
set_option maxHeartbeats 1000000 in
theorem mr_out6 (sp gr x y cells more e0 : Int) (w : World) (HC : Hid (∀ W, Calls Try.prog 8 #[.agg #[.int .i64 sp, .int .i64 gr]] W fun e w' => e = .returned (.int .i64 e0) ∧ Below W.heap.size W w')) (g0 : (e0 != 0) = false) (g1 : 0 ≤ x) (g2 : 0 ≤ y) (g3 : 0 ≤ cells) (g4 : 0 ≤ more) (g5 : x ≤ 500000000000) (b : 500000000000 < y) : Calls Try.prog 3 #[.agg #[.int .i64 sp, .int .i64 gr], .int .i64 x, .int .i64 y, .int .i64 cells, .int .i64 more] w fun e w' => e = .returned (.bool true) ∧ Below w.heap.size w w' := by
  go_enter Try.func3, Try.ntmps3
  go_wp2_with fail
  refine (HC.out _).mono ?_
  rintro _ wx1 ⟨rfl, hb⟩
  have P := ((Box.new w 23 #[.int .i64 sp, .int .i64 gr])).next hb
  have hB := below_step (below_box (Below.refl _ w) _) hb
  clear hb
  have cP_0 := P.cell 0 _ rfl
  have cP_1 := P.cell 1 _ rfl
  have lP := P.lt
  go_wp2_with fail
  refine (awake_any _).mono ?_
  rintro _ wx2 ⟨rfl, hb⟩
  clear cP_0 cP_1 lP
  replace P := (P).next hb
  replace hB := below_step hB hb
  clear hb
  have cP_0 := P.cell 0 _ rfl
  have cP_1 := P.cell 1 _ rfl
  have lP := P.lt
  go_wp2
  go_ret
  exact ⟨rfl, hB⟩
set_option maxRecDepth 100000 in
set_option maxHeartbeats 1000000 in
theorem mr_out7 (sp gr x y cells more e0 : Int) (w : World) (HC : Hid (∀ W, Calls Try.prog 8 #[.agg #[.int .i64 sp, .int .i64 gr]] W fun e w' => e = .returned (.int .i64 e0) ∧ Below W.heap.size W w')) (g0 : (e0 != 0) = false) (g1 : 0 ≤ x) (g2 : 0 ≤ y) (g3 : 0 ≤ cells) (g4 : 0 ≤ more) (g5 : x ≤ 500000000000) (g6 : y ≤ 500000000000) (b : 500000000000 < cells) : Calls Try.prog 3 #[.agg #[.int .i64 sp, .int .i64 gr], .int .i64 x, .int .i64 y, .int .i64 cells, .int .i64 more] w fun e w' => e = .returned (.bool true) ∧ Below w.heap.size w w' := by
  go_enter Try.func3, Try.ntmps3
  go_wp2_with fail
  refine (HC.out _).mono ?_
  rintro _ wx1 ⟨rfl, hb⟩
  have P := ((Box.new w 23 #[.int .i64 sp, .int .i64 gr])).next hb
  have hB := below_step (below_box (Below.refl _ w) _) hb
  clear hb
  have cP_0 := P.cell 0 _ rfl
  have cP_1 := P.cell 1 _ rfl
  have lP := P.lt
  go_wp2_with fail
  refine (awake_any _).mono ?_
  rintro _ wx2 ⟨rfl, hb⟩
  clear cP_0 cP_1 lP
  replace P := (P).next hb
  replace hB := below_step hB hb
  clear hb
  have cP_0 := P.cell 0 _ rfl
  have cP_1 := P.cell 1 _ rfl
  have lP := P.lt
  go_wp2
  go_ret
  exact ⟨rfl, hB⟩
set_option maxRecDepth 100000 in
set_option maxHeartbeats 1000000 in
theorem mr_out8 (sp gr x y cells more e0 : Int) (w : World) (HC : Hid (∀ W, Calls Try.prog 8 #[.agg #[.int .i64 sp, .int .i64 gr]] W fun e w' => e = .returned (.int .i64 e0) ∧ Below W.heap.size W w')) (g0 : (e0 != 0) = false) (g1 : 0 ≤ x) (g2 : 0 ≤ y) (g3 : 0 ≤ cells) (g4 : 0 ≤ more) (g5 : x ≤ 500000000000) (g6 : y ≤ 500000000000) (g7 : cells ≤ 500000000000) (b : 500000000000 < more) : Calls Try.prog 3 #[.agg #[.int .i64 sp, .int .i64 gr], .int .i64 x, .int .i64 y, .int .i64 cells, .int .i64 more] w fun e w' => e = .returned (.bool true) ∧ Below w.heap.size w w' := by
  go_enter Try.func3, Try.ntmps3
  go_wp2_with fail
  refine (HC.out _).mono ?_
  rintro _ wx1 ⟨rfl, hb⟩
  have P := ((Box.new w 23 #[.int .i64 sp, .int .i64 gr])).next hb
  have hB := below_step (below_box (Below.refl _ w) _) hb
  clear hb
  have cP_0 := P.cell 0 _ rfl
  have cP_1 := P.cell 1 _ rfl
  have lP := P.lt
  go_wp2_with fail
  refine (awake_any _).mono ?_
  rintro _ wx2 ⟨rfl, hb⟩
  clear cP_0 cP_1 lP
  replace P := (P).next hb
  replace hB := below_step hB hb
  clear hb
  have cP_0 := P.cell 0 _ rfl
  have cP_1 := P.cell 1 _ rfl
  have lP := P.lt
  go_wp2
  go_ret
  exact ⟨rfl, hB⟩
structure Units3 (cells u eu v ev x ex : Int) : Prop where
  h : (eu = 8 ∧ ev = 8 ∧ ex = 8) ∨ (eu = 0 ∧ (ev = 8 ∨ (ev = 0 ∧ u ≤ v)) ∧ (ex = 8 ∨ (ex = 0 ∧ u ≤ x)) ∧ ((u = 0 ∧ cells = 0) ∨ (u ≠ 0 ∧ cells ≠ 0)))
set_option maxRecDepth 100000 in
set_option maxHeartbeats 4000000 in
theorem mr_main (sp gr x y cells more a b c u eu v ev q eq : Int) (w : World) (HC : Hid (∀ W, Calls Try.prog 8 #[.agg #[.int .i64 sp, .int .i64 gr]] W fun e w' => e = .returned (.int .i64 0) ∧ Below W.heap.size W w')) (g1 : 0 ≤ x) (g2 : 0 ≤ y) (g3 : 0 ≤ cells) (g4 : 0 ≤ more) (g5 : x ≤ 500000000000) (g6 : y ≤ 500000000000) (g7 : cells ≤ 500000000000) (g8 : more ≤ 500000000000)
    (HA : Hid (∀ W, Calls Try.prog 10 #[.agg #[.int .i64 sp, .int .i64 gr], .int .i64 x] W fun e w' => e = .returned (.tuple #[.int .i64 a, .int .i64 0]) ∧ Below W.heap.size W w')) (HB : Hid (∀ W, Calls Try.prog 10 #[.agg #[.int .i64 sp, .int .i64 gr], .int .i64 y] W fun e w' => e = .returned (.tuple #[.int .i64 b, .int .i64 0]) ∧ Below W.heap.size W w')) (HT : Hid (∀ W, Calls Try.prog 10 #[.agg #[.int .i64 sp, .int .i64 gr], .int .i64 (x + y)] W fun e w' => e = .returned (.tuple #[.int .i64 c, .int .i64 0]) ∧ Below W.heap.size W w'))
    (HU : Hid (∀ W, Calls Try.prog 11 #[.agg #[.int .i64 sp, .int .i64 gr], .int .i64 cells, .int .i64 a] W fun e w' => e = .returned (.tuple #[.int .i64 u, .int .i64 eu]) ∧ Below W.heap.size W w')) (HV : Hid (∀ W, Calls Try.prog 11 #[.agg #[.int .i64 sp, .int .i64 gr], .int .i64 (cells + more), .int .i64 a] W fun e w' => e = .returned (.tuple #[.int .i64 v, .int .i64 ev]) ∧ Below W.heap.size W w')) (HQ : Hid (∀ W, Calls Try.prog 11 #[.agg #[.int .i64 sp, .int .i64 gr], .int .i64 cells, .int .i64 c] W fun e w' => e = .returned (.tuple #[.int .i64 q, .int .i64 eq]) ∧ Below W.heap.size W w'))
    (R : Hid (Rounds sp x y a b c)) (S : Hid (Units3 cells u eu v ev q eq)) : Calls Try.prog 3 #[.agg #[.int .i64 sp, .int .i64 gr], .int .i64 x, .int .i64 y, .int .i64 cells, .int .i64 more] w fun e w' => e = .returned (.bool true) ∧ Below w.heap.size w w' := by
  go_enter Try.func3, Try.ntmps3
  go_wp2_with fail
  refine (HC.out _).mono ?_
  rintro _ wx1 ⟨rfl, hb⟩
  have P := ((Box.new w 23 #[.int .i64 sp, .int .i64 gr])).next hb
  have hB := below_step (below_box (Below.refl _ w) _) hb
  clear hb
  have cP_0 := P.cell 0 _ rfl
  have cP_1 := P.cell 1 _ rfl
  have lP := P.lt
  go_wp2_with fail
  refine (HA.out _).mono ?_
  rintro _ wx2 ⟨rfl, hb⟩
  clear cP_0 cP_1 lP
  replace P := (P).next hb
  replace hB := below_step hB hb
  clear hb
  have cP_0 := P.cell 0 _ rfl
  have cP_1 := P.cell 1 _ rfl
  have lP := P.lt
  go_wp2_with fail
  refine (HB.out _).mono ?_
  rintro _ wx3 ⟨rfl, hb⟩
  clear cP_0 cP_1 lP
  replace P := (P).next hb
  replace hB := below_step hB hb
  clear hb
  have cP_0 := P.cell 0 _ rfl
  have cP_1 := P.cell 1 _ rfl
  have lP := P.lt
  go_wp2_with fail
  refine (HT.out _).mono ?_
  rintro _ wx4 ⟨rfl, hb⟩
  clear cP_0 cP_1 lP
  replace P := (P).next hb
  replace hB := below_step hB hb
  clear hb
  go_upto_region 6 with fail
  go_upto_region 6 with fail
  go_cut [120] (fun sc wc => sc = .bool false ∧ wx4 = wc)
  case first =>
    obtain ⟨a1, a2, a3, a4, a5, a6, ac, bc, b1, ab, ab1, cc⟩ := R.out
    clear R S ab1 HU HV HQ HC HA HB HT
    have cP_0 := P.cell 0 _ rfl
    have cP_1 := P.cell 1 _ rfl
    have lP := P.lt
    rcases a3 with a3 | ⟨a3, a7⟩
    · subst a3
      go_wp2
      go_meet
      exact ⟨congrArg Value.bool (by simp only [Bool.or_eq_false_iff, decide_eq_false_iff_not]; omega), rfl⟩
    · go_wp2
      go_meet
      exact ⟨congrArg Value.bool (by simp only [Bool.or_eq_false_iff, decide_eq_false_iff_not]; omega), rfl⟩
  obtain ⟨rfl, rfl⟩ := hcut
  have cP_0 := P.cell 0 _ rfl
  have cP_1 := P.cell 1 _ rfl
  have lP := P.lt
  go_upto_region 8 with fail
  clear cP_0 cP_1 lP
  go_cut [141] (fun sc wc => sc = .bool false ∧ wx4 = wc)
  case first =>
    obtain ⟨a1, a2, a3, a4, a5, a6, ac, bc, b1, ab, ab1, cc⟩ := R.out
    clear R S HU HV HQ HC HA HB HT a3
    have cP_0 := P.cell 0 _ rfl
    have cP_1 := P.cell 1 _ rfl
    have lP := P.lt
    rcases (show x = 0 ∨ (0 < x ∧ y = 0) ∨ (0 < x ∧ 0 < y) by omega) with hx | ⟨hx, hy⟩ | ⟨hx, hy⟩
    · subst hx
      clear ab1
      go_wp2
      go_meet
      exact ⟨congrArg Value.bool (by simp only [decide_eq_false_iff_not]; omega), rfl⟩
    · subst hy
      clear ab1
      go_wp2
      go_meet
      exact ⟨congrArg Value.bool (by simp only [decide_eq_false_iff_not]; omega), rfl⟩
    · replace ab1 := ab1 hx hy
      go_wp2
      go_meet
      exact ⟨congrArg Value.bool (by simp only [Bool.or_eq_false_iff, decide_eq_false_iff_not]; omega), rfl⟩
  obtain ⟨rfl, rfl⟩ := hcut
  have cP_0 := P.cell 0 _ rfl
  have cP_1 := P.cell 1 _ rfl
  have lP := P.lt
  go_wp2_with fail
  refine (HU.out _).mono ?_
  rintro _ wx5 ⟨rfl, hb⟩
  clear cP_0 cP_1 lP
  replace P := (P).next hb
  replace hB := below_step hB hb
  clear hb
  have cP_0 := P.cell 0 _ rfl
  have cP_1 := P.cell 1 _ rfl
  have lP := P.lt
  go_wp2_with fail
  refine (HV.out _).mono ?_
  rintro _ wx6 ⟨rfl, hb⟩
  clear cP_0 cP_1 lP
  replace P := (P).next hb
  replace hB := below_step hB hb
  clear hb
  have cP_0 := P.cell 0 _ rfl
  have cP_1 := P.cell 1 _ rfl
  have lP := P.lt
  go_wp2_with fail
  refine (HQ.out _).mono ?_
  rintro _ wx7 ⟨rfl, hb⟩
  clear cP_0 cP_1 lP
  replace P := (P).next hb
  replace hB := below_step hB hb
  clear hb
  have cP_0 := P.cell 0 _ rfl
  have cP_1 := P.cell 1 _ rfl
  have lP := P.lt
  obtain ⟨s1⟩ := S.out
  clear S R HU HV HQ HC HA HB HT
  rcases s1 with ⟨s1, s2, s3⟩ | ⟨s1, s2, s3, s4⟩
  · subst s1; subst s2; subst s3
    skip
    go_wp2_with fail
    refine (awake_any _).mono ?_
    rintro _ wx8 ⟨rfl, hb⟩
    clear cP_0 cP_1 lP
    replace P := (P).next hb
    replace hB := below_step hB hb
    clear hb
    go_wp2
    go_ret
    exact ⟨rfl, hB⟩
  · subst s1
    rcases s2 with s2 | ⟨s2, s5⟩ <;> rcases s3 with s3 | ⟨s3, s6⟩ <;> rcases s4 with ⟨s4, s7⟩ | ⟨s4, s7⟩
    all_goals
      subst s2; subst s3
      first
        | (subst s4; subst s7)
        | (have s8 : (u == 0) = false := by simpa using s4
           have s9 : (cells == 0) = false := by simpa using s7)
      go_wp2_with fail
      refine (awake_any _).mono ?_
      rintro _ wx8 ⟨rfl, hb⟩
      clear cP_0 cP_1 lP
      replace P := (P).next hb
      replace hB := below_step hB hb
      clear hb
      go_wp2
      go_ret
      exact ⟨rfl, hB⟩

end Go.Proofs.Ytdlkpohjeedbiaa
