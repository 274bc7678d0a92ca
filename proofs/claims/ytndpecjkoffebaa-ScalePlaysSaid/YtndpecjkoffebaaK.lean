/- Contracts of Settles of layer 42 (scale) and of its reference. -/
import Derived.Test.YtndpecjkoffebaaI
namespace Go.Proofs.Ytndpecjkoffebaa
open Go.ChangeShapes Go.WideShapes Go.ChangeAt Go.RowKit

set_option maxHeartbeats 1000000 in
theorem set_serr (t mi ma up dn cu cd c ch load : Int) (w : World) (HS : Hid (∀ W, Calls Try.prog 25 #[.agg #[.int .i64 t, .int .i64 mi, .int .i64 ma, .int .i64 up, .int .i64 dn, .int .i64 cu, .int .i64 cd], .agg #[.int .i64 c, .int .i64 ch]] W fun e w' => e = .returned (.int .i64 2) ∧ Below W.heap.size W w')) : Calls Try.prog 15 #[.agg #[.int .i64 t, .int .i64 mi, .int .i64 ma, .int .i64 up, .int .i64 dn, .int .i64 cu, .int .i64 cd], .agg #[.int .i64 c, .int .i64 ch], .int .i64 load] w fun e w' => e = .returned (.tuple #[.int .i64 (0), .int .i64 2]) ∧ Below w.heap.size w w' := by
  go_enter Try.func15, Try.ntmps15
  go_wp2_with fail
  refine (HS.out _).mono ?_
  rintro e w' ⟨rfl, hb⟩
  obtain ⟨B1, B2, hB⟩ := box2 hb
  clear hb
  go_wp2
  go_ret2
  exact ⟨rfl, hB⟩
set_option maxHeartbeats 1000000 in
theorem set_derr (t mi ma up dn cu cd c ch load : Int) (w : World) (HS : Hid (∀ W, Calls Try.prog 25 #[.agg #[.int .i64 t, .int .i64 mi, .int .i64 ma, .int .i64 up, .int .i64 dn, .int .i64 cu, .int .i64 cd], .agg #[.int .i64 c, .int .i64 ch]] W fun e w' => e = .returned (.int .i64 0) ∧ Below W.heap.size W w')) (HD : Hid (∀ W, Calls Try.prog 11 #[.agg #[.int .i64 t, .int .i64 mi, .int .i64 ma, .int .i64 up, .int .i64 dn, .int .i64 cu, .int .i64 cd], .int .i64 load] W fun e w' => e = .returned (.tuple #[.int .i64 0, .int .i64 2]) ∧ Below W.heap.size W w')) : Calls Try.prog 15 #[.agg #[.int .i64 t, .int .i64 mi, .int .i64 ma, .int .i64 up, .int .i64 dn, .int .i64 cu, .int .i64 cd], .agg #[.int .i64 c, .int .i64 ch], .int .i64 load] w fun e w' => e = .returned (.tuple #[.int .i64 (0), .int .i64 2]) ∧ Below w.heap.size w w' := by
  go_enter Try.func15, Try.ntmps15
  go_wp2_with fail
  refine (HS.out _).mono ?_
  rintro e w' ⟨rfl, hb⟩
  obtain ⟨B1, B2, hB⟩ := box2 hb
  clear hb
  obtain ⟨c0, c1, c2, c3, c4, c5, c6⟩ := B1.cells7
  obtain ⟨d0, d1⟩ := B2.cells2
  go_wp2_with fail
  refine (HD.out _).mono ?_
  rintro e w2 ⟨rfl, hb⟩
  have hB2 := below_step hB hb
  have A1 := B1.next hb
  have A2 := B2.next hb
  clear hb hB B1 B2 c0 c1 c2 c3 c4 c5 c6 d0 d1
  go_wp2
  go_ret2
  exact ⟨rfl, hB2⟩
set_option maxHeartbeats 1000000 in
theorem set_up (t mi ma up dn cu cd c ch load d : Int) (w : World) (HS : Hid (∀ W, Calls Try.prog 25 #[.agg #[.int .i64 t, .int .i64 mi, .int .i64 ma, .int .i64 up, .int .i64 dn, .int .i64 cu, .int .i64 cd], .agg #[.int .i64 c, .int .i64 ch]] W fun e w' => e = .returned (.int .i64 0) ∧ Below W.heap.size W w')) (HD : Hid (∀ W, Calls Try.prog 11 #[.agg #[.int .i64 t, .int .i64 mi, .int .i64 ma, .int .i64 up, .int .i64 dn, .int .i64 cu, .int .i64 cd], .int .i64 load] W fun e w' => e = .returned (.tuple #[.int .i64 d, .int .i64 0]) ∧ Below W.heap.size W w')) (h2 : 0 ≤ c) (h3 : c ≤ 1000) (k2 : 0 ≤ d) (k3 : d ≤ 1000) (u1 : 1 ≤ up) (u2 : up ≤ 1000) (_n1 : 1 ≤ dn) (_n2 : dn ≤ 1000) (g : c ≤ d) : Calls Try.prog 15 #[.agg #[.int .i64 t, .int .i64 mi, .int .i64 ma, .int .i64 up, .int .i64 dn, .int .i64 cu, .int .i64 cd], .agg #[.int .i64 c, .int .i64 ch], .int .i64 load] w fun e w' => e = .returned (.tuple #[.int .i64 (ceilI (d - c) up), .int .i64 0]) ∧ Below w.heap.size w w' := by
  go_enter Try.func15, Try.ntmps15
  go_wp2_with fail
  refine (HS.out _).mono ?_
  rintro e w' ⟨rfl, hb⟩
  obtain ⟨B1, B2, hB⟩ := box2 hb
  clear hb
  obtain ⟨c0, c1, c2, c3, c4, c5, c6⟩ := B1.cells7
  obtain ⟨d0, d1⟩ := B2.cells2
  go_wp2_with fail
  refine (HD.out _).mono ?_
  rintro e w2 ⟨rfl, hb⟩
  have hB2 := below_step hB hb
  have A1 := B1.next hb
  have A2 := B2.next hb
  clear hb hB B1 B2 c0 c1 c2 c3 c4 c5 c6 d0 d1
  obtain ⟨c0, c1, c2, c3, c4, c5, c6⟩ := A1.cells7
  obtain ⟨d0, d1⟩ := A2.cells2
  go_wp2_with fail
  refine (ceil_any _ _ _ (by omega) (by omega) (by omega) (by omega)).mono ?_
  rintro e w3 ⟨rfl, hb⟩
  have hB3 := below_step hB2 hb
  clear hb hB2 A1 A2 c0 c1 c2 c3 c4 c5 c6 d0 d1
  go_wp2
  go_ret2
  exact ⟨rfl, hB3⟩
set_option maxHeartbeats 1000000 in
theorem set_dn (t mi ma up dn cu cd c ch load d : Int) (w : World) (HS : Hid (∀ W, Calls Try.prog 25 #[.agg #[.int .i64 t, .int .i64 mi, .int .i64 ma, .int .i64 up, .int .i64 dn, .int .i64 cu, .int .i64 cd], .agg #[.int .i64 c, .int .i64 ch]] W fun e w' => e = .returned (.int .i64 0) ∧ Below W.heap.size W w')) (HD : Hid (∀ W, Calls Try.prog 11 #[.agg #[.int .i64 t, .int .i64 mi, .int .i64 ma, .int .i64 up, .int .i64 dn, .int .i64 cu, .int .i64 cd], .int .i64 load] W fun e w' => e = .returned (.tuple #[.int .i64 d, .int .i64 0]) ∧ Below W.heap.size W w')) (h2 : 0 ≤ c) (h3 : c ≤ 1000) (k2 : 0 ≤ d) (k3 : d ≤ 1000) (_u1 : 1 ≤ up) (_u2 : up ≤ 1000) (n1 : 1 ≤ dn) (n2 : dn ≤ 1000) (g : d < c) : Calls Try.prog 15 #[.agg #[.int .i64 t, .int .i64 mi, .int .i64 ma, .int .i64 up, .int .i64 dn, .int .i64 cu, .int .i64 cd], .agg #[.int .i64 c, .int .i64 ch], .int .i64 load] w fun e w' => e = .returned (.tuple #[.int .i64 (ceilI (c - d) dn), .int .i64 0]) ∧ Below w.heap.size w w' := by
  go_enter Try.func15, Try.ntmps15
  go_wp2_with fail
  refine (HS.out _).mono ?_
  rintro e w' ⟨rfl, hb⟩
  obtain ⟨B1, B2, hB⟩ := box2 hb
  clear hb
  obtain ⟨c0, c1, c2, c3, c4, c5, c6⟩ := B1.cells7
  obtain ⟨d0, d1⟩ := B2.cells2
  go_wp2_with fail
  refine (HD.out _).mono ?_
  rintro e w2 ⟨rfl, hb⟩
  have hB2 := below_step hB hb
  have A1 := B1.next hb
  have A2 := B2.next hb
  clear hb hB B1 B2 c0 c1 c2 c3 c4 c5 c6 d0 d1
  obtain ⟨c0, c1, c2, c3, c4, c5, c6⟩ := A1.cells7
  obtain ⟨d0, d1⟩ := A2.cells2
  go_wp2_with fail
  refine (ceil_any _ _ _ (by omega) (by omega) (by omega) (by omega)).mono ?_
  rintro e w3 ⟨rfl, hb⟩
  have hB3 := below_step hB2 hb
  clear hb hB2 A1 A2 c0 c1 c2 c3 c4 c5 c6 d0 d1
  go_wp2
  go_ret2
  exact ⟨rfl, hB3⟩
set_option maxHeartbeats 1000000 in
theorem rset_serr (t mi ma up dn cu cd c ch load : Int) (w : World) (HS : Hid (∀ W, Calls Try.prog 27 #[.agg #[.int .i64 t, .int .i64 mi, .int .i64 ma, .int .i64 up, .int .i64 dn, .int .i64 cu, .int .i64 cd], .agg #[.int .i64 c, .int .i64 ch]] W fun e w' => e = .returned (.int .i64 2) ∧ Below W.heap.size W w')) : Calls Try.prog 16 #[.agg #[.int .i64 t, .int .i64 mi, .int .i64 ma, .int .i64 up, .int .i64 dn, .int .i64 cu, .int .i64 cd], .agg #[.int .i64 c, .int .i64 ch], .int .i64 load] w fun e w' => e = .returned (.tuple #[.int .i64 (0), .int .i64 2]) ∧ Below w.heap.size w w' := by
  go_enter Try.func16, Try.ntmps16
  go_wp2_with fail
  refine (HS.out _).mono ?_
  rintro e w' ⟨rfl, hb⟩
  obtain ⟨B1, B2, hB⟩ := box2 hb
  clear hb
  go_wp2
  go_ret2
  exact ⟨rfl, hB⟩
set_option maxHeartbeats 1000000 in
theorem rset_derr (t mi ma up dn cu cd c ch load : Int) (w : World) (HS : Hid (∀ W, Calls Try.prog 27 #[.agg #[.int .i64 t, .int .i64 mi, .int .i64 ma, .int .i64 up, .int .i64 dn, .int .i64 cu, .int .i64 cd], .agg #[.int .i64 c, .int .i64 ch]] W fun e w' => e = .returned (.int .i64 0) ∧ Below W.heap.size W w')) (HD : Hid (∀ W, Calls Try.prog 12 #[.agg #[.int .i64 t, .int .i64 mi, .int .i64 ma, .int .i64 up, .int .i64 dn, .int .i64 cu, .int .i64 cd], .int .i64 load] W fun e w' => e = .returned (.tuple #[.int .i64 0, .int .i64 2]) ∧ Below W.heap.size W w')) : Calls Try.prog 16 #[.agg #[.int .i64 t, .int .i64 mi, .int .i64 ma, .int .i64 up, .int .i64 dn, .int .i64 cu, .int .i64 cd], .agg #[.int .i64 c, .int .i64 ch], .int .i64 load] w fun e w' => e = .returned (.tuple #[.int .i64 (0), .int .i64 2]) ∧ Below w.heap.size w w' := by
  go_enter Try.func16, Try.ntmps16
  go_wp2_with fail
  refine (HS.out _).mono ?_
  rintro e w' ⟨rfl, hb⟩
  obtain ⟨B1, B2, hB⟩ := box2 hb
  clear hb
  obtain ⟨c0, c1, c2, c3, c4, c5, c6⟩ := B1.cells7
  obtain ⟨d0, d1⟩ := B2.cells2
  go_wp2_with fail
  refine (HD.out _).mono ?_
  rintro e w2 ⟨rfl, hb⟩
  have hB2 := below_step hB hb
  have A1 := B1.next hb
  have A2 := B2.next hb
  clear hb hB B1 B2 c0 c1 c2 c3 c4 c5 c6 d0 d1
  go_wp2
  go_ret2
  exact ⟨rfl, hB2⟩
set_option maxHeartbeats 1000000 in
theorem rset_up (t mi ma up dn cu cd c ch load d : Int) (w : World) (HS : Hid (∀ W, Calls Try.prog 27 #[.agg #[.int .i64 t, .int .i64 mi, .int .i64 ma, .int .i64 up, .int .i64 dn, .int .i64 cu, .int .i64 cd], .agg #[.int .i64 c, .int .i64 ch]] W fun e w' => e = .returned (.int .i64 0) ∧ Below W.heap.size W w')) (HD : Hid (∀ W, Calls Try.prog 12 #[.agg #[.int .i64 t, .int .i64 mi, .int .i64 ma, .int .i64 up, .int .i64 dn, .int .i64 cu, .int .i64 cd], .int .i64 load] W fun e w' => e = .returned (.tuple #[.int .i64 d, .int .i64 0]) ∧ Below W.heap.size W w')) (h2 : 0 ≤ c) (h3 : c ≤ 1000) (k2 : 0 ≤ d) (k3 : d ≤ 1000) (u1 : 1 ≤ up) (u2 : up ≤ 1000) (_n1 : 1 ≤ dn) (_n2 : dn ≤ 1000) (g : c < d) : Calls Try.prog 16 #[.agg #[.int .i64 t, .int .i64 mi, .int .i64 ma, .int .i64 up, .int .i64 dn, .int .i64 cu, .int .i64 cd], .agg #[.int .i64 c, .int .i64 ch], .int .i64 load] w fun e w' => e = .returned (.tuple #[.int .i64 ((d - c + up - 1) / up), .int .i64 0]) ∧ Below w.heap.size w w' := by
  have z : (up == 0) = false := beq_eq_false_iff_ne.2 (by omega)
  go_enter Try.func16, Try.ntmps16
  go_wp2_with fail
  refine (HS.out _).mono ?_
  rintro e w' ⟨rfl, hb⟩
  obtain ⟨B1, B2, hB⟩ := box2 hb
  clear hb
  obtain ⟨c0, c1, c2, c3, c4, c5, c6⟩ := B1.cells7
  obtain ⟨d0, d1⟩ := B2.cells2
  go_wp2_with fail
  refine (HD.out _).mono ?_
  rintro e w2 ⟨rfl, hb⟩
  have hB2 := below_step hB hb
  have A1 := B1.next hb
  have A2 := B2.next hb
  clear hb hB B1 B2 c0 c1 c2 c3 c4 c5 c6 d0 d1
  obtain ⟨c0, c1, c2, c3, c4, c5, c6⟩ := A1.cells7
  obtain ⟨d0, d1⟩ := A2.cells2
  go_wp2
  go_ret2
  exact ⟨rfl, hB2⟩
set_option maxHeartbeats 1000000 in
theorem rset_dn (t mi ma up dn cu cd c ch load d : Int) (w : World) (HS : Hid (∀ W, Calls Try.prog 27 #[.agg #[.int .i64 t, .int .i64 mi, .int .i64 ma, .int .i64 up, .int .i64 dn, .int .i64 cu, .int .i64 cd], .agg #[.int .i64 c, .int .i64 ch]] W fun e w' => e = .returned (.int .i64 0) ∧ Below W.heap.size W w')) (HD : Hid (∀ W, Calls Try.prog 12 #[.agg #[.int .i64 t, .int .i64 mi, .int .i64 ma, .int .i64 up, .int .i64 dn, .int .i64 cu, .int .i64 cd], .int .i64 load] W fun e w' => e = .returned (.tuple #[.int .i64 d, .int .i64 0]) ∧ Below W.heap.size W w')) (h2 : 0 ≤ c) (h3 : c ≤ 1000) (k2 : 0 ≤ d) (k3 : d ≤ 1000) (_u1 : 1 ≤ up) (_u2 : up ≤ 1000) (n1 : 1 ≤ dn) (n2 : dn ≤ 1000) (g : d ≤ c) : Calls Try.prog 16 #[.agg #[.int .i64 t, .int .i64 mi, .int .i64 ma, .int .i64 up, .int .i64 dn, .int .i64 cu, .int .i64 cd], .agg #[.int .i64 c, .int .i64 ch], .int .i64 load] w fun e w' => e = .returned (.tuple #[.int .i64 ((c - d + dn - 1) / dn), .int .i64 0]) ∧ Below w.heap.size w w' := by
  have z : (dn == 0) = false := beq_eq_false_iff_ne.2 (by omega)
  go_enter Try.func16, Try.ntmps16
  go_wp2_with fail
  refine (HS.out _).mono ?_
  rintro e w' ⟨rfl, hb⟩
  obtain ⟨B1, B2, hB⟩ := box2 hb
  clear hb
  obtain ⟨c0, c1, c2, c3, c4, c5, c6⟩ := B1.cells7
  obtain ⟨d0, d1⟩ := B2.cells2
  go_wp2_with fail
  refine (HD.out _).mono ?_
  rintro e w2 ⟨rfl, hb⟩
  have hB2 := below_step hB hb
  have A1 := B1.next hb
  have A2 := B2.next hb
  clear hb hB B1 B2 c0 c1 c2 c3 c4 c5 c6 d0 d1
  obtain ⟨c0, c1, c2, c3, c4, c5, c6⟩ := A1.cells7
  obtain ⟨d0, d1⟩ := A2.cells2
  go_wp2
  go_ret2
  exact ⟨rfl, hB2⟩


theorem ceil_zero (b : Int) (h : 1 ≤ b) : ceilI 0 b = 0 := by
  unfold ceilI
  exact Int.ediv_eq_zero_of_lt (by omega) (by omega)

theorem set_any (t mi ma up dn cu cd c ch load : Int) (w : World) : Calls Try.prog 15 #[.agg #[.int .i64 t, .int .i64 mi, .int .i64 ma, .int .i64 up, .int .i64 dn, .int .i64 cu, .int .i64 cd], .agg #[.int .i64 c, .int .i64 ch], .int .i64 load] w fun e w' => e = .returned (.tuple #[.int .i64 (setV t mi ma up dn cu cd c ch load).v, .int .i64 (setV t mi ma up dn cu cd c ch load).e]) ∧ Below w.heap.size w w' := by
  cases hs : stOk t mi ma up dn cu cd c ch
  · have e : setV t mi ma up dn cu cd c ch load = ⟨0, 2⟩ := by simp [setV, hs]
    rw [e]
    refine set_serr t mi ma up dn cu cd c ch load w (fun W => ?_)
    have h := state_any t mi ma up dn cu cd c ch W
    unfold stE at h
    rw [hs] at h
    exact h
  · have HS : Hid (∀ W, Calls Try.prog 25 #[.agg #[.int .i64 t, .int .i64 mi, .int .i64 ma, .int .i64 up, .int .i64 dn, .int .i64 cu, .int .i64 cd], .agg #[.int .i64 c, .int .i64 ch]] W fun e w' => e = .returned (.int .i64 0) ∧ Below W.heap.size W w') := fun W => by
      have h := state_any t mi ma up dn cu cd c ch W
      unfold stE at h
      rw [hs] at h
      exact h
    obtain ⟨hp, hc⟩ := (stOk_iff t mi ma up dn cu cd c ch).1 hs
    obtain ⟨p1, p2, p3, p4, p5, p6, p7, p8, p9, pa, pb, pc, pd⟩ := (polB_iff t mi ma up dn cu cd).1 hp
    obtain ⟨s1, s2, s3, s4⟩ := (stB_iff _ _ _ _).1 hc
    by_cases hl : 0 ≤ load ∧ load ≤ 1000000000000
    · have HD : Hid (∀ W, Calls Try.prog 11 #[.agg #[.int .i64 t, .int .i64 mi, .int .i64 ma, .int .i64 up, .int .i64 dn, .int .i64 cu, .int .i64 cd], .int .i64 load] W fun e w' => e = .returned (.tuple #[.int .i64 (desI t mi ma load), .int .i64 0]) ∧ Below W.heap.size W w') := fun W => by
        have h := des_any t mi ma up dn cu cd load W
        unfold desV desOk at h
        rw [hp, decide_eq_true hl] at h
        exact h
      have db := desI_bd t mi ma load p4
      unfold setV
      rw [if_pos ⟨hs, hl⟩]
      clear hl
      generalize desI t mi ma load = d at *
      by_cases m : c ≤ d
      · rw [if_pos m]
        exact set_up t mi ma up dn cu cd c ch load d w HS HD (by omega) (by omega) (by omega) (by omega) (by omega) (by omega) (by omega) (by omega) m
      · rw [if_neg m]
        exact set_dn t mi ma up dn cu cd c ch load d w HS HD (by omega) (by omega) (by omega) (by omega) (by omega) (by omega) (by omega) (by omega) (by omega)
    · have e : setV t mi ma up dn cu cd c ch load = ⟨0, 2⟩ := by unfold setV; rw [if_neg (fun h => hl h.2)]
      rw [e]
      refine set_derr t mi ma up dn cu cd c ch load w HS (fun W => ?_)
      have h := des_any t mi ma up dn cu cd load W
      unfold desV desOk at h
      rw [hp, decide_eq_false hl] at h
      exact h

theorem rset_any (t mi ma up dn cu cd c ch load : Int) (w : World) : Calls Try.prog 16 #[.agg #[.int .i64 t, .int .i64 mi, .int .i64 ma, .int .i64 up, .int .i64 dn, .int .i64 cu, .int .i64 cd], .agg #[.int .i64 c, .int .i64 ch], .int .i64 load] w fun e w' => e = .returned (.tuple #[.int .i64 (setV t mi ma up dn cu cd c ch load).v, .int .i64 (setV t mi ma up dn cu cd c ch load).e]) ∧ Below w.heap.size w w' := by
  cases hs : stOk t mi ma up dn cu cd c ch
  · have e : setV t mi ma up dn cu cd c ch load = ⟨0, 2⟩ := by simp [setV, hs]
    rw [e]
    refine rset_serr t mi ma up dn cu cd c ch load w (fun W => ?_)
    have h := rstate_any t mi ma up dn cu cd c ch W
    unfold stE at h
    rw [hs] at h
    exact h
  · have HS : Hid (∀ W, Calls Try.prog 27 #[.agg #[.int .i64 t, .int .i64 mi, .int .i64 ma, .int .i64 up, .int .i64 dn, .int .i64 cu, .int .i64 cd], .agg #[.int .i64 c, .int .i64 ch]] W fun e w' => e = .returned (.int .i64 0) ∧ Below W.heap.size W w') := fun W => by
      have h := rstate_any t mi ma up dn cu cd c ch W
      unfold stE at h
      rw [hs] at h
      exact h
    obtain ⟨hp, hc⟩ := (stOk_iff t mi ma up dn cu cd c ch).1 hs
    obtain ⟨p1, p2, p3, p4, p5, p6, p7, p8, p9, pa, pb, pc, pd⟩ := (polB_iff t mi ma up dn cu cd).1 hp
    obtain ⟨s1, s2, s3, s4⟩ := (stB_iff _ _ _ _).1 hc
    by_cases hl : 0 ≤ load ∧ load ≤ 1000000000000
    · have HD : Hid (∀ W, Calls Try.prog 12 #[.agg #[.int .i64 t, .int .i64 mi, .int .i64 ma, .int .i64 up, .int .i64 dn, .int .i64 cu, .int .i64 cd], .int .i64 load] W fun e w' => e = .returned (.tuple #[.int .i64 (desI t mi ma load), .int .i64 0]) ∧ Below W.heap.size W w') := fun W => by
        have h := rdes_any t mi ma up dn cu cd load W
        unfold desV desOk at h
        rw [hp, decide_eq_true hl] at h
        exact h
      have db := desI_bd t mi ma load p4
      unfold setV
      rw [if_pos ⟨hs, hl⟩]
      clear hl
      generalize desI t mi ma load = d at *
      by_cases m : c < d
      · rw [if_pos (by omega)]
        exact rset_up t mi ma up dn cu cd c ch load d w HS HD (by omega) (by omega) (by omega) (by omega) (by omega) (by omega) (by omega) (by omega) m
      · by_cases m2 : c = d
        · subst m2
          rw [if_pos (Int.le_refl _)]
          have h := rset_dn t mi ma up dn cu cd c ch load c w HS HD (by omega) (by omega) (by omega) (by omega) (by omega) (by omega) (by omega) (by omega) (Int.le_refl _)
          have e1 : (c - c + dn - 1) / dn = 0 := by have := ceil_zero dn (by omega); unfold ceilI at this; rw [Int.sub_self]; exact this
          have e2 : ceilI (c - c) up = 0 := by rw [Int.sub_self]; exact ceil_zero up (by omega)
          rw [e1] at h
          rw [e2]
          exact h
        · rw [if_neg (by omega)]
          exact rset_dn t mi ma up dn cu cd c ch load d w HS HD (by omega) (by omega) (by omega) (by omega) (by omega) (by omega) (by omega) (by omega) (by omega)
    · have e : setV t mi ma up dn cu cd c ch load = ⟨0, 2⟩ := by unfold setV; rw [if_neg (fun h => hl h.2)]
      rw [e]
      refine rset_derr t mi ma up dn cu cd c ch load w HS (fun W => ?_)
      have h := rdes_any t mi ma up dn cu cd load W
      unfold desV desOk at h
      rw [hp, decide_eq_false hl] at h
      exact h

end Go.Proofs.Ytndpecjkoffebaa
