/- Contracts of Next of layer 42 (scale). -/
import Derived.Test.YtndpecjkoffebaaD
namespace Go.Proofs.Ytndpecjkoffebaa
open Go.ChangeShapes Go.WideShapes Go.ChangeAt Go.RowKit

set_option maxHeartbeats 1000000 in
theorem next_serr (t mi ma up dn cu cd c ch load now : Int) (w : World) (HS : Hid (∀ W, Calls Try.prog 25 #[.agg #[.int .i64 t, .int .i64 mi, .int .i64 ma, .int .i64 up, .int .i64 dn, .int .i64 cu, .int .i64 cd], .agg #[.int .i64 c, .int .i64 ch]] W fun e w' => e = .returned (.int .i64 2) ∧ Below W.heap.size W w')) : Calls Try.prog 13 #[.agg #[.int .i64 t, .int .i64 mi, .int .i64 ma, .int .i64 up, .int .i64 dn, .int .i64 cu, .int .i64 cd], .agg #[.int .i64 c, .int .i64 ch], .int .i64 load, .int .i64 now] w fun e w' => e = .returned (.tuple #[.agg #[.int .i64 0, .int .i64 0], .int .i64 2]) ∧ Below w.heap.size w w' := by
  go_enter Try.func13, Try.ntmps13
  go_wp2_with fail
  refine (HS.out _).mono ?_
  rintro e w' ⟨rfl, hb⟩
  obtain ⟨B1, B2, B3, B4, hB⟩ := box4 hb
  clear hb
  obtain ⟨c0, c1, c2, c3, c4, c5, c6⟩ := B1.cells7
  obtain ⟨d0, d1⟩ := B2.cells2
  have n0 := B3.cells1
  obtain ⟨r0, r1⟩ := B4.cells2
  obtain ⟨f0, f1, _, _⟩ := B4.frozen4
  have l4 := B4.lt
  go_wp2
  refine bodyPost_ret (v := .tuple #[.agg #[.int .i64 0, .int .i64 0], .int .i64 2]) ?_ rfl ⟨rfl, below_set2 hB (by omega) _ _⟩
  simp [results, Try.results13, go_sem, r0, r1]
set_option maxHeartbeats 1000000 in
theorem next_derr (t mi ma up dn cu cd c ch load now : Int) (w : World) (HS : Hid (∀ W, Calls Try.prog 25 #[.agg #[.int .i64 t, .int .i64 mi, .int .i64 ma, .int .i64 up, .int .i64 dn, .int .i64 cu, .int .i64 cd], .agg #[.int .i64 c, .int .i64 ch]] W fun e w' => e = .returned (.int .i64 0) ∧ Below W.heap.size W w')) (HD : Hid (∀ W, Calls Try.prog 11 #[.agg #[.int .i64 t, .int .i64 mi, .int .i64 ma, .int .i64 up, .int .i64 dn, .int .i64 cu, .int .i64 cd], .int .i64 load] W fun e w' => e = .returned (.tuple #[.int .i64 0, .int .i64 2]) ∧ Below W.heap.size W w')) : Calls Try.prog 13 #[.agg #[.int .i64 t, .int .i64 mi, .int .i64 ma, .int .i64 up, .int .i64 dn, .int .i64 cu, .int .i64 cd], .agg #[.int .i64 c, .int .i64 ch], .int .i64 load, .int .i64 now] w fun e w' => e = .returned (.tuple #[.agg #[.int .i64 0, .int .i64 0], .int .i64 2]) ∧ Below w.heap.size w w' := by
  go_enter Try.func13, Try.ntmps13
  go_wp2_with fail
  refine (HS.out _).mono ?_
  rintro e w' ⟨rfl, hb⟩
  obtain ⟨B1, B2, B3, B4, hB⟩ := box4 hb
  clear hb
  obtain ⟨c0, c1, c2, c3, c4, c5, c6⟩ := B1.cells7
  obtain ⟨d0, d1⟩ := B2.cells2
  have n0 := B3.cells1
  obtain ⟨r0, r1⟩ := B4.cells2
  obtain ⟨f0, f1, _, _⟩ := B4.frozen4
  have l4 := B4.lt
  go_wp2_with fail
  refine (HD.out _).mono ?_
  rintro e w2 ⟨rfl, hb⟩
  have hB2 := below_step hB hb
  have A1 := B1.next hb
  have A2 := B2.next hb
  have A3 := B3.next hb
  have A4 := B4.next hb
  clear hb hB B1 B2 B3 B4 c0 c1 c2 c3 c4 c5 c6 d0 d1 n0 r0 r1 f0 f1 l4
  have l4 := A4.lt
  go_upto_region 5 with fail
  refine wp_forget (fun w3 => Box w3 w.heap.size 23 #[.int .i64 t, .int .i64 mi, .int .i64 ma, .int .i64 up, .int .i64 dn, .int .i64 cu, .int .i64 cd] ∧ Box w3 (w.heap.size + 1) 25 #[.int .i64 c, .int .i64 ch] ∧ Box w3 (w.heap.size + 2) 3 #[.int .i64 now] ∧ Box w3 (w.heap.size + 3) 25 #[.int .i64 0, .int .i64 0] ∧ Box w3 w2.heap.size 3 #[.int .i64 0] ∧ Below w.heap.size w w3)
    ⟨A1.alloc _, A2.alloc _, A3.alloc _, A4.alloc _, Box.new _ _ _, below_box hB2 _⟩ ?_
  clear A1 A2 A3 A4 hB2
  rintro w3 ⟨B1, B2, B3, B4, B5, hB⟩
  generalize hg : w2.heap.size = g at *
  clear hg w2
  obtain ⟨c0, c1, c2, c3, c4, c5, c6⟩ := B1.cells7
  obtain ⟨d0, d1⟩ := B2.cells2
  have n0 := B3.cells1
  obtain ⟨r0, r1⟩ := B4.cells2
  obtain ⟨f0, f1, _, _⟩ := B4.frozen4
  have x0 := B5.cells1
  go_wp2
  refine bodyPost_ret (v := .tuple #[.agg #[.int .i64 0, .int .i64 0], .int .i64 2]) ?_ rfl ⟨rfl, below_set2 hB (by omega) _ _⟩
  simp [results, Try.results13, go_sem, r0, r1]
set_option maxHeartbeats 1000000 in
theorem next_lo (t mi ma up dn cu cd c ch load now d : Int) (w : World) (HS : Hid (∀ W, Calls Try.prog 25 #[.agg #[.int .i64 t, .int .i64 mi, .int .i64 ma, .int .i64 up, .int .i64 dn, .int .i64 cu, .int .i64 cd], .agg #[.int .i64 c, .int .i64 ch]] W fun e w' => e = .returned (.int .i64 0) ∧ Below W.heap.size W w')) (HD : Hid (∀ W, Calls Try.prog 11 #[.agg #[.int .i64 t, .int .i64 mi, .int .i64 ma, .int .i64 up, .int .i64 dn, .int .i64 cu, .int .i64 cd], .int .i64 load] W fun e w' => e = .returned (.tuple #[.int .i64 d, .int .i64 0]) ∧ Below W.heap.size W w')) (g0 : now < 0) : Calls Try.prog 13 #[.agg #[.int .i64 t, .int .i64 mi, .int .i64 ma, .int .i64 up, .int .i64 dn, .int .i64 cu, .int .i64 cd], .agg #[.int .i64 c, .int .i64 ch], .int .i64 load, .int .i64 now] w fun e w' => e = .returned (.tuple #[.agg #[.int .i64 0, .int .i64 0], .int .i64 2]) ∧ Below w.heap.size w w' := by
  go_enter Try.func13, Try.ntmps13
  go_wp2_with fail
  refine (HS.out _).mono ?_
  rintro e w' ⟨rfl, hb⟩
  obtain ⟨B1, B2, B3, B4, hB⟩ := box4 hb
  clear hb
  obtain ⟨c0, c1, c2, c3, c4, c5, c6⟩ := B1.cells7
  obtain ⟨d0, d1⟩ := B2.cells2
  have n0 := B3.cells1
  obtain ⟨r0, r1⟩ := B4.cells2
  obtain ⟨f0, f1, _, _⟩ := B4.frozen4
  have l4 := B4.lt
  go_wp2_with fail
  refine (HD.out _).mono ?_
  rintro e w2 ⟨rfl, hb⟩
  have hB2 := below_step hB hb
  have A1 := B1.next hb
  have A2 := B2.next hb
  have A3 := B3.next hb
  have A4 := B4.next hb
  clear hb hB B1 B2 B3 B4 c0 c1 c2 c3 c4 c5 c6 d0 d1 n0 r0 r1 f0 f1 l4
  have l4 := A4.lt
  go_upto_region 5 with fail
  refine wp_forget (fun w3 => Box w3 w.heap.size 23 #[.int .i64 t, .int .i64 mi, .int .i64 ma, .int .i64 up, .int .i64 dn, .int .i64 cu, .int .i64 cd] ∧ Box w3 (w.heap.size + 1) 25 #[.int .i64 c, .int .i64 ch] ∧ Box w3 (w.heap.size + 2) 3 #[.int .i64 now] ∧ Box w3 (w.heap.size + 3) 25 #[.int .i64 0, .int .i64 0] ∧ Box w3 w2.heap.size 3 #[.int .i64 d] ∧ Below w.heap.size w w3)
    ⟨A1.alloc _, A2.alloc _, A3.alloc _, A4.alloc _, Box.new _ _ _, below_box hB2 _⟩ ?_
  clear A1 A2 A3 A4 hB2
  rintro w3 ⟨B1, B2, B3, B4, B5, hB⟩
  generalize hg : w2.heap.size = g at *
  clear hg w2
  obtain ⟨c0, c1, c2, c3, c4, c5, c6⟩ := B1.cells7
  obtain ⟨d0, d1⟩ := B2.cells2
  have n0 := B3.cells1
  obtain ⟨r0, r1⟩ := B4.cells2
  obtain ⟨f0, f1, _, _⟩ := B4.frozen4
  have x0 := B5.cells1
  go_wp2
  refine bodyPost_ret (v := .tuple #[.agg #[.int .i64 0, .int .i64 0], .int .i64 2]) ?_ rfl ⟨rfl, below_set2 hB (by omega) _ _⟩
  simp [results, Try.results13, go_sem, r0, r1]
set_option maxHeartbeats 1000000 in
theorem next_hi (t mi ma up dn cu cd c ch load now d : Int) (w : World) (HS : Hid (∀ W, Calls Try.prog 25 #[.agg #[.int .i64 t, .int .i64 mi, .int .i64 ma, .int .i64 up, .int .i64 dn, .int .i64 cu, .int .i64 cd], .agg #[.int .i64 c, .int .i64 ch]] W fun e w' => e = .returned (.int .i64 0) ∧ Below W.heap.size W w')) (HD : Hid (∀ W, Calls Try.prog 11 #[.agg #[.int .i64 t, .int .i64 mi, .int .i64 ma, .int .i64 up, .int .i64 dn, .int .i64 cu, .int .i64 cd], .int .i64 load] W fun e w' => e = .returned (.tuple #[.int .i64 d, .int .i64 0]) ∧ Below W.heap.size W w')) (g0 : 0 ≤ now) (g1 : 1073741824 < now) : Calls Try.prog 13 #[.agg #[.int .i64 t, .int .i64 mi, .int .i64 ma, .int .i64 up, .int .i64 dn, .int .i64 cu, .int .i64 cd], .agg #[.int .i64 c, .int .i64 ch], .int .i64 load, .int .i64 now] w fun e w' => e = .returned (.tuple #[.agg #[.int .i64 0, .int .i64 0], .int .i64 2]) ∧ Below w.heap.size w w' := by
  go_enter Try.func13, Try.ntmps13
  go_wp2_with fail
  refine (HS.out _).mono ?_
  rintro e w' ⟨rfl, hb⟩
  obtain ⟨B1, B2, B3, B4, hB⟩ := box4 hb
  clear hb
  obtain ⟨c0, c1, c2, c3, c4, c5, c6⟩ := B1.cells7
  obtain ⟨d0, d1⟩ := B2.cells2
  have n0 := B3.cells1
  obtain ⟨r0, r1⟩ := B4.cells2
  obtain ⟨f0, f1, _, _⟩ := B4.frozen4
  have l4 := B4.lt
  go_wp2_with fail
  refine (HD.out _).mono ?_
  rintro e w2 ⟨rfl, hb⟩
  have hB2 := below_step hB hb
  have A1 := B1.next hb
  have A2 := B2.next hb
  have A3 := B3.next hb
  have A4 := B4.next hb
  clear hb hB B1 B2 B3 B4 c0 c1 c2 c3 c4 c5 c6 d0 d1 n0 r0 r1 f0 f1 l4
  have l4 := A4.lt
  go_upto_region 5 with fail
  refine wp_forget (fun w3 => Box w3 w.heap.size 23 #[.int .i64 t, .int .i64 mi, .int .i64 ma, .int .i64 up, .int .i64 dn, .int .i64 cu, .int .i64 cd] ∧ Box w3 (w.heap.size + 1) 25 #[.int .i64 c, .int .i64 ch] ∧ Box w3 (w.heap.size + 2) 3 #[.int .i64 now] ∧ Box w3 (w.heap.size + 3) 25 #[.int .i64 0, .int .i64 0] ∧ Box w3 w2.heap.size 3 #[.int .i64 d] ∧ Below w.heap.size w w3)
    ⟨A1.alloc _, A2.alloc _, A3.alloc _, A4.alloc _, Box.new _ _ _, below_box hB2 _⟩ ?_
  clear A1 A2 A3 A4 hB2
  rintro w3 ⟨B1, B2, B3, B4, B5, hB⟩
  generalize hg : w2.heap.size = g at *
  clear hg w2
  obtain ⟨c0, c1, c2, c3, c4, c5, c6⟩ := B1.cells7
  obtain ⟨d0, d1⟩ := B2.cells2
  have n0 := B3.cells1
  obtain ⟨r0, r1⟩ := B4.cells2
  obtain ⟨f0, f1, _, _⟩ := B4.frozen4
  have x0 := B5.cells1
  go_wp2
  refine bodyPost_ret (v := .tuple #[.agg #[.int .i64 0, .int .i64 0], .int .i64 2]) ?_ rfl ⟨rfl, below_set2 hB (by omega) _ _⟩
  simp [results, Try.results13, go_sem, r0, r1]
set_option maxHeartbeats 1000000 in
theorem next_ord (t mi ma up dn cu cd c ch load now d : Int) (w : World) (HS : Hid (∀ W, Calls Try.prog 25 #[.agg #[.int .i64 t, .int .i64 mi, .int .i64 ma, .int .i64 up, .int .i64 dn, .int .i64 cu, .int .i64 cd], .agg #[.int .i64 c, .int .i64 ch]] W fun e w' => e = .returned (.int .i64 0) ∧ Below W.heap.size W w')) (HD : Hid (∀ W, Calls Try.prog 11 #[.agg #[.int .i64 t, .int .i64 mi, .int .i64 ma, .int .i64 up, .int .i64 dn, .int .i64 cu, .int .i64 cd], .int .i64 load] W fun e w' => e = .returned (.tuple #[.int .i64 d, .int .i64 0]) ∧ Below W.heap.size W w')) (g0 : 0 ≤ now) (g1 : now ≤ 1073741824) (g2 : now < ch) : Calls Try.prog 13 #[.agg #[.int .i64 t, .int .i64 mi, .int .i64 ma, .int .i64 up, .int .i64 dn, .int .i64 cu, .int .i64 cd], .agg #[.int .i64 c, .int .i64 ch], .int .i64 load, .int .i64 now] w fun e w' => e = .returned (.tuple #[.agg #[.int .i64 0, .int .i64 0], .int .i64 11]) ∧ Below w.heap.size w w' := by
  go_enter Try.func13, Try.ntmps13
  go_wp2_with fail
  refine (HS.out _).mono ?_
  rintro e w' ⟨rfl, hb⟩
  obtain ⟨B1, B2, B3, B4, hB⟩ := box4 hb
  clear hb
  obtain ⟨c0, c1, c2, c3, c4, c5, c6⟩ := B1.cells7
  obtain ⟨d0, d1⟩ := B2.cells2
  have n0 := B3.cells1
  obtain ⟨r0, r1⟩ := B4.cells2
  obtain ⟨f0, f1, _, _⟩ := B4.frozen4
  have l4 := B4.lt
  go_wp2_with fail
  refine (HD.out _).mono ?_
  rintro e w2 ⟨rfl, hb⟩
  have hB2 := below_step hB hb
  have A1 := B1.next hb
  have A2 := B2.next hb
  have A3 := B3.next hb
  have A4 := B4.next hb
  clear hb hB B1 B2 B3 B4 c0 c1 c2 c3 c4 c5 c6 d0 d1 n0 r0 r1 f0 f1 l4
  have l4 := A4.lt
  go_upto_region 5 with fail
  refine wp_forget (fun w3 => Box w3 w.heap.size 23 #[.int .i64 t, .int .i64 mi, .int .i64 ma, .int .i64 up, .int .i64 dn, .int .i64 cu, .int .i64 cd] ∧ Box w3 (w.heap.size + 1) 25 #[.int .i64 c, .int .i64 ch] ∧ Box w3 (w.heap.size + 2) 3 #[.int .i64 now] ∧ Box w3 (w.heap.size + 3) 25 #[.int .i64 0, .int .i64 0] ∧ Box w3 w2.heap.size 3 #[.int .i64 d] ∧ Below w.heap.size w w3)
    ⟨A1.alloc _, A2.alloc _, A3.alloc _, A4.alloc _, Box.new _ _ _, below_box hB2 _⟩ ?_
  clear A1 A2 A3 A4 hB2
  rintro w3 ⟨B1, B2, B3, B4, B5, hB⟩
  generalize hg : w2.heap.size = g at *
  clear hg w2
  obtain ⟨c0, c1, c2, c3, c4, c5, c6⟩ := B1.cells7
  obtain ⟨d0, d1⟩ := B2.cells2
  have n0 := B3.cells1
  obtain ⟨r0, r1⟩ := B4.cells2
  obtain ⟨f0, f1, _, _⟩ := B4.frozen4
  have x0 := B5.cells1
  go_wp2
  refine bodyPost_ret (v := .tuple #[.agg #[.int .i64 0, .int .i64 0], .int .i64 11]) ?_ rfl ⟨rfl, below_set2 hB (by omega) _ _⟩
  simp [results, Try.results13, go_sem, r0, r1]
set_option maxHeartbeats 1000000 in
theorem next_up (t mi ma up dn cu cd c ch load now d : Int) (w : World) (HS : Hid (∀ W, Calls Try.prog 25 #[.agg #[.int .i64 t, .int .i64 mi, .int .i64 ma, .int .i64 up, .int .i64 dn, .int .i64 cu, .int .i64 cd], .agg #[.int .i64 c, .int .i64 ch]] W fun e w' => e = .returned (.int .i64 0) ∧ Below W.heap.size W w')) (HD : Hid (∀ W, Calls Try.prog 11 #[.agg #[.int .i64 t, .int .i64 mi, .int .i64 ma, .int .i64 up, .int .i64 dn, .int .i64 cu, .int .i64 cd], .int .i64 load] W fun e w' => e = .returned (.tuple #[.int .i64 d, .int .i64 0]) ∧ Below W.heap.size W w')) (h2 : 0 ≤ c) (h3 : c ≤ 1000) (k2 : 0 ≤ d) (k3 : d ≤ 1000) (h5 : -1 ≤ ch) (h6 : ch ≤ 1073741824) (u1 : 1 ≤ up) (u2 : up ≤ 1000) (_n1 : 1 ≤ dn) (_n2 : dn ≤ 1000) (h7 : 0 ≤ now) (h8 : now ≤ 1073741824) (h11 : ch ≤ now) (g1 : c < d) (g2 : ch = -1 ∨ cu ≤ now - ch) : Calls Try.prog 13 #[.agg #[.int .i64 t, .int .i64 mi, .int .i64 ma, .int .i64 up, .int .i64 dn, .int .i64 cu, .int .i64 cd], .agg #[.int .i64 c, .int .i64 ch], .int .i64 load, .int .i64 now] w fun e w' => e = .returned (.tuple #[.agg #[.int .i64 (c + min up (d - c)), .int .i64 now], .int .i64 0]) ∧ Below w.heap.size w w' := by
  have G2 := Lib.hid g2
  clear g2
  go_enter Try.func13, Try.ntmps13
  go_wp2_with fail
  refine (HS.out _).mono ?_
  rintro e w' ⟨rfl, hb⟩
  obtain ⟨B1, B2, B3, B4, hB⟩ := box4 hb
  clear hb
  obtain ⟨c0, c1, c2, c3, c4, c5, c6⟩ := B1.cells7
  obtain ⟨d0, d1⟩ := B2.cells2
  have n0 := B3.cells1
  obtain ⟨r0, r1⟩ := B4.cells2
  obtain ⟨f0, f1, _, _⟩ := B4.frozen4
  have l4 := B4.lt
  go_wp2_with fail
  refine (HD.out _).mono ?_
  rintro e w2 ⟨rfl, hb⟩
  have hB2 := below_step hB hb
  have A1 := B1.next hb
  have A2 := B2.next hb
  have A3 := B3.next hb
  have A4 := B4.next hb
  clear hb hB B1 B2 B3 B4 c0 c1 c2 c3 c4 c5 c6 d0 d1 n0 r0 r1 f0 f1 l4
  have l4 := A4.lt
  go_upto_region 5 with fail
  refine wp_forget (fun w3 => Box w3 w.heap.size 23 #[.int .i64 t, .int .i64 mi, .int .i64 ma, .int .i64 up, .int .i64 dn, .int .i64 cu, .int .i64 cd] ∧ Box w3 (w.heap.size + 1) 25 #[.int .i64 c, .int .i64 ch] ∧ Box w3 (w.heap.size + 2) 3 #[.int .i64 now] ∧ Box w3 (w.heap.size + 3) 25 #[.int .i64 0, .int .i64 0] ∧ Box w3 w2.heap.size 3 #[.int .i64 d] ∧ Below w.heap.size w w3)
    ⟨A1.alloc _, A2.alloc _, A3.alloc _, A4.alloc _, Box.new _ _ _, below_box hB2 _⟩ ?_
  clear A1 A2 A3 A4 hB2
  rintro w3 ⟨B1, B2, B3, B4, B5, hB⟩
  generalize hg : w2.heap.size = g at *
  clear hg w2
  obtain ⟨c0, c1, c2, c3, c4, c5, c6⟩ := B1.cells7
  obtain ⟨d0, d1⟩ := B2.cells2
  have n0 := B3.cells1
  obtain ⟨r0, r1⟩ := B4.cells2
  obtain ⟨f0, f1, _, _⟩ := B4.frozen4
  have x0 := B5.cells1
  go_wp2_with fail
  refine (step_up _ _ _ d c ch now _ _ _ B5 B2 B3 g1 G2.out h2 h3 k2 k3 h5 h6 h7 h8 u1 u2).mono ?_
  rintro e w4 ⟨rfl, rfl⟩
  have l5 := B5.lt
  have S2 : Box _ _ 25 #[.int .i64 (c + min up (d - c)), .int .i64 now] := B2.set2
  have S4 := B4.far2 (g := w.heap.size + 1) (by omega) (.int .i64 (c + min up (d - c))) (.int .i64 now)
  have hB' := below_set2 hB (g := w.heap.size + 1) (by omega) (.int .i64 (c + min up (d - c))) (.int .i64 now)
  generalize ((w3.setCell ⟨w.heap.size + 1, 0, none⟩ (.int .i64 (c + min up (d - c)))).setCell ⟨w.heap.size + 1, 1, none⟩ (.int .i64 now)) = w5 at *
  obtain ⟨e0, e1⟩ := S2.cells2
  obtain ⟨q0, q1⟩ := S4.cells2
  obtain ⟨p0, p1, _, _⟩ := S4.frozen4
  go_wp2
  refine bodyPost_ret (v := .tuple #[.agg #[.int .i64 (c + min up (d - c)), .int .i64 now], .int .i64 0]) ?_ rfl ⟨rfl, below_set2 hB' (by omega) _ _⟩
  simp [results, Try.results13, go_sem, q0, q1]
set_option maxHeartbeats 1000000 in
theorem next_upno (t mi ma up dn cu cd c ch load now d : Int) (w : World) (HS : Hid (∀ W, Calls Try.prog 25 #[.agg #[.int .i64 t, .int .i64 mi, .int .i64 ma, .int .i64 up, .int .i64 dn, .int .i64 cu, .int .i64 cd], .agg #[.int .i64 c, .int .i64 ch]] W fun e w' => e = .returned (.int .i64 0) ∧ Below W.heap.size W w')) (HD : Hid (∀ W, Calls Try.prog 11 #[.agg #[.int .i64 t, .int .i64 mi, .int .i64 ma, .int .i64 up, .int .i64 dn, .int .i64 cu, .int .i64 cd], .int .i64 load] W fun e w' => e = .returned (.tuple #[.int .i64 d, .int .i64 0]) ∧ Below W.heap.size W w')) (h2 : 0 ≤ c) (h3 : c ≤ 1000) (k2 : 0 ≤ d) (k3 : d ≤ 1000) (h5 : -1 ≤ ch) (h6 : ch ≤ 1073741824) (u1 : 1 ≤ up) (u2 : up ≤ 1000) (_n1 : 1 ≤ dn) (_n2 : dn ≤ 1000) (h7 : 0 ≤ now) (h8 : now ≤ 1073741824) (h11 : ch ≤ now) (g1 : c < d) (g2 : ch ≠ -1) (g3 : now - ch < cu) : Calls Try.prog 13 #[.agg #[.int .i64 t, .int .i64 mi, .int .i64 ma, .int .i64 up, .int .i64 dn, .int .i64 cu, .int .i64 cd], .agg #[.int .i64 c, .int .i64 ch], .int .i64 load, .int .i64 now] w fun e w' => e = .returned (.tuple #[.agg #[.int .i64 (c), .int .i64 ch], .int .i64 0]) ∧ Below w.heap.size w w' := by
  have G2 := Lib.hid g2
  clear g2
  go_enter Try.func13, Try.ntmps13
  go_wp2_with fail
  refine (HS.out _).mono ?_
  rintro e w' ⟨rfl, hb⟩
  obtain ⟨B1, B2, B3, B4, hB⟩ := box4 hb
  clear hb
  obtain ⟨c0, c1, c2, c3, c4, c5, c6⟩ := B1.cells7
  obtain ⟨d0, d1⟩ := B2.cells2
  have n0 := B3.cells1
  obtain ⟨r0, r1⟩ := B4.cells2
  obtain ⟨f0, f1, _, _⟩ := B4.frozen4
  have l4 := B4.lt
  go_wp2_with fail
  refine (HD.out _).mono ?_
  rintro e w2 ⟨rfl, hb⟩
  have hB2 := below_step hB hb
  have A1 := B1.next hb
  have A2 := B2.next hb
  have A3 := B3.next hb
  have A4 := B4.next hb
  clear hb hB B1 B2 B3 B4 c0 c1 c2 c3 c4 c5 c6 d0 d1 n0 r0 r1 f0 f1 l4
  have l4 := A4.lt
  go_upto_region 5 with fail
  refine wp_forget (fun w3 => Box w3 w.heap.size 23 #[.int .i64 t, .int .i64 mi, .int .i64 ma, .int .i64 up, .int .i64 dn, .int .i64 cu, .int .i64 cd] ∧ Box w3 (w.heap.size + 1) 25 #[.int .i64 c, .int .i64 ch] ∧ Box w3 (w.heap.size + 2) 3 #[.int .i64 now] ∧ Box w3 (w.heap.size + 3) 25 #[.int .i64 0, .int .i64 0] ∧ Box w3 w2.heap.size 3 #[.int .i64 d] ∧ Below w.heap.size w w3)
    ⟨A1.alloc _, A2.alloc _, A3.alloc _, A4.alloc _, Box.new _ _ _, below_box hB2 _⟩ ?_
  clear A1 A2 A3 A4 hB2
  rintro w3 ⟨B1, B2, B3, B4, B5, hB⟩
  generalize hg : w2.heap.size = g at *
  clear hg w2
  obtain ⟨c0, c1, c2, c3, c4, c5, c6⟩ := B1.cells7
  obtain ⟨d0, d1⟩ := B2.cells2
  have n0 := B3.cells1
  obtain ⟨r0, r1⟩ := B4.cells2
  obtain ⟨f0, f1, _, _⟩ := B4.frozen4
  have x0 := B5.cells1
  go_wp2_with fail
  refine (stay_up _ _ _ d c ch now _ _ _ B5 B2 B3 g1 G2.out g3 h2 h3 k2 k3 h5 h6 h7 h8 u1 u2).mono ?_
  rintro e w4 ⟨rfl, rfl⟩
  go_wp2
  refine bodyPost_ret (v := .tuple #[.agg #[.int .i64 c, .int .i64 ch], .int .i64 0]) ?_ rfl ⟨rfl, below_set2 hB (by omega) _ _⟩
  simp [results, Try.results13, go_sem, r0, r1]
set_option maxHeartbeats 1000000 in
theorem next_dn (t mi ma up dn cu cd c ch load now d : Int) (w : World) (HS : Hid (∀ W, Calls Try.prog 25 #[.agg #[.int .i64 t, .int .i64 mi, .int .i64 ma, .int .i64 up, .int .i64 dn, .int .i64 cu, .int .i64 cd], .agg #[.int .i64 c, .int .i64 ch]] W fun e w' => e = .returned (.int .i64 0) ∧ Below W.heap.size W w')) (HD : Hid (∀ W, Calls Try.prog 11 #[.agg #[.int .i64 t, .int .i64 mi, .int .i64 ma, .int .i64 up, .int .i64 dn, .int .i64 cu, .int .i64 cd], .int .i64 load] W fun e w' => e = .returned (.tuple #[.int .i64 d, .int .i64 0]) ∧ Below W.heap.size W w')) (h2 : 0 ≤ c) (h3 : c ≤ 1000) (k2 : 0 ≤ d) (k3 : d ≤ 1000) (h5 : -1 ≤ ch) (h6 : ch ≤ 1073741824) (_u1 : 1 ≤ up) (_u2 : up ≤ 1000) (n1 : 1 ≤ dn) (n2 : dn ≤ 1000) (h7 : 0 ≤ now) (h8 : now ≤ 1073741824) (h11 : ch ≤ now) (g1 : d < c) (g2 : ch = -1 ∨ cd ≤ now - ch) : Calls Try.prog 13 #[.agg #[.int .i64 t, .int .i64 mi, .int .i64 ma, .int .i64 up, .int .i64 dn, .int .i64 cu, .int .i64 cd], .agg #[.int .i64 c, .int .i64 ch], .int .i64 load, .int .i64 now] w fun e w' => e = .returned (.tuple #[.agg #[.int .i64 (c - min dn (c - d)), .int .i64 now], .int .i64 0]) ∧ Below w.heap.size w w' := by
  have G2 := Lib.hid g2
  clear g2
  go_enter Try.func13, Try.ntmps13
  go_wp2_with fail
  refine (HS.out _).mono ?_
  rintro e w' ⟨rfl, hb⟩
  obtain ⟨B1, B2, B3, B4, hB⟩ := box4 hb
  clear hb
  obtain ⟨c0, c1, c2, c3, c4, c5, c6⟩ := B1.cells7
  obtain ⟨d0, d1⟩ := B2.cells2
  have n0 := B3.cells1
  obtain ⟨r0, r1⟩ := B4.cells2
  obtain ⟨f0, f1, _, _⟩ := B4.frozen4
  have l4 := B4.lt
  go_wp2_with fail
  refine (HD.out _).mono ?_
  rintro e w2 ⟨rfl, hb⟩
  have hB2 := below_step hB hb
  have A1 := B1.next hb
  have A2 := B2.next hb
  have A3 := B3.next hb
  have A4 := B4.next hb
  clear hb hB B1 B2 B3 B4 c0 c1 c2 c3 c4 c5 c6 d0 d1 n0 r0 r1 f0 f1 l4
  have l4 := A4.lt
  go_upto_region 5 with fail
  refine wp_forget (fun w3 => Box w3 w.heap.size 23 #[.int .i64 t, .int .i64 mi, .int .i64 ma, .int .i64 up, .int .i64 dn, .int .i64 cu, .int .i64 cd] ∧ Box w3 (w.heap.size + 1) 25 #[.int .i64 c, .int .i64 ch] ∧ Box w3 (w.heap.size + 2) 3 #[.int .i64 now] ∧ Box w3 (w.heap.size + 3) 25 #[.int .i64 0, .int .i64 0] ∧ Box w3 w2.heap.size 3 #[.int .i64 d] ∧ Below w.heap.size w w3)
    ⟨A1.alloc _, A2.alloc _, A3.alloc _, A4.alloc _, Box.new _ _ _, below_box hB2 _⟩ ?_
  clear A1 A2 A3 A4 hB2
  rintro w3 ⟨B1, B2, B3, B4, B5, hB⟩
  generalize hg : w2.heap.size = g at *
  clear hg w2
  obtain ⟨c0, c1, c2, c3, c4, c5, c6⟩ := B1.cells7
  obtain ⟨d0, d1⟩ := B2.cells2
  have n0 := B3.cells1
  obtain ⟨r0, r1⟩ := B4.cells2
  obtain ⟨f0, f1, _, _⟩ := B4.frozen4
  have x0 := B5.cells1
  go_wp2_with fail
  refine (step_dn _ _ _ d c ch now _ _ _ B5 B2 B3 g1 G2.out h2 h3 k2 k3 h5 h6 h7 h8 n1 n2).mono ?_
  rintro e w4 ⟨rfl, rfl⟩
  have l5 := B5.lt
  have S2 : Box _ _ 25 #[.int .i64 (c - min dn (c - d)), .int .i64 now] := B2.set2
  have S4 := B4.far2 (g := w.heap.size + 1) (by omega) (.int .i64 (c - min dn (c - d))) (.int .i64 now)
  have hB' := below_set2 hB (g := w.heap.size + 1) (by omega) (.int .i64 (c - min dn (c - d))) (.int .i64 now)
  generalize ((w3.setCell ⟨w.heap.size + 1, 0, none⟩ (.int .i64 (c - min dn (c - d)))).setCell ⟨w.heap.size + 1, 1, none⟩ (.int .i64 now)) = w5 at *
  obtain ⟨e0, e1⟩ := S2.cells2
  obtain ⟨q0, q1⟩ := S4.cells2
  obtain ⟨p0, p1, _, _⟩ := S4.frozen4
  go_wp2
  refine bodyPost_ret (v := .tuple #[.agg #[.int .i64 (c - min dn (c - d)), .int .i64 now], .int .i64 0]) ?_ rfl ⟨rfl, below_set2 hB' (by omega) _ _⟩
  simp [results, Try.results13, go_sem, q0, q1]
set_option maxHeartbeats 1000000 in
theorem next_dnno (t mi ma up dn cu cd c ch load now d : Int) (w : World) (HS : Hid (∀ W, Calls Try.prog 25 #[.agg #[.int .i64 t, .int .i64 mi, .int .i64 ma, .int .i64 up, .int .i64 dn, .int .i64 cu, .int .i64 cd], .agg #[.int .i64 c, .int .i64 ch]] W fun e w' => e = .returned (.int .i64 0) ∧ Below W.heap.size W w')) (HD : Hid (∀ W, Calls Try.prog 11 #[.agg #[.int .i64 t, .int .i64 mi, .int .i64 ma, .int .i64 up, .int .i64 dn, .int .i64 cu, .int .i64 cd], .int .i64 load] W fun e w' => e = .returned (.tuple #[.int .i64 d, .int .i64 0]) ∧ Below W.heap.size W w')) (h2 : 0 ≤ c) (h3 : c ≤ 1000) (k2 : 0 ≤ d) (k3 : d ≤ 1000) (h5 : -1 ≤ ch) (h6 : ch ≤ 1073741824) (_u1 : 1 ≤ up) (_u2 : up ≤ 1000) (n1 : 1 ≤ dn) (n2 : dn ≤ 1000) (h7 : 0 ≤ now) (h8 : now ≤ 1073741824) (h11 : ch ≤ now) (g1 : d < c) (g2 : ch ≠ -1) (g3 : now - ch < cd) : Calls Try.prog 13 #[.agg #[.int .i64 t, .int .i64 mi, .int .i64 ma, .int .i64 up, .int .i64 dn, .int .i64 cu, .int .i64 cd], .agg #[.int .i64 c, .int .i64 ch], .int .i64 load, .int .i64 now] w fun e w' => e = .returned (.tuple #[.agg #[.int .i64 (c), .int .i64 ch], .int .i64 0]) ∧ Below w.heap.size w w' := by
  have G2 := Lib.hid g2
  clear g2
  go_enter Try.func13, Try.ntmps13
  go_wp2_with fail
  refine (HS.out _).mono ?_
  rintro e w' ⟨rfl, hb⟩
  obtain ⟨B1, B2, B3, B4, hB⟩ := box4 hb
  clear hb
  obtain ⟨c0, c1, c2, c3, c4, c5, c6⟩ := B1.cells7
  obtain ⟨d0, d1⟩ := B2.cells2
  have n0 := B3.cells1
  obtain ⟨r0, r1⟩ := B4.cells2
  obtain ⟨f0, f1, _, _⟩ := B4.frozen4
  have l4 := B4.lt
  go_wp2_with fail
  refine (HD.out _).mono ?_
  rintro e w2 ⟨rfl, hb⟩
  have hB2 := below_step hB hb
  have A1 := B1.next hb
  have A2 := B2.next hb
  have A3 := B3.next hb
  have A4 := B4.next hb
  clear hb hB B1 B2 B3 B4 c0 c1 c2 c3 c4 c5 c6 d0 d1 n0 r0 r1 f0 f1 l4
  have l4 := A4.lt
  go_upto_region 5 with fail
  refine wp_forget (fun w3 => Box w3 w.heap.size 23 #[.int .i64 t, .int .i64 mi, .int .i64 ma, .int .i64 up, .int .i64 dn, .int .i64 cu, .int .i64 cd] ∧ Box w3 (w.heap.size + 1) 25 #[.int .i64 c, .int .i64 ch] ∧ Box w3 (w.heap.size + 2) 3 #[.int .i64 now] ∧ Box w3 (w.heap.size + 3) 25 #[.int .i64 0, .int .i64 0] ∧ Box w3 w2.heap.size 3 #[.int .i64 d] ∧ Below w.heap.size w w3)
    ⟨A1.alloc _, A2.alloc _, A3.alloc _, A4.alloc _, Box.new _ _ _, below_box hB2 _⟩ ?_
  clear A1 A2 A3 A4 hB2
  rintro w3 ⟨B1, B2, B3, B4, B5, hB⟩
  generalize hg : w2.heap.size = g at *
  clear hg w2
  obtain ⟨c0, c1, c2, c3, c4, c5, c6⟩ := B1.cells7
  obtain ⟨d0, d1⟩ := B2.cells2
  have n0 := B3.cells1
  obtain ⟨r0, r1⟩ := B4.cells2
  obtain ⟨f0, f1, _, _⟩ := B4.frozen4
  have x0 := B5.cells1
  go_wp2_with fail
  refine (stay_dn _ _ _ d c ch now _ _ _ B5 B2 B3 g1 G2.out g3 h2 h3 k2 k3 h5 h6 h7 h8 n1 n2).mono ?_
  rintro e w4 ⟨rfl, rfl⟩
  go_wp2
  refine bodyPost_ret (v := .tuple #[.agg #[.int .i64 c, .int .i64 ch], .int .i64 0]) ?_ rfl ⟨rfl, below_set2 hB (by omega) _ _⟩
  simp [results, Try.results13, go_sem, r0, r1]
set_option maxHeartbeats 1000000 in
theorem next_eq (t mi ma up dn cu cd c ch load now : Int) (w : World) (HS : Hid (∀ W, Calls Try.prog 25 #[.agg #[.int .i64 t, .int .i64 mi, .int .i64 ma, .int .i64 up, .int .i64 dn, .int .i64 cu, .int .i64 cd], .agg #[.int .i64 c, .int .i64 ch]] W fun e w' => e = .returned (.int .i64 0) ∧ Below W.heap.size W w')) (HD : Hid (∀ W, Calls Try.prog 11 #[.agg #[.int .i64 t, .int .i64 mi, .int .i64 ma, .int .i64 up, .int .i64 dn, .int .i64 cu, .int .i64 cd], .int .i64 load] W fun e w' => e = .returned (.tuple #[.int .i64 c, .int .i64 0]) ∧ Below W.heap.size W w')) (h2 : 0 ≤ c) (h3 : c ≤ 1000) (h5 : -1 ≤ ch) (h6 : ch ≤ 1073741824) (_u1 : 1 ≤ up) (_u2 : up ≤ 1000) (n1 : 1 ≤ dn) (n2 : dn ≤ 1000) (h7 : 0 ≤ now) (h8 : now ≤ 1073741824) (h11 : ch ≤ now) : Calls Try.prog 13 #[.agg #[.int .i64 t, .int .i64 mi, .int .i64 ma, .int .i64 up, .int .i64 dn, .int .i64 cu, .int .i64 cd], .agg #[.int .i64 c, .int .i64 ch], .int .i64 load, .int .i64 now] w fun e w' => e = .returned (.tuple #[.agg #[.int .i64 c, .int .i64 ch], .int .i64 0]) ∧ Below w.heap.size w w' := by
  go_enter Try.func13, Try.ntmps13
  go_wp2_with fail
  refine (HS.out _).mono ?_
  rintro e w' ⟨rfl, hb⟩
  obtain ⟨B1, B2, B3, B4, hB⟩ := box4 hb
  clear hb
  obtain ⟨c0, c1, c2, c3, c4, c5, c6⟩ := B1.cells7
  obtain ⟨d0, d1⟩ := B2.cells2
  have n0 := B3.cells1
  obtain ⟨r0, r1⟩ := B4.cells2
  obtain ⟨f0, f1, _, _⟩ := B4.frozen4
  have l4 := B4.lt
  go_wp2_with fail
  refine (HD.out _).mono ?_
  rintro e w2 ⟨rfl, hb⟩
  have hB2 := below_step hB hb
  have A1 := B1.next hb
  have A2 := B2.next hb
  have A3 := B3.next hb
  have A4 := B4.next hb
  clear hb hB B1 B2 B3 B4 c0 c1 c2 c3 c4 c5 c6 d0 d1 n0 r0 r1 f0 f1 l4
  have l4 := A4.lt
  go_upto_region 5 with fail
  refine wp_forget (fun w3 => Box w3 w.heap.size 23 #[.int .i64 t, .int .i64 mi, .int .i64 ma, .int .i64 up, .int .i64 dn, .int .i64 cu, .int .i64 cd] ∧ Box w3 (w.heap.size + 1) 25 #[.int .i64 c, .int .i64 ch] ∧ Box w3 (w.heap.size + 2) 3 #[.int .i64 now] ∧ Box w3 (w.heap.size + 3) 25 #[.int .i64 0, .int .i64 0] ∧ Box w3 w2.heap.size 3 #[.int .i64 c] ∧ Below w.heap.size w w3)
    ⟨A1.alloc _, A2.alloc _, A3.alloc _, A4.alloc _, Box.new _ _ _, below_box hB2 _⟩ ?_
  clear A1 A2 A3 A4 hB2
  rintro w3 ⟨B1, B2, B3, B4, B5, hB⟩
  generalize hg : w2.heap.size = g at *
  clear hg w2
  obtain ⟨c0, c1, c2, c3, c4, c5, c6⟩ := B1.cells7
  obtain ⟨d0, d1⟩ := B2.cells2
  have n0 := B3.cells1
  obtain ⟨r0, r1⟩ := B4.cells2
  obtain ⟨f0, f1, _, _⟩ := B4.frozen4
  have x0 := B5.cells1
  go_wp2_with fail
  refine (stay_eq _ _ _ c c ch now _ _ _ B5 B2 B3 rfl h2 h3 h2 h3 h5 h6 h7 h8 n1 n2).mono ?_
  rintro e w4 ⟨rfl, rfl⟩
  go_wp2
  refine bodyPost_ret (v := .tuple #[.agg #[.int .i64 c, .int .i64 ch], .int .i64 0]) ?_ rfl ⟨rfl, below_set2 hB (by omega) _ _⟩
  simp [results, Try.results13, go_sem, r0, r1]

end Go.Proofs.Ytndpecjkoffebaa
