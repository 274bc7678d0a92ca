/- Contracts of Next of the reference of layer 42 (scale). -/
import Derived.Test.YtndpecjkoffebaaD
namespace Go.Proofs.Ytndpecjkoffebaa
open Go.ChangeShapes Go.WideShapes Go.ChangeAt Go.RowKit

theorem box3 {w w' : World} {t u t3 : TypeId} {cs ds es : Array Value} (hb : Below (((w.alloc (.cells cs t)).alloc (.cells ds u)).alloc (.cells es t3)).heap.size (((w.alloc (.cells cs t)).alloc (.cells ds u)).alloc (.cells es t3)) w') :
    Box w' w.heap.size t cs ∧ Box w' (w.heap.size + 1) u ds ∧ Box w' (w.heap.size + 2) t3 es ∧ Below w.heap.size w w' := by
  have B2 := (Box.new (w.alloc (.cells cs t)) u ds).alloc (.cells es t3) |>.next hb
  have B3 := (Box.new ((w.alloc (.cells cs t)).alloc (.cells ds u)) t3 es).next hb
  simp only [World.size_alloc] at B2 B3
  exact ⟨(((Box.new w t cs).alloc (.cells ds u)).alloc (.cells es t3)).next hb, B2, B3,
    below_next ((((Below.refl _ w).alloc (Nat.le_refl _) _).alloc (by simp) _).alloc (by simp; omega) _) (by simp; omega) hb⟩

theorem lesser_still (a b : Int) (w : World) : Calls Try.prog 28 #[.int .i64 a, .int .i64 b] w fun e w' => e = .returned (.int .i64 (min a b)) ∧ w' = w :=
  (lesser_any a b w).mono fun _ _ ⟨h1, h2⟩ => ⟨h1, h2.symm⟩

set_option maxHeartbeats 1000000 in
theorem rnext_serr (t mi ma up dn cu cd c ch load now : Int) (w : World) (HS : Hid (∀ W, Calls Try.prog 27 #[.agg #[.int .i64 t, .int .i64 mi, .int .i64 ma, .int .i64 up, .int .i64 dn, .int .i64 cu, .int .i64 cd], .agg #[.int .i64 c, .int .i64 ch]] W fun e w' => e = .returned (.int .i64 2) ∧ Below W.heap.size W w')) : Calls Try.prog 14 #[.agg #[.int .i64 t, .int .i64 mi, .int .i64 ma, .int .i64 up, .int .i64 dn, .int .i64 cu, .int .i64 cd], .agg #[.int .i64 c, .int .i64 ch], .int .i64 load, .int .i64 now] w fun e w' => e = .returned (.tuple #[.agg #[.int .i64 0, .int .i64 0], .int .i64 2]) ∧ Below w.heap.size w w' := by
  go_enter Try.func14, Try.ntmps14
  go_wp2_with fail
  refine (HS.out _).mono ?_
  rintro e w' ⟨rfl, hb⟩
  obtain ⟨B1, B2, B4, hB⟩ := box3 hb
  clear hb
  obtain ⟨c0, c1, c2, c3, c4, c5, c6⟩ := B1.cells7
  obtain ⟨d0, d1⟩ := B2.cells2
  obtain ⟨r0, r1⟩ := B4.cells2
  obtain ⟨f0, f1, _, _⟩ := B4.frozen4
  have l4 := B4.lt
  go_wp2
  refine bodyPost_ret (v := .tuple #[.agg #[.int .i64 0, .int .i64 0], .int .i64 2]) ?_ rfl ⟨rfl, below_set2 hB (by omega) _ _⟩
  simp [results, Try.results14, go_sem, r0, r1]
set_option maxHeartbeats 1000000 in
theorem rnext_derr (t mi ma up dn cu cd c ch load now : Int) (w : World) (HS : Hid (∀ W, Calls Try.prog 27 #[.agg #[.int .i64 t, .int .i64 mi, .int .i64 ma, .int .i64 up, .int .i64 dn, .int .i64 cu, .int .i64 cd], .agg #[.int .i64 c, .int .i64 ch]] W fun e w' => e = .returned (.int .i64 0) ∧ Below W.heap.size W w')) (HD : Hid (∀ W, Calls Try.prog 12 #[.agg #[.int .i64 t, .int .i64 mi, .int .i64 ma, .int .i64 up, .int .i64 dn, .int .i64 cu, .int .i64 cd], .int .i64 load] W fun e w' => e = .returned (.tuple #[.int .i64 0, .int .i64 2]) ∧ Below W.heap.size W w')) : Calls Try.prog 14 #[.agg #[.int .i64 t, .int .i64 mi, .int .i64 ma, .int .i64 up, .int .i64 dn, .int .i64 cu, .int .i64 cd], .agg #[.int .i64 c, .int .i64 ch], .int .i64 load, .int .i64 now] w fun e w' => e = .returned (.tuple #[.agg #[.int .i64 0, .int .i64 0], .int .i64 2]) ∧ Below w.heap.size w w' := by
  go_enter Try.func14, Try.ntmps14
  go_wp2_with fail
  refine (HS.out _).mono ?_
  rintro e w' ⟨rfl, hb⟩
  obtain ⟨B1, B2, B4, hB⟩ := box3 hb
  clear hb
  obtain ⟨c0, c1, c2, c3, c4, c5, c6⟩ := B1.cells7
  obtain ⟨d0, d1⟩ := B2.cells2
  obtain ⟨r0, r1⟩ := B4.cells2
  obtain ⟨f0, f1, _, _⟩ := B4.frozen4
  have l4 := B4.lt
  go_wp2_with fail
  refine (HD.out _).mono ?_
  rintro e w2 ⟨rfl, hb⟩
  have hB2 := below_step hB hb
  have A1 := B1.next hb
  have A2 := B2.next hb
  have A4 := B4.next hb
  clear hb hB B1 B2 B4 c0 c1 c2 c3 c4 c5 c6 d0 d1 r0 r1 f0 f1 l4
  have l4 := A4.lt
  obtain ⟨c0, c1, c2, c3, c4, c5, c6⟩ := A1.cells7
  obtain ⟨d0, d1⟩ := A2.cells2
  obtain ⟨r0, r1⟩ := A4.cells2
  obtain ⟨f0, f1, _, _⟩ := A4.frozen4
  go_wp2
  refine bodyPost_ret (v := .tuple #[.agg #[.int .i64 0, .int .i64 0], .int .i64 2]) ?_ rfl ⟨rfl, below_set2 hB2 (by omega) _ _⟩
  simp [results, Try.results14, go_sem, r0, r1]
set_option maxHeartbeats 1000000 in
theorem rnext_lo (t mi ma up dn cu cd c ch load now d : Int) (w : World) (HS : Hid (∀ W, Calls Try.prog 27 #[.agg #[.int .i64 t, .int .i64 mi, .int .i64 ma, .int .i64 up, .int .i64 dn, .int .i64 cu, .int .i64 cd], .agg #[.int .i64 c, .int .i64 ch]] W fun e w' => e = .returned (.int .i64 0) ∧ Below W.heap.size W w')) (HD : Hid (∀ W, Calls Try.prog 12 #[.agg #[.int .i64 t, .int .i64 mi, .int .i64 ma, .int .i64 up, .int .i64 dn, .int .i64 cu, .int .i64 cd], .int .i64 load] W fun e w' => e = .returned (.tuple #[.int .i64 d, .int .i64 0]) ∧ Below W.heap.size W w')) (g0 : now < 0) : Calls Try.prog 14 #[.agg #[.int .i64 t, .int .i64 mi, .int .i64 ma, .int .i64 up, .int .i64 dn, .int .i64 cu, .int .i64 cd], .agg #[.int .i64 c, .int .i64 ch], .int .i64 load, .int .i64 now] w fun e w' => e = .returned (.tuple #[.agg #[.int .i64 0, .int .i64 0], .int .i64 2]) ∧ Below w.heap.size w w' := by
  go_enter Try.func14, Try.ntmps14
  go_wp2_with fail
  refine (HS.out _).mono ?_
  rintro e w' ⟨rfl, hb⟩
  obtain ⟨B1, B2, B4, hB⟩ := box3 hb
  clear hb
  obtain ⟨c0, c1, c2, c3, c4, c5, c6⟩ := B1.cells7
  obtain ⟨d0, d1⟩ := B2.cells2
  obtain ⟨r0, r1⟩ := B4.cells2
  obtain ⟨f0, f1, _, _⟩ := B4.frozen4
  have l4 := B4.lt
  go_wp2_with fail
  refine (HD.out _).mono ?_
  rintro e w2 ⟨rfl, hb⟩
  have hB2 := below_step hB hb
  have A1 := B1.next hb
  have A2 := B2.next hb
  have A4 := B4.next hb
  clear hb hB B1 B2 B4 c0 c1 c2 c3 c4 c5 c6 d0 d1 r0 r1 f0 f1 l4
  have l4 := A4.lt
  obtain ⟨c0, c1, c2, c3, c4, c5, c6⟩ := A1.cells7
  obtain ⟨d0, d1⟩ := A2.cells2
  obtain ⟨r0, r1⟩ := A4.cells2
  obtain ⟨f0, f1, _, _⟩ := A4.frozen4
  go_wp2_with fail
  refine (rin_no _ _ _ _ (by omega)).mono ?_
  rintro e w3 ⟨rfl, rfl⟩
  go_wp2
  refine bodyPost_ret (v := .tuple #[.agg #[.int .i64 0, .int .i64 0], .int .i64 2]) ?_ rfl ⟨rfl, below_set2 hB2 (by omega) _ _⟩
  simp [results, Try.results14, go_sem, r0, r1]
set_option maxHeartbeats 1000000 in
theorem rnext_hi (t mi ma up dn cu cd c ch load now d : Int) (w : World) (HS : Hid (∀ W, Calls Try.prog 27 #[.agg #[.int .i64 t, .int .i64 mi, .int .i64 ma, .int .i64 up, .int .i64 dn, .int .i64 cu, .int .i64 cd], .agg #[.int .i64 c, .int .i64 ch]] W fun e w' => e = .returned (.int .i64 0) ∧ Below W.heap.size W w')) (HD : Hid (∀ W, Calls Try.prog 12 #[.agg #[.int .i64 t, .int .i64 mi, .int .i64 ma, .int .i64 up, .int .i64 dn, .int .i64 cu, .int .i64 cd], .int .i64 load] W fun e w' => e = .returned (.tuple #[.int .i64 d, .int .i64 0]) ∧ Below W.heap.size W w')) (_g0 : 0 ≤ now) (g1 : 1073741824 < now) : Calls Try.prog 14 #[.agg #[.int .i64 t, .int .i64 mi, .int .i64 ma, .int .i64 up, .int .i64 dn, .int .i64 cu, .int .i64 cd], .agg #[.int .i64 c, .int .i64 ch], .int .i64 load, .int .i64 now] w fun e w' => e = .returned (.tuple #[.agg #[.int .i64 0, .int .i64 0], .int .i64 2]) ∧ Below w.heap.size w w' := by
  go_enter Try.func14, Try.ntmps14
  go_wp2_with fail
  refine (HS.out _).mono ?_
  rintro e w' ⟨rfl, hb⟩
  obtain ⟨B1, B2, B4, hB⟩ := box3 hb
  clear hb
  obtain ⟨c0, c1, c2, c3, c4, c5, c6⟩ := B1.cells7
  obtain ⟨d0, d1⟩ := B2.cells2
  obtain ⟨r0, r1⟩ := B4.cells2
  obtain ⟨f0, f1, _, _⟩ := B4.frozen4
  have l4 := B4.lt
  go_wp2_with fail
  refine (HD.out _).mono ?_
  rintro e w2 ⟨rfl, hb⟩
  have hB2 := below_step hB hb
  have A1 := B1.next hb
  have A2 := B2.next hb
  have A4 := B4.next hb
  clear hb hB B1 B2 B4 c0 c1 c2 c3 c4 c5 c6 d0 d1 r0 r1 f0 f1 l4
  have l4 := A4.lt
  obtain ⟨c0, c1, c2, c3, c4, c5, c6⟩ := A1.cells7
  obtain ⟨d0, d1⟩ := A2.cells2
  obtain ⟨r0, r1⟩ := A4.cells2
  obtain ⟨f0, f1, _, _⟩ := A4.frozen4
  go_wp2_with fail
  refine (rin_no _ _ _ _ (by omega)).mono ?_
  rintro e w3 ⟨rfl, rfl⟩
  go_wp2
  refine bodyPost_ret (v := .tuple #[.agg #[.int .i64 0, .int .i64 0], .int .i64 2]) ?_ rfl ⟨rfl, below_set2 hB2 (by omega) _ _⟩
  simp [results, Try.results14, go_sem, r0, r1]
set_option maxHeartbeats 1000000 in
theorem rnext_ord (t mi ma up dn cu cd c ch load now d : Int) (w : World) (HS : Hid (∀ W, Calls Try.prog 27 #[.agg #[.int .i64 t, .int .i64 mi, .int .i64 ma, .int .i64 up, .int .i64 dn, .int .i64 cu, .int .i64 cd], .agg #[.int .i64 c, .int .i64 ch]] W fun e w' => e = .returned (.int .i64 0) ∧ Below W.heap.size W w')) (HD : Hid (∀ W, Calls Try.prog 12 #[.agg #[.int .i64 t, .int .i64 mi, .int .i64 ma, .int .i64 up, .int .i64 dn, .int .i64 cu, .int .i64 cd], .int .i64 load] W fun e w' => e = .returned (.tuple #[.int .i64 d, .int .i64 0]) ∧ Below W.heap.size W w')) (g0 : 0 ≤ now) (g1 : now ≤ 1073741824) (g2 : now < ch) : Calls Try.prog 14 #[.agg #[.int .i64 t, .int .i64 mi, .int .i64 ma, .int .i64 up, .int .i64 dn, .int .i64 cu, .int .i64 cd], .agg #[.int .i64 c, .int .i64 ch], .int .i64 load, .int .i64 now] w fun e w' => e = .returned (.tuple #[.agg #[.int .i64 0, .int .i64 0], .int .i64 11]) ∧ Below w.heap.size w w' := by
  go_enter Try.func14, Try.ntmps14
  go_wp2_with fail
  refine (HS.out _).mono ?_
  rintro e w' ⟨rfl, hb⟩
  obtain ⟨B1, B2, B4, hB⟩ := box3 hb
  clear hb
  obtain ⟨c0, c1, c2, c3, c4, c5, c6⟩ := B1.cells7
  obtain ⟨d0, d1⟩ := B2.cells2
  obtain ⟨r0, r1⟩ := B4.cells2
  obtain ⟨f0, f1, _, _⟩ := B4.frozen4
  have l4 := B4.lt
  go_wp2_with fail
  refine (HD.out _).mono ?_
  rintro e w2 ⟨rfl, hb⟩
  have hB2 := below_step hB hb
  have A1 := B1.next hb
  have A2 := B2.next hb
  have A4 := B4.next hb
  clear hb hB B1 B2 B4 c0 c1 c2 c3 c4 c5 c6 d0 d1 r0 r1 f0 f1 l4
  have l4 := A4.lt
  obtain ⟨c0, c1, c2, c3, c4, c5, c6⟩ := A1.cells7
  obtain ⟨d0, d1⟩ := A2.cells2
  obtain ⟨r0, r1⟩ := A4.cells2
  obtain ⟨f0, f1, _, _⟩ := A4.frozen4
  go_wp2_with fail
  refine (rin_yes _ _ _ _ (by omega) (by omega)).mono ?_
  rintro e w3 ⟨rfl, rfl⟩
  go_wp2
  refine bodyPost_ret (v := .tuple #[.agg #[.int .i64 0, .int .i64 0], .int .i64 11]) ?_ rfl ⟨rfl, below_set2 hB2 (by omega) _ _⟩
  simp [results, Try.results14, go_sem, r0, r1]
set_option maxHeartbeats 1000000 in
theorem rnext_up (t mi ma up dn cu cd c ch load now d : Int) (w : World) (HS : Hid (∀ W, Calls Try.prog 27 #[.agg #[.int .i64 t, .int .i64 mi, .int .i64 ma, .int .i64 up, .int .i64 dn, .int .i64 cu, .int .i64 cd], .agg #[.int .i64 c, .int .i64 ch]] W fun e w' => e = .returned (.int .i64 0) ∧ Below W.heap.size W w')) (HD : Hid (∀ W, Calls Try.prog 12 #[.agg #[.int .i64 t, .int .i64 mi, .int .i64 ma, .int .i64 up, .int .i64 dn, .int .i64 cu, .int .i64 cd], .int .i64 load] W fun e w' => e = .returned (.tuple #[.int .i64 d, .int .i64 0]) ∧ Below W.heap.size W w')) (h2 : 0 ≤ c) (h3 : c ≤ 1000) (k2 : 0 ≤ d) (k3 : d ≤ 1000) (h5 : -1 ≤ ch) (h6 : ch ≤ 1073741824) (u1 : 1 ≤ up) (u2 : up ≤ 1000) (_n1 : 1 ≤ dn) (_n2 : dn ≤ 1000) (h7 : 0 ≤ now) (h8 : now ≤ 1073741824) (h11 : ch ≤ now) (g1 : c < d) (g2 : ch = -1 ∨ cu ≤ now - ch) : Calls Try.prog 14 #[.agg #[.int .i64 t, .int .i64 mi, .int .i64 ma, .int .i64 up, .int .i64 dn, .int .i64 cu, .int .i64 cd], .agg #[.int .i64 c, .int .i64 ch], .int .i64 load, .int .i64 now] w fun e w' => e = .returned (.tuple #[.agg #[.int .i64 (c + min up (d - c)), .int .i64 now], .int .i64 0]) ∧ Below w.heap.size w w' := by
  by_cases gg : ch = -1
  · have g2' : (ch == -1) = true := by simp [gg]
    clear g2 gg
    go_enter Try.func14, Try.ntmps14
    go_wp2_with fail
    refine (HS.out _).mono ?_
    rintro e w' ⟨rfl, hb⟩
    obtain ⟨B1, B2, B4, hB⟩ := box3 hb
    clear hb
    obtain ⟨c0, c1, c2, c3, c4, c5, c6⟩ := B1.cells7
    obtain ⟨d0, d1⟩ := B2.cells2
    obtain ⟨r0, r1⟩ := B4.cells2
    obtain ⟨f0, f1, _, _⟩ := B4.frozen4
    have l4 := B4.lt
    go_wp2_with fail
    refine (HD.out _).mono ?_
    rintro e w2 ⟨rfl, hb⟩
    have hB2 := below_step hB hb
    have A1 := B1.next hb
    have A2 := B2.next hb
    have A4 := B4.next hb
    clear hb hB B1 B2 B4 c0 c1 c2 c3 c4 c5 c6 d0 d1 r0 r1 f0 f1 l4
    have l4 := A4.lt
    obtain ⟨c0, c1, c2, c3, c4, c5, c6⟩ := A1.cells7
    obtain ⟨d0, d1⟩ := A2.cells2
    obtain ⟨r0, r1⟩ := A4.cells2
    obtain ⟨f0, f1, _, _⟩ := A4.frozen4
    go_wp2_with fail
    refine (rin_yes _ _ _ _ (by omega) (by omega)).mono ?_
    rintro e w3 ⟨rfl, rfl⟩
    go_upto_region 12 with fail
    have hs1 : IntKind.i64.wrap (d - c) = d - c := IntWalk.i64_in _ (by omega)
    have hs2 : IntKind.i64.wrap (c + min up (d - c)) = c + min up (d - c) := IntWalk.i64_in _ (by omega)
    go_still_tail 12, (by kernel_rfl)
    still_call (lesser_still _ _ _)
    repeat still_step
    refine wpStill_nil ?_
    change wpList _ _ _ _ _ w2.drew
    replace A4 := A4.drew
    replace hB2 := hB2.drew
    generalize w2.drew = w3 at *
    clear A1 A2 c0 c1 c2 c3 c4 c5 c6 d0 d1 r0 r1 f0 f1 hs1 hs2
    obtain ⟨r0, r1⟩ := A4.cells2
    obtain ⟨f0, f1, _, _⟩ := A4.frozen4
    clear A4
    go_wp2
    refine bodyPost_ret (v := .tuple #[.agg #[.int .i64 (c + min up (d - c)), .int .i64 now], .int .i64 0]) ?_ rfl ⟨rfl, below_set2 hB2 (by omega) _ _⟩
    simp [results, Try.results14, go_sem, r0, r1]
  · have g2' : (ch == -1) = false := by simp [gg]
    have g3 : cu ≤ now - ch := by omega
    clear g2 gg
    go_enter Try.func14, Try.ntmps14
    go_wp2_with fail
    refine (HS.out _).mono ?_
    rintro e w' ⟨rfl, hb⟩
    obtain ⟨B1, B2, B4, hB⟩ := box3 hb
    clear hb
    obtain ⟨c0, c1, c2, c3, c4, c5, c6⟩ := B1.cells7
    obtain ⟨d0, d1⟩ := B2.cells2
    obtain ⟨r0, r1⟩ := B4.cells2
    obtain ⟨f0, f1, _, _⟩ := B4.frozen4
    have l4 := B4.lt
    go_wp2_with fail
    refine (HD.out _).mono ?_
    rintro e w2 ⟨rfl, hb⟩
    have hB2 := below_step hB hb
    have A1 := B1.next hb
    have A2 := B2.next hb
    have A4 := B4.next hb
    clear hb hB B1 B2 B4 c0 c1 c2 c3 c4 c5 c6 d0 d1 r0 r1 f0 f1 l4
    have l4 := A4.lt
    obtain ⟨c0, c1, c2, c3, c4, c5, c6⟩ := A1.cells7
    obtain ⟨d0, d1⟩ := A2.cells2
    obtain ⟨r0, r1⟩ := A4.cells2
    obtain ⟨f0, f1, _, _⟩ := A4.frozen4
    go_wp2_with fail
    refine (rin_yes _ _ _ _ (by omega) (by omega)).mono ?_
    rintro e w3 ⟨rfl, rfl⟩
    go_upto_region 12 with fail
    have hs1 : IntKind.i64.wrap (d - c) = d - c := IntWalk.i64_in _ (by omega)
    have hs2 : IntKind.i64.wrap (c + min up (d - c)) = c + min up (d - c) := IntWalk.i64_in _ (by omega)
    go_still_tail 12, (by kernel_rfl)
    still_call (lesser_still _ _ _)
    repeat still_step
    refine wpStill_nil ?_
    change wpList _ _ _ _ _ w2.drew
    replace A4 := A4.drew
    replace hB2 := hB2.drew
    generalize w2.drew = w3 at *
    clear A1 A2 c0 c1 c2 c3 c4 c5 c6 d0 d1 r0 r1 f0 f1 hs1 hs2
    obtain ⟨r0, r1⟩ := A4.cells2
    obtain ⟨f0, f1, _, _⟩ := A4.frozen4
    clear A4
    go_wp2
    refine bodyPost_ret (v := .tuple #[.agg #[.int .i64 (c + min up (d - c)), .int .i64 now], .int .i64 0]) ?_ rfl ⟨rfl, below_set2 hB2 (by omega) _ _⟩
    simp [results, Try.results14, go_sem, r0, r1]
set_option maxHeartbeats 1000000 in
theorem rnext_upno (t mi ma up dn cu cd c ch load now d : Int) (w : World) (HS : Hid (∀ W, Calls Try.prog 27 #[.agg #[.int .i64 t, .int .i64 mi, .int .i64 ma, .int .i64 up, .int .i64 dn, .int .i64 cu, .int .i64 cd], .agg #[.int .i64 c, .int .i64 ch]] W fun e w' => e = .returned (.int .i64 0) ∧ Below W.heap.size W w')) (HD : Hid (∀ W, Calls Try.prog 12 #[.agg #[.int .i64 t, .int .i64 mi, .int .i64 ma, .int .i64 up, .int .i64 dn, .int .i64 cu, .int .i64 cd], .int .i64 load] W fun e w' => e = .returned (.tuple #[.int .i64 d, .int .i64 0]) ∧ Below W.heap.size W w')) (_h2 : 0 ≤ c) (_h3 : c ≤ 1000) (_k2 : 0 ≤ d) (_k3 : d ≤ 1000) (h5 : -1 ≤ ch) (h6 : ch ≤ 1073741824) (_u1 : 1 ≤ up) (_u2 : up ≤ 1000) (_n1 : 1 ≤ dn) (_n2 : dn ≤ 1000) (h7 : 0 ≤ now) (h8 : now ≤ 1073741824) (h11 : ch ≤ now) (g1 : c < d) (g2 : ch ≠ -1) (g3 : now - ch < cu) : Calls Try.prog 14 #[.agg #[.int .i64 t, .int .i64 mi, .int .i64 ma, .int .i64 up, .int .i64 dn, .int .i64 cu, .int .i64 cd], .agg #[.int .i64 c, .int .i64 ch], .int .i64 load, .int .i64 now] w fun e w' => e = .returned (.tuple #[.agg #[.int .i64 (c), .int .i64 ch], .int .i64 0]) ∧ Below w.heap.size w w' := by
  have g2' : (ch == -1) = false := by simp [g2]
  clear g2
  go_enter Try.func14, Try.ntmps14
  go_wp2_with fail
  refine (HS.out _).mono ?_
  rintro e w' ⟨rfl, hb⟩
  obtain ⟨B1, B2, B4, hB⟩ := box3 hb
  clear hb
  obtain ⟨c0, c1, c2, c3, c4, c5, c6⟩ := B1.cells7
  obtain ⟨d0, d1⟩ := B2.cells2
  obtain ⟨r0, r1⟩ := B4.cells2
  obtain ⟨f0, f1, _, _⟩ := B4.frozen4
  have l4 := B4.lt
  go_wp2_with fail
  refine (HD.out _).mono ?_
  rintro e w2 ⟨rfl, hb⟩
  have hB2 := below_step hB hb
  have A1 := B1.next hb
  have A2 := B2.next hb
  have A4 := B4.next hb
  clear hb hB B1 B2 B4 c0 c1 c2 c3 c4 c5 c6 d0 d1 r0 r1 f0 f1 l4
  have l4 := A4.lt
  obtain ⟨c0, c1, c2, c3, c4, c5, c6⟩ := A1.cells7
  obtain ⟨d0, d1⟩ := A2.cells2
  obtain ⟨r0, r1⟩ := A4.cells2
  obtain ⟨f0, f1, _, _⟩ := A4.frozen4
  go_wp2_with fail
  refine (rin_yes _ _ _ _ (by omega) (by omega)).mono ?_
  rintro e w3 ⟨rfl, rfl⟩
  go_wp2
  refine bodyPost_ret (v := .tuple #[.agg #[.int .i64 (c), .int .i64 ch], .int .i64 0]) ?_ rfl ⟨rfl, below_set2 hB2 (by omega) _ _⟩
  simp [results, Try.results14, go_sem, r0, r1]
set_option maxHeartbeats 1000000 in
theorem rnext_dn (t mi ma up dn cu cd c ch load now d : Int) (w : World) (HS : Hid (∀ W, Calls Try.prog 27 #[.agg #[.int .i64 t, .int .i64 mi, .int .i64 ma, .int .i64 up, .int .i64 dn, .int .i64 cu, .int .i64 cd], .agg #[.int .i64 c, .int .i64 ch]] W fun e w' => e = .returned (.int .i64 0) ∧ Below W.heap.size W w')) (HD : Hid (∀ W, Calls Try.prog 12 #[.agg #[.int .i64 t, .int .i64 mi, .int .i64 ma, .int .i64 up, .int .i64 dn, .int .i64 cu, .int .i64 cd], .int .i64 load] W fun e w' => e = .returned (.tuple #[.int .i64 d, .int .i64 0]) ∧ Below W.heap.size W w')) (h2 : 0 ≤ c) (h3 : c ≤ 1000) (k2 : 0 ≤ d) (k3 : d ≤ 1000) (h5 : -1 ≤ ch) (h6 : ch ≤ 1073741824) (_u1 : 1 ≤ up) (_u2 : up ≤ 1000) (n1 : 1 ≤ dn) (n2 : dn ≤ 1000) (h7 : 0 ≤ now) (h8 : now ≤ 1073741824) (h11 : ch ≤ now) (g1 : d < c) (g2 : ch = -1 ∨ cd ≤ now - ch) : Calls Try.prog 14 #[.agg #[.int .i64 t, .int .i64 mi, .int .i64 ma, .int .i64 up, .int .i64 dn, .int .i64 cu, .int .i64 cd], .agg #[.int .i64 c, .int .i64 ch], .int .i64 load, .int .i64 now] w fun e w' => e = .returned (.tuple #[.agg #[.int .i64 (c - min dn (c - d)), .int .i64 now], .int .i64 0]) ∧ Below w.heap.size w w' := by
  by_cases gg : ch = -1
  · have g2' : (ch == -1) = true := by simp [gg]
    clear g2 gg
    go_enter Try.func14, Try.ntmps14
    go_wp2_with fail
    refine (HS.out _).mono ?_
    rintro e w' ⟨rfl, hb⟩
    obtain ⟨B1, B2, B4, hB⟩ := box3 hb
    clear hb
    obtain ⟨c0, c1, c2, c3, c4, c5, c6⟩ := B1.cells7
    obtain ⟨d0, d1⟩ := B2.cells2
    obtain ⟨r0, r1⟩ := B4.cells2
    obtain ⟨f0, f1, _, _⟩ := B4.frozen4
    have l4 := B4.lt
    go_wp2_with fail
    refine (HD.out _).mono ?_
    rintro e w2 ⟨rfl, hb⟩
    have hB2 := below_step hB hb
    have A1 := B1.next hb
    have A2 := B2.next hb
    have A4 := B4.next hb
    clear hb hB B1 B2 B4 c0 c1 c2 c3 c4 c5 c6 d0 d1 r0 r1 f0 f1 l4
    have l4 := A4.lt
    obtain ⟨c0, c1, c2, c3, c4, c5, c6⟩ := A1.cells7
    obtain ⟨d0, d1⟩ := A2.cells2
    obtain ⟨r0, r1⟩ := A4.cells2
    obtain ⟨f0, f1, _, _⟩ := A4.frozen4
    go_wp2_with fail
    refine (rin_yes _ _ _ _ (by omega) (by omega)).mono ?_
    rintro e w3 ⟨rfl, rfl⟩
    go_upto_region 14 with fail
    have hs1 : IntKind.i64.wrap (c - d) = c - d := IntWalk.i64_in _ (by omega)
    have hs2 : IntKind.i64.wrap (c - min dn (c - d)) = c - min dn (c - d) := IntWalk.i64_in _ (by omega)
    go_still_tail 12, (by kernel_rfl)
    still_call (lesser_still _ _ _)
    repeat still_step
    refine wpStill_nil ?_
    change wpList _ _ _ _ _ w2.drew
    replace A4 := A4.drew
    replace hB2 := hB2.drew
    generalize w2.drew = w3 at *
    clear A1 A2 c0 c1 c2 c3 c4 c5 c6 d0 d1 r0 r1 f0 f1 hs1 hs2
    obtain ⟨r0, r1⟩ := A4.cells2
    obtain ⟨f0, f1, _, _⟩ := A4.frozen4
    clear A4
    go_wp2
    refine bodyPost_ret (v := .tuple #[.agg #[.int .i64 (c - min dn (c - d)), .int .i64 now], .int .i64 0]) ?_ rfl ⟨rfl, below_set2 hB2 (by omega) _ _⟩
    simp [results, Try.results14, go_sem, r0, r1]
  · have g2' : (ch == -1) = false := by simp [gg]
    have g3 : cd ≤ now - ch := by omega
    clear g2 gg
    go_enter Try.func14, Try.ntmps14
    go_wp2_with fail
    refine (HS.out _).mono ?_
    rintro e w' ⟨rfl, hb⟩
    obtain ⟨B1, B2, B4, hB⟩ := box3 hb
    clear hb
    obtain ⟨c0, c1, c2, c3, c4, c5, c6⟩ := B1.cells7
    obtain ⟨d0, d1⟩ := B2.cells2
    obtain ⟨r0, r1⟩ := B4.cells2
    obtain ⟨f0, f1, _, _⟩ := B4.frozen4
    have l4 := B4.lt
    go_wp2_with fail
    refine (HD.out _).mono ?_
    rintro e w2 ⟨rfl, hb⟩
    have hB2 := below_step hB hb
    have A1 := B1.next hb
    have A2 := B2.next hb
    have A4 := B4.next hb
    clear hb hB B1 B2 B4 c0 c1 c2 c3 c4 c5 c6 d0 d1 r0 r1 f0 f1 l4
    have l4 := A4.lt
    obtain ⟨c0, c1, c2, c3, c4, c5, c6⟩ := A1.cells7
    obtain ⟨d0, d1⟩ := A2.cells2
    obtain ⟨r0, r1⟩ := A4.cells2
    obtain ⟨f0, f1, _, _⟩ := A4.frozen4
    go_wp2_with fail
    refine (rin_yes _ _ _ _ (by omega) (by omega)).mono ?_
    rintro e w3 ⟨rfl, rfl⟩
    go_upto_region 14 with fail
    have hs1 : IntKind.i64.wrap (c - d) = c - d := IntWalk.i64_in _ (by omega)
    have hs2 : IntKind.i64.wrap (c - min dn (c - d)) = c - min dn (c - d) := IntWalk.i64_in _ (by omega)
    go_still_tail 12, (by kernel_rfl)
    still_call (lesser_still _ _ _)
    repeat still_step
    refine wpStill_nil ?_
    change wpList _ _ _ _ _ w2.drew
    replace A4 := A4.drew
    replace hB2 := hB2.drew
    generalize w2.drew = w3 at *
    clear A1 A2 c0 c1 c2 c3 c4 c5 c6 d0 d1 r0 r1 f0 f1 hs1 hs2
    obtain ⟨r0, r1⟩ := A4.cells2
    obtain ⟨f0, f1, _, _⟩ := A4.frozen4
    clear A4
    go_wp2
    refine bodyPost_ret (v := .tuple #[.agg #[.int .i64 (c - min dn (c - d)), .int .i64 now], .int .i64 0]) ?_ rfl ⟨rfl, below_set2 hB2 (by omega) _ _⟩
    simp [results, Try.results14, go_sem, r0, r1]
set_option maxHeartbeats 1000000 in
theorem rnext_dnno (t mi ma up dn cu cd c ch load now d : Int) (w : World) (HS : Hid (∀ W, Calls Try.prog 27 #[.agg #[.int .i64 t, .int .i64 mi, .int .i64 ma, .int .i64 up, .int .i64 dn, .int .i64 cu, .int .i64 cd], .agg #[.int .i64 c, .int .i64 ch]] W fun e w' => e = .returned (.int .i64 0) ∧ Below W.heap.size W w')) (HD : Hid (∀ W, Calls Try.prog 12 #[.agg #[.int .i64 t, .int .i64 mi, .int .i64 ma, .int .i64 up, .int .i64 dn, .int .i64 cu, .int .i64 cd], .int .i64 load] W fun e w' => e = .returned (.tuple #[.int .i64 d, .int .i64 0]) ∧ Below W.heap.size W w')) (_h2 : 0 ≤ c) (_h3 : c ≤ 1000) (_k2 : 0 ≤ d) (_k3 : d ≤ 1000) (h5 : -1 ≤ ch) (h6 : ch ≤ 1073741824) (_u1 : 1 ≤ up) (_u2 : up ≤ 1000) (_n1 : 1 ≤ dn) (_n2 : dn ≤ 1000) (h7 : 0 ≤ now) (h8 : now ≤ 1073741824) (h11 : ch ≤ now) (g1 : d < c) (g2 : ch ≠ -1) (g3 : now - ch < cd) : Calls Try.prog 14 #[.agg #[.int .i64 t, .int .i64 mi, .int .i64 ma, .int .i64 up, .int .i64 dn, .int .i64 cu, .int .i64 cd], .agg #[.int .i64 c, .int .i64 ch], .int .i64 load, .int .i64 now] w fun e w' => e = .returned (.tuple #[.agg #[.int .i64 (c), .int .i64 ch], .int .i64 0]) ∧ Below w.heap.size w w' := by
  have g2' : (ch == -1) = false := by simp [g2]
  clear g2
  go_enter Try.func14, Try.ntmps14
  go_wp2_with fail
  refine (HS.out _).mono ?_
  rintro e w' ⟨rfl, hb⟩
  obtain ⟨B1, B2, B4, hB⟩ := box3 hb
  clear hb
  obtain ⟨c0, c1, c2, c3, c4, c5, c6⟩ := B1.cells7
  obtain ⟨d0, d1⟩ := B2.cells2
  obtain ⟨r0, r1⟩ := B4.cells2
  obtain ⟨f0, f1, _, _⟩ := B4.frozen4
  have l4 := B4.lt
  go_wp2_with fail
  refine (HD.out _).mono ?_
  rintro e w2 ⟨rfl, hb⟩
  have hB2 := below_step hB hb
  have A1 := B1.next hb
  have A2 := B2.next hb
  have A4 := B4.next hb
  clear hb hB B1 B2 B4 c0 c1 c2 c3 c4 c5 c6 d0 d1 r0 r1 f0 f1 l4
  have l4 := A4.lt
  obtain ⟨c0, c1, c2, c3, c4, c5, c6⟩ := A1.cells7
  obtain ⟨d0, d1⟩ := A2.cells2
  obtain ⟨r0, r1⟩ := A4.cells2
  obtain ⟨f0, f1, _, _⟩ := A4.frozen4
  go_wp2_with fail
  refine (rin_yes _ _ _ _ (by omega) (by omega)).mono ?_
  rintro e w3 ⟨rfl, rfl⟩
  go_wp2
  refine bodyPost_ret (v := .tuple #[.agg #[.int .i64 (c), .int .i64 ch], .int .i64 0]) ?_ rfl ⟨rfl, below_set2 hB2 (by omega) _ _⟩
  simp [results, Try.results14, go_sem, r0, r1]
set_option maxHeartbeats 1000000 in
theorem rnext_eq (t mi ma up dn cu cd c ch load now d : Int) (w : World) (HS : Hid (∀ W, Calls Try.prog 27 #[.agg #[.int .i64 t, .int .i64 mi, .int .i64 ma, .int .i64 up, .int .i64 dn, .int .i64 cu, .int .i64 cd], .agg #[.int .i64 c, .int .i64 ch]] W fun e w' => e = .returned (.int .i64 0) ∧ Below W.heap.size W w')) (HD : Hid (∀ W, Calls Try.prog 12 #[.agg #[.int .i64 t, .int .i64 mi, .int .i64 ma, .int .i64 up, .int .i64 dn, .int .i64 cu, .int .i64 cd], .int .i64 load] W fun e w' => e = .returned (.tuple #[.int .i64 d, .int .i64 0]) ∧ Below W.heap.size W w')) (_h2 : 0 ≤ c) (_h3 : c ≤ 1000) (k2 : 0 ≤ d) (k3 : d ≤ 1000) (_h5 : -1 ≤ ch) (_h6 : ch ≤ 1073741824) (_u1 : 1 ≤ up) (_u2 : up ≤ 1000) (_n1 : 1 ≤ dn) (_n2 : dn ≤ 1000) (h7 : 0 ≤ now) (h8 : now ≤ 1073741824) (h11 : ch ≤ now) (g1 : c = d) : Calls Try.prog 14 #[.agg #[.int .i64 t, .int .i64 mi, .int .i64 ma, .int .i64 up, .int .i64 dn, .int .i64 cu, .int .i64 cd], .agg #[.int .i64 c, .int .i64 ch], .int .i64 load, .int .i64 now] w fun e w' => e = .returned (.tuple #[.agg #[.int .i64 (c), .int .i64 ch], .int .i64 0]) ∧ Below w.heap.size w w' := by
  subst g1
  go_enter Try.func14, Try.ntmps14
  go_wp2_with fail
  refine (HS.out _).mono ?_
  rintro e w' ⟨rfl, hb⟩
  obtain ⟨B1, B2, B4, hB⟩ := box3 hb
  clear hb
  obtain ⟨c0, c1, c2, c3, c4, c5, c6⟩ := B1.cells7
  obtain ⟨d0, d1⟩ := B2.cells2
  obtain ⟨r0, r1⟩ := B4.cells2
  obtain ⟨f0, f1, _, _⟩ := B4.frozen4
  have l4 := B4.lt
  go_wp2_with fail
  refine (HD.out _).mono ?_
  rintro e w2 ⟨rfl, hb⟩
  have hB2 := below_step hB hb
  have A1 := B1.next hb
  have A2 := B2.next hb
  have A4 := B4.next hb
  clear hb hB B1 B2 B4 c0 c1 c2 c3 c4 c5 c6 d0 d1 r0 r1 f0 f1 l4
  have l4 := A4.lt
  obtain ⟨c0, c1, c2, c3, c4, c5, c6⟩ := A1.cells7
  obtain ⟨d0, d1⟩ := A2.cells2
  obtain ⟨r0, r1⟩ := A4.cells2
  obtain ⟨f0, f1, _, _⟩ := A4.frozen4
  go_wp2_with fail
  refine (rin_yes _ _ _ _ (by omega) (by omega)).mono ?_
  rintro e w3 ⟨rfl, rfl⟩
  go_wp2
  refine bodyPost_ret (v := .tuple #[.agg #[.int .i64 (c), .int .i64 ch], .int .i64 0]) ?_ rfl ⟨rfl, below_set2 hB2 (by omega) _ _⟩
  simp [results, Try.results14, go_sem, r0, r1]

end Go.Proofs.Ytndpecjkoffebaa
