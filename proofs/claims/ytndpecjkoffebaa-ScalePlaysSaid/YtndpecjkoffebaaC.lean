/- Contracts of Start, Desired and state of layer 42 (scale) and of its reference. -/
import Derived.Test.YtndpecjkoffebaaA
namespace Go.Proofs.Ytndpecjkoffebaa
open Go.ChangeShapes Go.WideShapes Go.ChangeAt Go.RowKit

section
variable {w w' : World} {b : Nat} {t : TypeId} {cs : Array Value}
theorem Box.cells7 {x0 x1 x2 x3 x4 x5 x6 : Value} (h : Box w b t #[x0, x1, x2, x3, x4, x5, x6]) :
    w.cell? ⟨b, 0, none⟩ = some x0 ∧ w.cell? ⟨b, 1, none⟩ = some x1 ∧ w.cell? ⟨b, 2, none⟩ = some x2 ∧ w.cell? ⟨b, 3, none⟩ = some x3 ∧ w.cell? ⟨b, 4, none⟩ = some x4 ∧ w.cell? ⟨b, 5, none⟩ = some x5 ∧ w.cell? ⟨b, 6, none⟩ = some x6 :=
  ⟨h.cell 0 _ rfl, h.cell 1 _ rfl, h.cell 2 _ rfl, h.cell 3 _ rfl, h.cell 4 _ rfl, h.cell 5 _ rfl, h.cell 6 _ rfl⟩
theorem Box.cells2 {x0 x1 : Value} (h : Box w b t #[x0, x1]) : w.cell? ⟨b, 0, none⟩ = some x0 ∧ w.cell? ⟨b, 1, none⟩ = some x1 := ⟨h.cell 0 _ rfl, h.cell 1 _ rfl⟩
theorem Box.cells1 {x0 : Value} (h : Box w b t #[x0]) : w.cell? ⟨b, 0, none⟩ = some x0 := h.cell 0 _ rfl
theorem Box.set2 {x0 x1 v0 v1 : Value} (h : Box w b t #[x0, x1]) : Box ((w.setCell ⟨b, 0, none⟩ v0).setCell ⟨b, 1, none⟩ v1) b t #[v0, v1] :=
  ((h.set 0 v0).set 1 v1).eq_ (by simp)
theorem Box.far2 (h : Box w b t cs) {g : Nat} (hg : b ≠ g) (v0 v1 : Value) : Box ((w.setCell ⟨g, 0, none⟩ v0).setCell ⟨g, 1, none⟩ v1) b t cs :=
  (h.far (p := ⟨g, 0, none⟩) hg v0).far (p := ⟨g, 1, none⟩) hg v1
end
theorem below_set2 {B : Nat} {a w : World} (h : Below B a w) {g : Nat} (hg : B ≤ g) (v0 v1 : Value) : Below B a ((w.setCell ⟨g, 0, none⟩ v0).setCell ⟨g, 1, none⟩ v1) :=
  (h.setCell (p := ⟨g, 0, none⟩) hg v0).setCell (p := ⟨g, 1, none⟩) hg v1

theorem box1 {w w' : World} {t : TypeId} {cs : Array Value} (hb : Below (w.alloc (.cells cs t)).heap.size (w.alloc (.cells cs t)) w') :
    Box w' w.heap.size t cs ∧ Below w.heap.size w w' :=
  ⟨(Box.new w t cs).next hb, below_next ((Below.refl _ w).alloc (Nat.le_refl _) _) (by simp) hb⟩
theorem box2 {w w' : World} {t u : TypeId} {cs ds : Array Value} (hb : Below ((w.alloc (.cells cs t)).alloc (.cells ds u)).heap.size ((w.alloc (.cells cs t)).alloc (.cells ds u)) w') :
    Box w' w.heap.size t cs ∧ Box w' (w.heap.size + 1) u ds ∧ Below w.heap.size w w' := by
  have B2 := (Box.new (w.alloc (.cells cs t)) u ds).next hb
  simp only [World.size_alloc] at B2
  exact ⟨((Box.new w t cs).alloc (.cells ds u)).next hb, B2, below_next (((Below.refl _ w).alloc (Nat.le_refl _) _).alloc (by simp) _) (by simp; omega) hb⟩
theorem box4 {w w' : World} {t u t3 t4 : TypeId} {cs ds es fs : Array Value} (hb : Below ((((w.alloc (.cells cs t)).alloc (.cells ds u)).alloc (.cells es t3)).alloc (.cells fs t4)).heap.size ((((w.alloc (.cells cs t)).alloc (.cells ds u)).alloc (.cells es t3)).alloc (.cells fs t4)) w') :
    Box w' w.heap.size t cs ∧ Box w' (w.heap.size + 1) u ds ∧ Box w' (w.heap.size + 2) t3 es ∧ Box w' (w.heap.size + 3) t4 fs ∧ Below w.heap.size w w' := by
  have B2 := ((Box.new (w.alloc (.cells cs t)) u ds).alloc (.cells es t3)).alloc (.cells fs t4) |>.next hb
  have B3 := ((Box.new ((w.alloc (.cells cs t)).alloc (.cells ds u)) t3 es).alloc (.cells fs t4)).next hb
  have B4 := (Box.new (((w.alloc (.cells cs t)).alloc (.cells ds u)).alloc (.cells es t3)) t4 fs).next hb
  simp only [World.size_alloc] at B2 B3 B4
  exact ⟨((((Box.new w t cs).alloc (.cells ds u)).alloc (.cells es t3)).alloc (.cells fs t4)).next hb, B2, B3, B4,
    below_next (((((Below.refl _ w).alloc (Nat.le_refl _) _).alloc (by simp) _).alloc (by simp; omega) _).alloc (by simp; omega) _) (by simp; omega) hb⟩

set_option maxHeartbeats 400000 in
theorem start_no (t mi ma up dn cu cd : Int) (w : World) (HC : Hid (∀ W, Calls Try.prog 17 #[.agg #[.int .i64 t, .int .i64 mi, .int .i64 ma, .int .i64 up, .int .i64 dn, .int .i64 cu, .int .i64 cd]] W fun e w' => e = .returned (.int .i64 2) ∧ Below W.heap.size W w')) : Calls Try.prog 9 #[.agg #[.int .i64 t, .int .i64 mi, .int .i64 ma, .int .i64 up, .int .i64 dn, .int .i64 cu, .int .i64 cd]] w fun e w' => e = .returned (.tuple #[.agg #[.int .i64 0, .int .i64 0], .int .i64 2]) ∧ Below w.heap.size w w' := by
  go_enter Try.func9, Try.ntmps9
  go_wp2_with fail
  refine (HC.out _).mono ?_
  rintro e w' ⟨rfl, hb⟩
  obtain ⟨B1, B2, hB⟩ := box2 hb
  clear hb
  obtain ⟨d0, d1⟩ := B2.cells2
  obtain ⟨f0, f1, _, _⟩ := B2.frozen4
  have l2 := B2.lt
  go_wp2
  refine bodyPost_ret (v := .tuple #[.agg #[.int .i64 0, .int .i64 0], .int .i64 2]) ?_ rfl ⟨rfl, below_set2 hB (by omega) _ _⟩
  simp [results, Try.results9, go_sem, d0, d1]
set_option maxHeartbeats 400000 in
theorem start_yes (t mi ma up dn cu cd : Int) (w : World) (HC : Hid (∀ W, Calls Try.prog 17 #[.agg #[.int .i64 t, .int .i64 mi, .int .i64 ma, .int .i64 up, .int .i64 dn, .int .i64 cu, .int .i64 cd]] W fun e w' => e = .returned (.int .i64 0) ∧ Below W.heap.size W w')) : Calls Try.prog 9 #[.agg #[.int .i64 t, .int .i64 mi, .int .i64 ma, .int .i64 up, .int .i64 dn, .int .i64 cu, .int .i64 cd]] w fun e w' => e = .returned (.tuple #[.agg #[.int .i64 mi, .int .i64 (-1)], .int .i64 0]) ∧ Below w.heap.size w w' := by
  go_enter Try.func9, Try.ntmps9
  go_wp2_with fail
  refine (HC.out _).mono ?_
  rintro e w' ⟨rfl, hb⟩
  obtain ⟨B1, B2, hB⟩ := box2 hb
  clear hb
  obtain ⟨c0, c1, c2, c3, c4, c5, c6⟩ := B1.cells7
  obtain ⟨d0, d1⟩ := B2.cells2
  obtain ⟨f0, f1, _, _⟩ := B2.frozen4
  have l2 := B2.lt
  go_wp2
  refine bodyPost_ret (v := .tuple #[.agg #[.int .i64 mi, .int .i64 (-1)], .int .i64 0]) ?_ rfl ⟨rfl, below_set2 hB (by omega) _ _⟩
  simp [results, Try.results9, go_sem, d0, d1]

set_option maxHeartbeats 400000 in
theorem rstart_no (t mi ma up dn cu cd : Int) (w : World) (HC : Hid (∀ W, Calls Try.prog 18 #[.agg #[.int .i64 t, .int .i64 mi, .int .i64 ma, .int .i64 up, .int .i64 dn, .int .i64 cu, .int .i64 cd]] W fun e w' => e = .returned (.int .i64 2) ∧ Below W.heap.size W w')) : Calls Try.prog 10 #[.agg #[.int .i64 t, .int .i64 mi, .int .i64 ma, .int .i64 up, .int .i64 dn, .int .i64 cu, .int .i64 cd]] w fun e w' => e = .returned (.tuple #[.agg #[.int .i64 0, .int .i64 0], .int .i64 2]) ∧ Below w.heap.size w w' := by
  go_enter Try.func10, Try.ntmps10
  go_wp2_with fail
  refine (HC.out _).mono ?_
  rintro e w' ⟨rfl, hb⟩
  obtain ⟨B1, B2, hB⟩ := box2 hb
  clear hb
  obtain ⟨d0, d1⟩ := B2.cells2
  obtain ⟨f0, f1, _, _⟩ := B2.frozen4
  have l2 := B2.lt
  go_wp2
  refine bodyPost_ret (v := .tuple #[.agg #[.int .i64 0, .int .i64 0], .int .i64 2]) ?_ rfl ⟨rfl, below_set2 hB (by omega) _ _⟩
  simp [results, Try.results10, go_sem, d0, d1]
set_option maxHeartbeats 400000 in
theorem rstart_yes (t mi ma up dn cu cd : Int) (w : World) (HC : Hid (∀ W, Calls Try.prog 18 #[.agg #[.int .i64 t, .int .i64 mi, .int .i64 ma, .int .i64 up, .int .i64 dn, .int .i64 cu, .int .i64 cd]] W fun e w' => e = .returned (.int .i64 0) ∧ Below W.heap.size W w')) : Calls Try.prog 10 #[.agg #[.int .i64 t, .int .i64 mi, .int .i64 ma, .int .i64 up, .int .i64 dn, .int .i64 cu, .int .i64 cd]] w fun e w' => e = .returned (.tuple #[.agg #[.int .i64 mi, .int .i64 (-1)], .int .i64 0]) ∧ Below w.heap.size w w' := by
  go_enter Try.func10, Try.ntmps10
  go_wp2_with fail
  refine (HC.out _).mono ?_
  rintro e w' ⟨rfl, hb⟩
  obtain ⟨B1, B2, hB⟩ := box2 hb
  clear hb
  obtain ⟨c0, c1, c2, c3, c4, c5, c6⟩ := B1.cells7
  obtain ⟨d0, d1⟩ := B2.cells2
  obtain ⟨f0, f1, _, _⟩ := B2.frozen4
  have l2 := B2.lt
  go_wp2
  refine bodyPost_ret (v := .tuple #[.agg #[.int .i64 mi, .int .i64 (-1)], .int .i64 0]) ?_ rfl ⟨rfl, below_set2 hB (by omega) _ _⟩
  simp [results, Try.results10, go_sem, d0, d1]


def stB (mi ma c ch : Int) : Bool := decide (mi ≤ c ∧ c ≤ ma ∧ -1 ≤ ch ∧ ch ≤ 1073741824)
theorem stB_iff (mi ma c ch : Int) : stB mi ma c ch = true ↔ (mi ≤ c ∧ c ≤ ma ∧ -1 ≤ ch ∧ ch ≤ 1073741824) := by simp [stB]
theorem st_cases (mi ma c ch : Int) (h : stB mi ma c ch = false) : (c < mi) ∨ (mi ≤ c ∧ ma < c) ∨ (mi ≤ c ∧ c ≤ ma ∧ ch < -1) ∨ (mi ≤ c ∧ c ≤ ma ∧ -1 ≤ ch ∧ 1073741824 < ch) := by
  have h2 : ¬ _ := fun hh => Bool.false_ne_true (h.symm.trans ((stB_iff mi ma c ch).2 hh))
  omega

set_option maxHeartbeats 400000 in
theorem state_err (t mi ma up dn cu cd c ch : Int) (w : World) (HC : Hid (∀ W, Calls Try.prog 17 #[.agg #[.int .i64 t, .int .i64 mi, .int .i64 ma, .int .i64 up, .int .i64 dn, .int .i64 cu, .int .i64 cd]] W fun e w' => e = .returned (.int .i64 2) ∧ Below W.heap.size W w')) : Calls Try.prog 25 #[.agg #[.int .i64 t, .int .i64 mi, .int .i64 ma, .int .i64 up, .int .i64 dn, .int .i64 cu, .int .i64 cd], .agg #[.int .i64 c, .int .i64 ch]] w fun e w' => e = .returned (.int .i64 2) ∧ Below w.heap.size w w' := by
  go_enter Try.func25, Try.ntmps25
  go_wp2_with fail
  refine (HC.out _).mono ?_
  rintro e w' ⟨rfl, hb⟩
  obtain ⟨B1, B2, hB⟩ := box2 hb
  clear hb
  go_wp2
  go_ret
  exact ⟨rfl, hB⟩
set_option maxHeartbeats 400000 in
theorem rstate_err (t mi ma up dn cu cd c ch : Int) (w : World) (HC : Hid (∀ W, Calls Try.prog 18 #[.agg #[.int .i64 t, .int .i64 mi, .int .i64 ma, .int .i64 up, .int .i64 dn, .int .i64 cu, .int .i64 cd]] W fun e w' => e = .returned (.int .i64 2) ∧ Below W.heap.size W w')) : Calls Try.prog 27 #[.agg #[.int .i64 t, .int .i64 mi, .int .i64 ma, .int .i64 up, .int .i64 dn, .int .i64 cu, .int .i64 cd], .agg #[.int .i64 c, .int .i64 ch]] w fun e w' => e = .returned (.int .i64 2) ∧ Below w.heap.size w w' := by
  go_enter Try.func27, Try.ntmps27
  go_wp2_with fail
  refine (HC.out _).mono ?_
  rintro e w' ⟨rfl, hb⟩
  obtain ⟨B1, B2, hB⟩ := box2 hb
  clear hb
  go_wp2
  go_ret
  exact ⟨rfl, hB⟩
set_option maxHeartbeats 400000 in
theorem state_yes (t mi ma up dn cu cd c ch : Int) (w : World) (HC : Hid (∀ W, Calls Try.prog 17 #[.agg #[.int .i64 t, .int .i64 mi, .int .i64 ma, .int .i64 up, .int .i64 dn, .int .i64 cu, .int .i64 cd]] W fun e w' => e = .returned (.int .i64 0) ∧ Below W.heap.size W w')) (h1 : mi ≤ c) (h2 : c ≤ ma) (h3 : -1 ≤ ch) (h4 : ch ≤ 1073741824) : Calls Try.prog 25 #[.agg #[.int .i64 t, .int .i64 mi, .int .i64 ma, .int .i64 up, .int .i64 dn, .int .i64 cu, .int .i64 cd], .agg #[.int .i64 c, .int .i64 ch]] w fun e w' => e = .returned (.int .i64 0) ∧ Below w.heap.size w w' := by
  go_enter Try.func25, Try.ntmps25
  go_wp2_with fail
  refine (HC.out _).mono ?_
  rintro e w' ⟨rfl, hb⟩
  obtain ⟨B1, B2, hB⟩ := box2 hb
  clear hb
  obtain ⟨c0, c1, c2, c3, c4, c5, c6⟩ := B1.cells7
  obtain ⟨d0, d1⟩ := B2.cells2
  go_wp2
  go_ret
  exact ⟨rfl, hB⟩
set_option maxHeartbeats 1000000 in
theorem state_no (t mi ma up dn cu cd c ch : Int) (w : World) (HC : Hid (∀ W, Calls Try.prog 17 #[.agg #[.int .i64 t, .int .i64 mi, .int .i64 ma, .int .i64 up, .int .i64 dn, .int .i64 cu, .int .i64 cd]] W fun e w' => e = .returned (.int .i64 0) ∧ Below W.heap.size W w')) (hs : stB mi ma c ch = false) : Calls Try.prog 25 #[.agg #[.int .i64 t, .int .i64 mi, .int .i64 ma, .int .i64 up, .int .i64 dn, .int .i64 cu, .int .i64 cd], .agg #[.int .i64 c, .int .i64 ch]] w fun e w' => e = .returned (.int .i64 2) ∧ Below w.heap.size w w' := by
  rcases st_cases mi ma c ch hs with h1 | ⟨h1, h2⟩ | ⟨h1, h2, h3⟩ | ⟨h1, h2, h3, h4⟩ <;> clear hs
  · go_enter Try.func25, Try.ntmps25
    go_wp2_with fail
    refine (HC.out _).mono ?_
    rintro e w' ⟨rfl, hb⟩
    obtain ⟨B1, B2, hB⟩ := box2 hb
    clear hb
    obtain ⟨c0, c1, c2, c3, c4, c5, c6⟩ := B1.cells7
    obtain ⟨d0, d1⟩ := B2.cells2
    go_wp2
    go_ret
    exact ⟨rfl, hB⟩
  · go_enter Try.func25, Try.ntmps25
    go_wp2_with fail
    refine (HC.out _).mono ?_
    rintro e w' ⟨rfl, hb⟩
    obtain ⟨B1, B2, hB⟩ := box2 hb
    clear hb
    obtain ⟨c0, c1, c2, c3, c4, c5, c6⟩ := B1.cells7
    obtain ⟨d0, d1⟩ := B2.cells2
    go_wp2
    go_ret
    exact ⟨rfl, hB⟩
  · go_enter Try.func25, Try.ntmps25
    go_wp2_with fail
    refine (HC.out _).mono ?_
    rintro e w' ⟨rfl, hb⟩
    obtain ⟨B1, B2, hB⟩ := box2 hb
    clear hb
    obtain ⟨c0, c1, c2, c3, c4, c5, c6⟩ := B1.cells7
    obtain ⟨d0, d1⟩ := B2.cells2
    go_wp2
    go_ret
    exact ⟨rfl, hB⟩
  · go_enter Try.func25, Try.ntmps25
    go_wp2_with fail
    refine (HC.out _).mono ?_
    rintro e w' ⟨rfl, hb⟩
    obtain ⟨B1, B2, hB⟩ := box2 hb
    clear hb
    obtain ⟨c0, c1, c2, c3, c4, c5, c6⟩ := B1.cells7
    obtain ⟨d0, d1⟩ := B2.cells2
    go_wp2
    go_ret
    exact ⟨rfl, hB⟩
set_option maxHeartbeats 400000 in
theorem rstate_yes (t mi ma up dn cu cd c ch : Int) (w : World) (HC : Hid (∀ W, Calls Try.prog 18 #[.agg #[.int .i64 t, .int .i64 mi, .int .i64 ma, .int .i64 up, .int .i64 dn, .int .i64 cu, .int .i64 cd]] W fun e w' => e = .returned (.int .i64 0) ∧ Below W.heap.size W w')) (h1 : mi ≤ c) (h2 : c ≤ ma) (h3 : -1 ≤ ch) (h4 : ch ≤ 1073741824) : Calls Try.prog 27 #[.agg #[.int .i64 t, .int .i64 mi, .int .i64 ma, .int .i64 up, .int .i64 dn, .int .i64 cu, .int .i64 cd], .agg #[.int .i64 c, .int .i64 ch]] w fun e w' => e = .returned (.int .i64 0) ∧ Below w.heap.size w w' := by
  go_enter Try.func27, Try.ntmps27
  go_wp2_with fail
  refine (HC.out _).mono ?_
  rintro e w' ⟨rfl, hb⟩
  obtain ⟨B1, B2, hB⟩ := box2 hb
  clear hb
  obtain ⟨c0, c1, c2, c3, c4, c5, c6⟩ := B1.cells7
  obtain ⟨d0, d1⟩ := B2.cells2
  go_wp2_with fail
  refine (rin_yes _ _ _ _ (by omega) (by omega)).mono ?_
  rintro e w2 ⟨rfl, rfl⟩
  go_wp2_with fail
  refine (rin_yes _ _ _ _ (by omega) (by omega)).mono ?_
  rintro e w2 ⟨rfl, rfl⟩
  go_wp2
  go_ret
  exact ⟨rfl, hB⟩
set_option maxHeartbeats 1000000 in
theorem rstate_no (t mi ma up dn cu cd c ch : Int) (w : World) (HC : Hid (∀ W, Calls Try.prog 18 #[.agg #[.int .i64 t, .int .i64 mi, .int .i64 ma, .int .i64 up, .int .i64 dn, .int .i64 cu, .int .i64 cd]] W fun e w' => e = .returned (.int .i64 0) ∧ Below W.heap.size W w')) (hs : stB mi ma c ch = false) : Calls Try.prog 27 #[.agg #[.int .i64 t, .int .i64 mi, .int .i64 ma, .int .i64 up, .int .i64 dn, .int .i64 cu, .int .i64 cd], .agg #[.int .i64 c, .int .i64 ch]] w fun e w' => e = .returned (.int .i64 2) ∧ Below w.heap.size w w' := by
  rcases st_cases mi ma c ch hs with h1 | ⟨h1, h2⟩ | ⟨h1, h2, h3⟩ | ⟨h1, h2, h3, h4⟩ <;> clear hs
  · go_enter Try.func27, Try.ntmps27
    go_wp2_with fail
    refine (HC.out _).mono ?_
    rintro e w' ⟨rfl, hb⟩
    obtain ⟨B1, B2, hB⟩ := box2 hb
    clear hb
    obtain ⟨c0, c1, c2, c3, c4, c5, c6⟩ := B1.cells7
    obtain ⟨d0, d1⟩ := B2.cells2
    go_wp2_with fail
    refine (rin_no _ _ _ _ (by omega)).mono ?_
    rintro e w2 ⟨rfl, rfl⟩
    go_wp2
    go_ret
    exact ⟨rfl, hB⟩
  · go_enter Try.func27, Try.ntmps27
    go_wp2_with fail
    refine (HC.out _).mono ?_
    rintro e w' ⟨rfl, hb⟩
    obtain ⟨B1, B2, hB⟩ := box2 hb
    clear hb
    obtain ⟨c0, c1, c2, c3, c4, c5, c6⟩ := B1.cells7
    obtain ⟨d0, d1⟩ := B2.cells2
    go_wp2_with fail
    refine (rin_no _ _ _ _ (by omega)).mono ?_
    rintro e w2 ⟨rfl, rfl⟩
    go_wp2
    go_ret
    exact ⟨rfl, hB⟩
  · go_enter Try.func27, Try.ntmps27
    go_wp2_with fail
    refine (HC.out _).mono ?_
    rintro e w' ⟨rfl, hb⟩
    obtain ⟨B1, B2, hB⟩ := box2 hb
    clear hb
    obtain ⟨c0, c1, c2, c3, c4, c5, c6⟩ := B1.cells7
    obtain ⟨d0, d1⟩ := B2.cells2
    go_wp2_with fail
    refine (rin_yes _ _ _ _ (by omega) (by omega)).mono ?_
    rintro e w2 ⟨rfl, rfl⟩
    go_wp2_with fail
    refine (rin_no _ _ _ _ (by omega)).mono ?_
    rintro e w2 ⟨rfl, rfl⟩
    go_wp2
    go_ret
    exact ⟨rfl, hB⟩
  · go_enter Try.func27, Try.ntmps27
    go_wp2_with fail
    refine (HC.out _).mono ?_
    rintro e w' ⟨rfl, hb⟩
    obtain ⟨B1, B2, hB⟩ := box2 hb
    clear hb
    obtain ⟨c0, c1, c2, c3, c4, c5, c6⟩ := B1.cells7
    obtain ⟨d0, d1⟩ := B2.cells2
    go_wp2_with fail
    refine (rin_yes _ _ _ _ (by omega) (by omega)).mono ?_
    rintro e w2 ⟨rfl, rfl⟩
    go_wp2_with fail
    refine (rin_no _ _ _ _ (by omega)).mono ?_
    rintro e w2 ⟨rfl, rfl⟩
    go_wp2
    go_ret
    exact ⟨rfl, hB⟩


end Go.Proofs.Ytndpecjkoffebaa
