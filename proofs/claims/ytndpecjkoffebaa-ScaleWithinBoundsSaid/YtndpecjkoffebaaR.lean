/- The walks of ScaleWithinBounds and ScalePlays of layer 42. -/
import Derived.Test.YtndpecjkoffebaaQ
namespace Go.Proofs.Ytndpecjkoffebaa
open Go.ChangeShapes Go.WideShapes Go.ChangeAt Go.RowKit
attribute [local go_sem high] eql25

set_option maxHeartbeats 1000000 in
theorem within_err (t mi ma up dn cu cd c ch load now e0 : Int) (w : World) (h1 : Hid (∀ W, Calls Try.prog 13 #[.agg #[.int .i64 t, .int .i64 mi, .int .i64 ma, .int .i64 up, .int .i64 dn, .int .i64 cu, .int .i64 cd], .agg #[.int .i64 c, .int .i64 ch], .int .i64 load, .int .i64 now] W fun e w' => e = .returned (.tuple #[.agg #[.int .i64 0, .int .i64 0], .int .i64 e0]) ∧ Below W.heap.size W w')) (h : (e0 != 0) = true) : Calls Try.prog 5 #[.agg #[.int .i64 t, .int .i64 mi, .int .i64 ma, .int .i64 up, .int .i64 dn, .int .i64 cu, .int .i64 cd], .agg #[.int .i64 c, .int .i64 ch], .int .i64 load, .int .i64 now] w fun e w' => e = .returned (.bool true) ∧ Below w.heap.size w w' := by
  have hq := eq2_self 0 0
  go_enter Try.func5, Try.ntmps5
  go_wp2_with fail
  refine (h1.out _).mono ?_
  rintro _ wx1 ⟨rfl, hb⟩
  have P := ((Box.new w 23 #[.int .i64 t, .int .i64 mi, .int .i64 ma, .int .i64 up, .int .i64 dn, .int .i64 cu, .int .i64 cd]).alloc _).next hb
  have S := ((Box.new ((w).alloc (.cells #[.int .i64 t, .int .i64 mi, .int .i64 ma, .int .i64 up, .int .i64 dn, .int .i64 cu, .int .i64 cd] 23)) 25 #[.int .i64 c, .int .i64 ch])).next hb
  simp only [World.size_alloc] at S
  have hB := below_step (below_box (below_box (Below.refl _ w) _) _) hb
  clear hb
  have cP_0 := P.cell 0 _ rfl
  have cP_1 := P.cell 1 _ rfl
  have cP_2 := P.cell 2 _ rfl
  have cP_3 := P.cell 3 _ rfl
  have cP_4 := P.cell 4 _ rfl
  have cP_5 := P.cell 5 _ rfl
  have cP_6 := P.cell 6 _ rfl
  have lP := P.lt
  have cS_0 := S.cell 0 _ rfl
  have cS_1 := S.cell 1 _ rfl
  have lS := S.lt
  go_wp2_with fail
  refine (awake_any _).mono ?_
  rintro _ wx2 ⟨rfl, hb⟩
  clear cP_0 cP_1 cP_2 cP_3 cP_4 cP_5 cP_6 lP cS_0 cS_1 lS
  replace P := (P.alloc _).next hb
  replace S := (S.alloc _).next hb
  have T := ((Box.new wx1 25 #[.int .i64 0, .int .i64 0])).next hb
  replace hB := below_step (below_box hB _) hb
  clear hb
  go_wp2
  go_ret
  exact ⟨rfl, hB⟩
set_option maxHeartbeats 1000000 in
theorem within_up (t mi ma up dn cu cd c ch load now d c' : Int) (w : World) (h1 : Hid (∀ W, Calls Try.prog 13 #[.agg #[.int .i64 t, .int .i64 mi, .int .i64 ma, .int .i64 up, .int .i64 dn, .int .i64 cu, .int .i64 cd], .agg #[.int .i64 c, .int .i64 ch], .int .i64 load, .int .i64 now] W fun e w' => e = .returned (.tuple #[.agg #[.int .i64 c', .int .i64 now], .int .i64 0]) ∧ Below W.heap.size W w')) (h2 : Hid (∀ W, Calls Try.prog 11 #[.agg #[.int .i64 t, .int .i64 mi, .int .i64 ma, .int .i64 up, .int .i64 dn, .int .i64 cu, .int .i64 cd], .int .i64 load] W fun e w' => e = .returned (.tuple #[.int .i64 d, .int .i64 0]) ∧ Below W.heap.size W w'))
    (_p1 : 0 ≤ mi) (_p2 : ma ≤ 1000) (p3 : 1 ≤ up) (p4 : up ≤ 1000) (_p5 : 1 ≤ dn) (_p6 : dn ≤ 1000) (_p7 : mi ≤ c) (_p8 : c ≤ ma) (p9 : mi ≤ d) (pa : d ≤ ma) (pb : mi ≤ c') (pc : c' ≤ ma) (g1 : c < c') (g2 : c' - c ≤ up) (g3 : c' ≤ d) : Calls Try.prog 5 #[.agg #[.int .i64 t, .int .i64 mi, .int .i64 ma, .int .i64 up, .int .i64 dn, .int .i64 cu, .int .i64 cd], .agg #[.int .i64 c, .int .i64 ch], .int .i64 load, .int .i64 now] w fun e w' => e = .returned (.bool true) ∧ Below w.heap.size w w' := by
  go_enter Try.func5, Try.ntmps5
  go_wp2_with fail
  refine (h1.out _).mono ?_
  rintro _ wx1 ⟨rfl, hb⟩
  have P := ((Box.new w 23 #[.int .i64 t, .int .i64 mi, .int .i64 ma, .int .i64 up, .int .i64 dn, .int .i64 cu, .int .i64 cd]).alloc _).next hb
  have S := ((Box.new ((w).alloc (.cells #[.int .i64 t, .int .i64 mi, .int .i64 ma, .int .i64 up, .int .i64 dn, .int .i64 cu, .int .i64 cd] 23)) 25 #[.int .i64 c, .int .i64 ch])).next hb
  simp only [World.size_alloc] at S
  have hB := below_step (below_box (below_box (Below.refl _ w) _) _) hb
  clear hb
  have cP_0 := P.cell 0 _ rfl
  have cP_1 := P.cell 1 _ rfl
  have cP_2 := P.cell 2 _ rfl
  have cP_3 := P.cell 3 _ rfl
  have cP_4 := P.cell 4 _ rfl
  have cP_5 := P.cell 5 _ rfl
  have cP_6 := P.cell 6 _ rfl
  have lP := P.lt
  have cS_0 := S.cell 0 _ rfl
  have cS_1 := S.cell 1 _ rfl
  have lS := S.lt
  go_wp2_with fail
  refine (h2.out _).mono ?_
  rintro _ wx2 ⟨rfl, hb⟩
  clear cP_0 cP_1 cP_2 cP_3 cP_4 cP_5 cP_6 lP cS_0 cS_1 lS
  replace P := (P.alloc _).next hb
  replace S := (S.alloc _).next hb
  have T := ((Box.new wx1 25 #[.int .i64 c', .int .i64 now])).next hb
  replace hB := below_step (below_box hB _) hb
  clear hb
  have cP_0 := P.cell 0 _ rfl
  have cP_1 := P.cell 1 _ rfl
  have cP_2 := P.cell 2 _ rfl
  have cP_3 := P.cell 3 _ rfl
  have cP_4 := P.cell 4 _ rfl
  have cP_5 := P.cell 5 _ rfl
  have cP_6 := P.cell 6 _ rfl
  have lP := P.lt
  have cS_0 := S.cell 0 _ rfl
  have cS_1 := S.cell 1 _ rfl
  have lS := S.lt
  have cT_0 := T.cell 0 _ rfl
  have cT_1 := T.cell 1 _ rfl
  have lT := T.lt
  go_wp2_with fail
  refine (awake_any _).mono ?_
  rintro _ wx3 ⟨rfl, hb⟩
  clear cP_0 cP_1 cP_2 cP_3 cP_4 cP_5 cP_6 lP cS_0 cS_1 lS cT_0 cT_1 lT
  replace P := (P).next hb
  replace S := (S).next hb
  replace T := (T).next hb
  replace hB := below_step hB hb
  clear hb
  go_wp2
  go_ret
  exact ⟨rfl, hB⟩
set_option maxHeartbeats 1000000 in
theorem within_dn (t mi ma up dn cu cd c ch load now d c' : Int) (w : World) (h1 : Hid (∀ W, Calls Try.prog 13 #[.agg #[.int .i64 t, .int .i64 mi, .int .i64 ma, .int .i64 up, .int .i64 dn, .int .i64 cu, .int .i64 cd], .agg #[.int .i64 c, .int .i64 ch], .int .i64 load, .int .i64 now] W fun e w' => e = .returned (.tuple #[.agg #[.int .i64 c', .int .i64 now], .int .i64 0]) ∧ Below W.heap.size W w')) (h2 : Hid (∀ W, Calls Try.prog 11 #[.agg #[.int .i64 t, .int .i64 mi, .int .i64 ma, .int .i64 up, .int .i64 dn, .int .i64 cu, .int .i64 cd], .int .i64 load] W fun e w' => e = .returned (.tuple #[.int .i64 d, .int .i64 0]) ∧ Below W.heap.size W w'))
    (_p1 : 0 ≤ mi) (_p2 : ma ≤ 1000) (_p3 : 1 ≤ up) (_p4 : up ≤ 1000) (p5 : 1 ≤ dn) (p6 : dn ≤ 1000) (_p7 : mi ≤ c) (_p8 : c ≤ ma) (p9 : mi ≤ d) (pa : d ≤ ma) (pb : mi ≤ c') (pc : c' ≤ ma) (g1 : c' < c) (g2 : c - c' ≤ dn) (g3 : d ≤ c') : Calls Try.prog 5 #[.agg #[.int .i64 t, .int .i64 mi, .int .i64 ma, .int .i64 up, .int .i64 dn, .int .i64 cu, .int .i64 cd], .agg #[.int .i64 c, .int .i64 ch], .int .i64 load, .int .i64 now] w fun e w' => e = .returned (.bool true) ∧ Below w.heap.size w w' := by
  go_enter Try.func5, Try.ntmps5
  go_wp2_with fail
  refine (h1.out _).mono ?_
  rintro _ wx1 ⟨rfl, hb⟩
  have P := ((Box.new w 23 #[.int .i64 t, .int .i64 mi, .int .i64 ma, .int .i64 up, .int .i64 dn, .int .i64 cu, .int .i64 cd]).alloc _).next hb
  have S := ((Box.new ((w).alloc (.cells #[.int .i64 t, .int .i64 mi, .int .i64 ma, .int .i64 up, .int .i64 dn, .int .i64 cu, .int .i64 cd] 23)) 25 #[.int .i64 c, .int .i64 ch])).next hb
  simp only [World.size_alloc] at S
  have hB := below_step (below_box (below_box (Below.refl _ w) _) _) hb
  clear hb
  have cP_0 := P.cell 0 _ rfl
  have cP_1 := P.cell 1 _ rfl
  have cP_2 := P.cell 2 _ rfl
  have cP_3 := P.cell 3 _ rfl
  have cP_4 := P.cell 4 _ rfl
  have cP_5 := P.cell 5 _ rfl
  have cP_6 := P.cell 6 _ rfl
  have lP := P.lt
  have cS_0 := S.cell 0 _ rfl
  have cS_1 := S.cell 1 _ rfl
  have lS := S.lt
  go_wp2_with fail
  refine (h2.out _).mono ?_
  rintro _ wx2 ⟨rfl, hb⟩
  clear cP_0 cP_1 cP_2 cP_3 cP_4 cP_5 cP_6 lP cS_0 cS_1 lS
  replace P := (P.alloc _).next hb
  replace S := (S.alloc _).next hb
  have T := ((Box.new wx1 25 #[.int .i64 c', .int .i64 now])).next hb
  replace hB := below_step (below_box hB _) hb
  clear hb
  have cP_0 := P.cell 0 _ rfl
  have cP_1 := P.cell 1 _ rfl
  have cP_2 := P.cell 2 _ rfl
  have cP_3 := P.cell 3 _ rfl
  have cP_4 := P.cell 4 _ rfl
  have cP_5 := P.cell 5 _ rfl
  have cP_6 := P.cell 6 _ rfl
  have lP := P.lt
  have cS_0 := S.cell 0 _ rfl
  have cS_1 := S.cell 1 _ rfl
  have lS := S.lt
  have cT_0 := T.cell 0 _ rfl
  have cT_1 := T.cell 1 _ rfl
  have lT := T.lt
  go_wp2_with fail
  refine (awake_any _).mono ?_
  rintro _ wx3 ⟨rfl, hb⟩
  clear cP_0 cP_1 cP_2 cP_3 cP_4 cP_5 cP_6 lP cS_0 cS_1 lS cT_0 cT_1 lT
  replace P := (P).next hb
  replace S := (S).next hb
  replace T := (T).next hb
  replace hB := below_step hB hb
  clear hb
  go_wp2
  go_ret
  exact ⟨rfl, hB⟩
set_option maxHeartbeats 1000000 in
theorem within_eq (t mi ma up dn cu cd c ch load now d : Int) (w : World) (h1 : Hid (∀ W, Calls Try.prog 13 #[.agg #[.int .i64 t, .int .i64 mi, .int .i64 ma, .int .i64 up, .int .i64 dn, .int .i64 cu, .int .i64 cd], .agg #[.int .i64 c, .int .i64 ch], .int .i64 load, .int .i64 now] W fun e w' => e = .returned (.tuple #[.agg #[.int .i64 c, .int .i64 ch], .int .i64 0]) ∧ Below W.heap.size W w')) (h2 : Hid (∀ W, Calls Try.prog 11 #[.agg #[.int .i64 t, .int .i64 mi, .int .i64 ma, .int .i64 up, .int .i64 dn, .int .i64 cu, .int .i64 cd], .int .i64 load] W fun e w' => e = .returned (.tuple #[.int .i64 d, .int .i64 0]) ∧ Below W.heap.size W w'))
    (_p1 : 0 ≤ mi) (_p2 : ma ≤ 1000) (_p3 : 1 ≤ up) (_p4 : up ≤ 1000) (_p5 : 1 ≤ dn) (_p6 : dn ≤ 1000) (p7 : mi ≤ c) (p8 : c ≤ ma) (p9 : mi ≤ d) (pa : d ≤ ma) (_pb : mi ≤ c) (_pc : c ≤ ma)  : Calls Try.prog 5 #[.agg #[.int .i64 t, .int .i64 mi, .int .i64 ma, .int .i64 up, .int .i64 dn, .int .i64 cu, .int .i64 cd], .agg #[.int .i64 c, .int .i64 ch], .int .i64 load, .int .i64 now] w fun e w' => e = .returned (.bool true) ∧ Below w.heap.size w w' := by
  have hq := eq2_self c ch
  go_enter Try.func5, Try.ntmps5
  go_wp2_with fail
  refine (h1.out _).mono ?_
  rintro _ wx1 ⟨rfl, hb⟩
  have P := ((Box.new w 23 #[.int .i64 t, .int .i64 mi, .int .i64 ma, .int .i64 up, .int .i64 dn, .int .i64 cu, .int .i64 cd]).alloc _).next hb
  have S := ((Box.new ((w).alloc (.cells #[.int .i64 t, .int .i64 mi, .int .i64 ma, .int .i64 up, .int .i64 dn, .int .i64 cu, .int .i64 cd] 23)) 25 #[.int .i64 c, .int .i64 ch])).next hb
  simp only [World.size_alloc] at S
  have hB := below_step (below_box (below_box (Below.refl _ w) _) _) hb
  clear hb
  have cP_0 := P.cell 0 _ rfl
  have cP_1 := P.cell 1 _ rfl
  have cP_2 := P.cell 2 _ rfl
  have cP_3 := P.cell 3 _ rfl
  have cP_4 := P.cell 4 _ rfl
  have cP_5 := P.cell 5 _ rfl
  have cP_6 := P.cell 6 _ rfl
  have lP := P.lt
  have cS_0 := S.cell 0 _ rfl
  have cS_1 := S.cell 1 _ rfl
  have lS := S.lt
  go_wp2_with fail
  refine (h2.out _).mono ?_
  rintro _ wx2 ⟨rfl, hb⟩
  clear cP_0 cP_1 cP_2 cP_3 cP_4 cP_5 cP_6 lP cS_0 cS_1 lS
  replace P := (P.alloc _).next hb
  replace S := (S.alloc _).next hb
  have T := ((Box.new wx1 25 #[.int .i64 c, .int .i64 ch])).next hb
  replace hB := below_step (below_box hB _) hb
  clear hb
  have cP_0 := P.cell 0 _ rfl
  have cP_1 := P.cell 1 _ rfl
  have cP_2 := P.cell 2 _ rfl
  have cP_3 := P.cell 3 _ rfl
  have cP_4 := P.cell 4 _ rfl
  have cP_5 := P.cell 5 _ rfl
  have cP_6 := P.cell 6 _ rfl
  have lP := P.lt
  have cS_0 := S.cell 0 _ rfl
  have cS_1 := S.cell 1 _ rfl
  have lS := S.lt
  have cT_0 := T.cell 0 _ rfl
  have cT_1 := T.cell 1 _ rfl
  have lT := T.lt
  go_wp2_with fail
  refine (awake_any _).mono ?_
  rintro _ wx3 ⟨rfl, hb⟩
  clear cP_0 cP_1 cP_2 cP_3 cP_4 cP_5 cP_6 lP cS_0 cS_1 lS cT_0 cT_1 lT
  replace P := (P).next hb
  replace S := (S).next hb
  replace T := (T).next hb
  replace hB := below_step hB hb
  clear hb
  go_wp2
  go_ret
  exact ⟨rfl, hB⟩
theorem within_walk (t mi ma up dn cu cd c ch load now : Int) (w : World) : Calls Try.prog 5 #[.agg #[.int .i64 t, .int .i64 mi, .int .i64 ma, .int .i64 up, .int .i64 dn, .int .i64 cu, .int .i64 cd], .agg #[.int .i64 c, .int .i64 ch], .int .i64 load, .int .i64 now] w fun e w' => e = .returned (.bool true) ∧ Below w.heap.size w w' := by
  have h1 : Hid (∀ W, _) := fun W => next_any t mi ma up dn cu cd c ch load now W
  by_cases he : (nextV t mi ma up dn cu cd c ch load now).e = 0
  · obtain ⟨hd, hs⟩ := next_step t mi ma up dn cu cd c ch load now he
    have h2 : Hid (∀ W, _) := fun W => des_any t mi ma up dn cu cd load W
    rw [hd] at h2
    rw [he] at h1
    generalize (nextV t mi ma up dn cu cd c ch load now).c = c' at *
    generalize (nextV t mi ma up dn cu cd c ch load now).h = h' at *
    generalize desI t mi ma load = d at *
    obtain ⟨p1, p2, p3, p4, p5, p6, p7, p8, p9, pa, pb, pc, hc⟩ := hs
    rcases hc with ⟨g1, g2, g3, rfl⟩ | ⟨g1, g2, g3, rfl⟩ | ⟨rfl, rfl⟩
    · exact within_up t mi ma up dn cu cd c ch load _ d c' w h1 h2 p1 p2 p3 p4 p5 p6 p7 p8 p9 pa pb pc g1 g2 g3
    · exact within_dn t mi ma up dn cu cd c ch load _ d c' w h1 h2 p1 p2 p3 p4 p5 p6 p7 p8 p9 pa pb pc g1 g2 g3
    · exact within_eq t mi ma up dn cu cd _ _ load now d w h1 h2 p1 p2 p3 p4 p5 p6 p7 p8 p9 pa pb pc
  · obtain ⟨e1, e2⟩ := next_err t mi ma up dn cu cd c ch load now he
    rw [e1, e2] at h1
    exact within_err t mi ma up dn cu cd c ch load now _ w h1 (bne_true he)
theorem scaleWithinBounds_walk (t mi ma up dn cu cd : Int) (c ch : Int) (load now : Int) (w : World) (_ : (Lit.int .i64 t).wf = true) (_ : (Lit.int .i64 mi).wf = true) (_ : (Lit.int .i64 ma).wf = true) (_ : (Lit.int .i64 up).wf = true) (_ : (Lit.int .i64 dn).wf = true) (_ : (Lit.int .i64 cu).wf = true) (_ : (Lit.int .i64 cd).wf = true) (_ : (Lit.int .i64 c).wf = true) (_ : (Lit.int .i64 ch).wf = true) (_ : (Lit.int .i64 load).wf = true) (_ : (Lit.int .i64 now).wf = true) : Calls Try.prog 5 #[.agg #[.int .i64 t, .int .i64 mi, .int .i64 ma, .int .i64 up, .int .i64 dn, .int .i64 cu, .int .i64 cd], .agg #[.int .i64 c, .int .i64 ch], .int .i64 load, .int .i64 now] w fun e w' => e = .returned (.bool true) ∧ Below w.heap.size w w' := within_walk t mi ma up dn cu cd c ch load now w

set_option maxHeartbeats 1000000 in
theorem plays_long (t mi ma up dn cu cd c ch now : Int) (A : Option Addr) (n cap : Nat) (w : World) (hl : decide ((300 : Int) < (n : Int)) = true) : Calls Try.prog 4 #[.agg #[.int .i64 t, .int .i64 mi, .int .i64 ma, .int .i64 up, .int .i64 dn, .int .i64 cu, .int .i64 cd], .agg #[.int .i64 c, .int .i64 ch], .slice A n cap, .int .i64 now] w fun e w' => e = .returned (.bool true) ∧ Below w.heap.size w w' := by
  go_enter Try.func4, Try.ntmps4
  go_wp2_with fail
  refine (awake_any _).mono ?_
  rintro _ wx1 ⟨rfl, hb⟩
  have P := ((Box.new w 23 #[.int .i64 t, .int .i64 mi, .int .i64 ma, .int .i64 up, .int .i64 dn, .int .i64 cu, .int .i64 cd]).alloc _).next hb
  have S := ((Box.new ((w).alloc (.cells #[.int .i64 t, .int .i64 mi, .int .i64 ma, .int .i64 up, .int .i64 dn, .int .i64 cu, .int .i64 cd] 23)) 25 #[.int .i64 c, .int .i64 ch])).next hb
  simp only [World.size_alloc] at S
  have hB := below_step (below_box (below_box (Below.refl _ w) _) _) hb
  clear hb
  go_wp2
  go_ret
  exact ⟨rfl, hB⟩
theorem drewN_below (w : World) (n : Nat) : Below w.heap.size w (w.drewN n) := ⟨rfl, rfl, rfl, Nat.le_refl _, fun _ _ => rfl⟩
def CmpRel (n : Nat) (zs : List Int) (w : World) (A B : Option Addr) (i : Value) (wr : World) : Prop :=
  ∃ k : Nat, i = .int .i64 k ∧ k ≤ n ∧ Seg wr A n (ints zs) ∧ Seg wr B n (ints zs) ∧ Below w.heap.size w wr
set_option maxHeartbeats 1000000 in
theorem plays_main (t mi ma up dn cu cd c ch now e0 : Int) (A : Option Addr) (n cap : Nat) (ls zs : List Int) (w : World) (hls : Hid (Seg w A n (ints ls))) (hl : decide ((300 : Int) < (n : Int)) = false) (hz : zs.length ≤ 300)
    (h1 : Hid (∀ W, Seg W A n (ints ls) → Calls Try.prog 20 #[.agg #[.int .i64 t, .int .i64 mi, .int .i64 ma, .int .i64 up, .int .i64 dn, .int .i64 cu, .int .i64 cd], .agg #[.int .i64 c, .int .i64 ch], .slice A n cap, .int .i64 now] W (ListOut W ⟨zs, e0⟩)))
    (h2 : Hid (∀ W, Seg W A n (ints ls) → Calls Try.prog 21 #[.agg #[.int .i64 t, .int .i64 mi, .int .i64 ma, .int .i64 up, .int .i64 dn, .int .i64 cu, .int .i64 cd], .agg #[.int .i64 c, .int .i64 ch], .slice A n cap, .int .i64 now] W (ListOut W ⟨zs, e0⟩))) : Calls Try.prog 4 #[.agg #[.int .i64 t, .int .i64 mi, .int .i64 ma, .int .i64 up, .int .i64 dn, .int .i64 cu, .int .i64 cd], .agg #[.int .i64 c, .int .i64 ch], .slice A n cap, .int .i64 now] w fun e w' => e = .returned (.bool true) ∧ Below w.heap.size w w' := by
  go_enter Try.func4, Try.ntmps4
  have b0 := below_box (below_box (Below.refl _ w) (.cells #[.int .i64 t, .int .i64 mi, .int .i64 ma, .int .i64 up, .int .i64 dn, .int .i64 cu, .int .i64 cd] 23)) (.cells #[.int .i64 c, .int .i64 ch] 25)
  go_wp2_with fail
  refine (h1.out _ (hls.out.next b0)).mono ?_
  rintro _ wx1 ⟨v1, rfl, o1, hb⟩
  have P := ((Box.new w 23 #[.int .i64 t, .int .i64 mi, .int .i64 ma, .int .i64 up, .int .i64 dn, .int .i64 cu, .int .i64 cd]).alloc _).next hb
  have S := ((Box.new ((w).alloc (.cells #[.int .i64 t, .int .i64 mi, .int .i64 ma, .int .i64 up, .int .i64 dn, .int .i64 cu, .int .i64 cd] 23)) 25 #[.int .i64 c, .int .i64 ch])).next hb
  simp only [World.size_alloc] at S
  have hB := below_step (below_box (below_box (Below.refl _ w) _) _) hb
  clear hb
  have cP_0 := P.cell 0 _ rfl
  have cP_1 := P.cell 1 _ rfl
  have cP_2 := P.cell 2 _ rfl
  have cP_3 := P.cell 3 _ rfl
  have cP_4 := P.cell 4 _ rfl
  have cP_5 := P.cell 5 _ rfl
  have cP_6 := P.cell 6 _ rfl
  have lP := P.lt
  have cS_0 := S.cell 0 _ rfl
  have cS_1 := S.cell 1 _ rfl
  have lS := S.lt
  obtain ⟨A1, cap1, rfl, q1, hn1, _⟩ := own_ints o1
  clear o1 hn1 b0
  go_wp2_with fail
  refine (h2.out _ (hls.out.next hB)).mono ?_
  rintro _ wx2 ⟨v2, rfl, o2, hb⟩
  clear cP_0 cP_1 cP_2 cP_3 cP_4 cP_5 cP_6 lP cS_0 cS_1 lS
  replace P := (P).next hb
  replace S := (S).next hb
  replace q1 := q1.next hb
  replace hB := below_step hB hb
  clear hb
  have cP_0 := P.cell 0 _ rfl
  have cP_1 := P.cell 1 _ rfl
  have cP_2 := P.cell 2 _ rfl
  have cP_3 := P.cell 3 _ rfl
  have cP_4 := P.cell 4 _ rfl
  have cP_5 := P.cell 5 _ rfl
  have cP_6 := P.cell 6 _ rfl
  have lP := P.lt
  have cS_0 := S.cell 0 _ rfl
  have cS_1 := S.cell 1 _ rfl
  have lS := S.lt
  obtain ⟨A2, cap2, rfl, q2, hn2, _⟩ := own_ints o2
  clear o2 hn2
  clear cP_0 cP_1 cP_2 cP_3 cP_4 cP_5 cP_6 lP cS_0 cS_1 lS
  generalize hm : (LR.mk zs e0).l.length = m at *
  replace hm : m ≤ 300 := by have : zs.length = m := hm; omega
  have Q1 := Lib.hid q1
  have Q2 := Lib.hid q2
  clear q1 q2 P S
  go_wp2_with fail
  go_loopw [46] (CmpRel m zs w A1 A2) (fun i _ => m - (intOf i).toNat)
  case atStart => exact ⟨0, rfl, by omega, Q1.out, Q2.out, hB⟩
  case round =>
    clear Q1 Q2 hB
    obtain ⟨k, rfl, hk, q1, q2, hB⟩ := hrel
    have Q1 := Lib.hid q1
    have Q2 := Lib.hid q2
    clear q1 q2
    by_cases hlt : k < m
    · obtain ⟨b1, o1, rfl, hb1, hc1⟩ := Q1.out k hlt
      obtain ⟨b2, o2, rfl, hb2, hc2⟩ := Q2.out k hlt
      replace hc1 : wr.cell? ⟨b1, o1 + k, none⟩ = some (.int .i64 (zs.getD k 0)) := hc1
      replace hc2 : wr.cell? ⟨b2, o2 + k, none⟩ = some (.int .i64 (zs.getD k 0)) := hc2
      generalize zs.getD k 0 = x at *
      go_upto_region 10 with fail
      go_quiet (fail)
      have hd := drewN_below wr nq
      generalize wr.drewN nq = w9 at *
      go_wp2
      go_roundw
      case rel => exact ⟨k + 1, by go_num, by omega, Q1.out.next hd, Q2.out.next hd, below_step hB hd⟩
      case measure => simp [intOf]; omega
    · have hkm : (m : Int) ≤ k := by omega
      go_wp2_with fail
      refine (awake_any _).mono ?_
      rintro _ wz ⟨rfl, hb⟩
      go_wp2
      go_ret
      exact ⟨rfl, below_step hB hb⟩
theorem playF_len (t mi ma up dn cu cd : Int) : ∀ (ls : List Int) (now c ch : Int) (acc : List Int), (playF t mi ma up dn cu cd ls now c ch acc).l.length ≤ ls.length + acc.length
  | [], _, _, _, _ => by simp [playF]
  | l :: ls, now, c, ch, acc => by
    rw [playF]
    split
    · have := playF_len t mi ma up dn cu cd ls (now + 1) (nextV t mi ma up dn cu cd c ch l now).c (nextV t mi ma up dn cu cd c ch l now).h (acc ++ [(nextV t mi ma up dn cu cd c ch l now).c])
      simp only [List.length_append, List.length_cons, List.length_nil] at this ⊢
      omega
    · simp
theorem playV_len (t mi ma up dn cu cd c ch : Int) (ls : List Int) (now : Int) : (playV t mi ma up dn cu cd c ch ls now).l.length ≤ 256 := by
  unfold playV
  split
  · split
    · simp
    · have := playF_len t mi ma up dn cu cd ls now c ch []
      simp only [List.length_nil] at this
      omega
  · simp
theorem scalePlays_walk (t mi ma up dn cu cd : Int) (c ch : Int) (A : Option Addr) (n cap : Nat) (ls : List Int) (now : Int) (w : World) (_ : (Lit.int .i64 t).wf = true) (_ : (Lit.int .i64 mi).wf = true) (_ : (Lit.int .i64 ma).wf = true) (_ : (Lit.int .i64 up).wf = true) (_ : (Lit.int .i64 dn).wf = true) (_ : (Lit.int .i64 cu).wf = true) (_ : (Lit.int .i64 cd).wf = true) (_ : (Lit.int .i64 c).wf = true) (_ : (Lit.int .i64 ch).wf = true)
    (hl : ls.length = n ∧ Seg w A n (ints ls) ∧ (∀ n ∈ ls, (Lit.int .i64 n).wf = true) ∧ n ≤ maxLen) (wn : (Lit.int .i64 now).wf = true) : Calls Try.prog 4 #[.agg #[.int .i64 t, .int .i64 mi, .int .i64 ma, .int .i64 up, .int .i64 dn, .int .i64 cu, .int .i64 cd], .agg #[.int .i64 c, .int .i64 ch], .slice A n cap, .int .i64 now] w fun e w' => e = .returned (.bool true) ∧ Below w.heap.size w w' := by
  have hw := bounds_i64 wn
  by_cases h : 300 < n
  · exact plays_long t mi ma up dn cu cd c ch now A n cap w (by simp; omega)
  · exact plays_main t mi ma up dn cu cd c ch now (playV t mi ma up dn cu cd c ch ls now).e A n cap ls (playV t mi ma up dn cu cd c ch ls now).l w hl.2.1 (by simp; omega) (by have := playV_len t mi ma up dn cu cd c ch ls now; omega)
      (fun W k => play_any t mi ma up dn cu cd c ch now A n cap ls W hl.1 k hw) (fun W k => rplay_any t mi ma up dn cu cd c ch now A n cap ls W hl.1 k hw)

end Go.Proofs.Ytndpecjkoffebaa
