/- Contracts of Desired and of the closure in Next, layer 42 (scale), and of the reference's Desired. -/
import Derived.Test.YtndpecjkoffebaaC
namespace Go.Proofs.Ytndpecjkoffebaa
open Go.ChangeShapes Go.WideShapes Go.ChangeAt Go.RowKit

def desI (t mi ma load : Int) : Int := clampI (ceilI load t) mi ma

set_option maxHeartbeats 400000 in
theorem des_err (t mi ma up dn cu cd load : Int) (w : World) (HC : Hid (∀ W, Calls Try.prog 17 #[.agg #[.int .i64 t, .int .i64 mi, .int .i64 ma, .int .i64 up, .int .i64 dn, .int .i64 cu, .int .i64 cd]] W fun e w' => e = .returned (.int .i64 2) ∧ Below W.heap.size W w')) : Calls Try.prog 11 #[.agg #[.int .i64 t, .int .i64 mi, .int .i64 ma, .int .i64 up, .int .i64 dn, .int .i64 cu, .int .i64 cd], .int .i64 load] w fun e w' => e = .returned (.tuple #[.int .i64 0, .int .i64 2]) ∧ Below w.heap.size w w' := by
  go_enter Try.func11, Try.ntmps11
  go_wp2_with fail
  refine (HC.out _).mono ?_
  rintro e w' ⟨rfl, hb⟩
  obtain ⟨B1, hB⟩ := box1 hb
  clear hb
  go_wp2
  go_ret2
  exact ⟨rfl, hB⟩
set_option maxHeartbeats 400000 in
theorem rdes_err (t mi ma up dn cu cd load : Int) (w : World) (HC : Hid (∀ W, Calls Try.prog 18 #[.agg #[.int .i64 t, .int .i64 mi, .int .i64 ma, .int .i64 up, .int .i64 dn, .int .i64 cu, .int .i64 cd]] W fun e w' => e = .returned (.int .i64 2) ∧ Below W.heap.size W w')) : Calls Try.prog 12 #[.agg #[.int .i64 t, .int .i64 mi, .int .i64 ma, .int .i64 up, .int .i64 dn, .int .i64 cu, .int .i64 cd], .int .i64 load] w fun e w' => e = .returned (.tuple #[.int .i64 0, .int .i64 2]) ∧ Below w.heap.size w w' := by
  go_enter Try.func12, Try.ntmps12
  go_wp2_with fail
  refine (HC.out _).mono ?_
  rintro e w' ⟨rfl, hb⟩
  obtain ⟨B1, hB⟩ := box1 hb
  clear hb
  go_wp2
  go_ret2
  exact ⟨rfl, hB⟩
set_option maxHeartbeats 400000 in
theorem des_rng (t mi ma up dn cu cd load : Int) (w : World) (HC : Hid (∀ W, Calls Try.prog 17 #[.agg #[.int .i64 t, .int .i64 mi, .int .i64 ma, .int .i64 up, .int .i64 dn, .int .i64 cu, .int .i64 cd]] W fun e w' => e = .returned (.int .i64 0) ∧ Below W.heap.size W w')) (h : load < 0 ∨ (0 ≤ load ∧ 1000000000000 < load)) : Calls Try.prog 11 #[.agg #[.int .i64 t, .int .i64 mi, .int .i64 ma, .int .i64 up, .int .i64 dn, .int .i64 cu, .int .i64 cd], .int .i64 load] w fun e w' => e = .returned (.tuple #[.int .i64 0, .int .i64 2]) ∧ Below w.heap.size w w' := by
  rcases h with h | ⟨h, h2⟩
  all_goals
    go_enter Try.func11, Try.ntmps11
    go_wp2_with fail
    refine (HC.out _).mono ?_
    rintro e w' ⟨rfl, hb⟩
    obtain ⟨B1, hB⟩ := box1 hb
    clear hb
    go_wp2
    go_ret2
    exact ⟨rfl, hB⟩
set_option maxHeartbeats 400000 in
theorem rdes_rng (t mi ma up dn cu cd load : Int) (w : World) (HC : Hid (∀ W, Calls Try.prog 18 #[.agg #[.int .i64 t, .int .i64 mi, .int .i64 ma, .int .i64 up, .int .i64 dn, .int .i64 cu, .int .i64 cd]] W fun e w' => e = .returned (.int .i64 0) ∧ Below W.heap.size W w')) (h : load < 0 ∨ 1000000000000 < load) : Calls Try.prog 12 #[.agg #[.int .i64 t, .int .i64 mi, .int .i64 ma, .int .i64 up, .int .i64 dn, .int .i64 cu, .int .i64 cd], .int .i64 load] w fun e w' => e = .returned (.tuple #[.int .i64 0, .int .i64 2]) ∧ Below w.heap.size w w' := by
  go_enter Try.func12, Try.ntmps12
  go_wp2_with fail
  refine (HC.out _).mono ?_
  rintro e w' ⟨rfl, hb⟩
  obtain ⟨B1, hB⟩ := box1 hb
  clear hb
  go_wp2_with fail
  refine (rin_no _ _ _ _ h).mono ?_
  rintro e w2 ⟨rfl, rfl⟩
  go_wp2
  go_ret2
  exact ⟨rfl, hB⟩
set_option maxHeartbeats 400000 in
theorem des_ok (t mi ma up dn cu cd load : Int) (w : World) (HC : Hid (∀ W, Calls Try.prog 17 #[.agg #[.int .i64 t, .int .i64 mi, .int .i64 ma, .int .i64 up, .int .i64 dn, .int .i64 cu, .int .i64 cd]] W fun e w' => e = .returned (.int .i64 0) ∧ Below W.heap.size W w')) (h1 : 0 ≤ load) (h2 : load ≤ 1000000000000) (h3 : 1 ≤ t) (h4 : t ≤ 1000000000) : Calls Try.prog 11 #[.agg #[.int .i64 t, .int .i64 mi, .int .i64 ma, .int .i64 up, .int .i64 dn, .int .i64 cu, .int .i64 cd], .int .i64 load] w fun e w' => e = .returned (.tuple #[.int .i64 (desI t mi ma load), .int .i64 0]) ∧ Below w.heap.size w w' := by
  go_enter Try.func11, Try.ntmps11
  go_wp2_with fail
  refine (HC.out _).mono ?_
  rintro e w' ⟨rfl, hb⟩
  obtain ⟨B1, hB⟩ := box1 hb
  clear hb
  obtain ⟨c0, c1, c2, c3, c4, c5, c6⟩ := B1.cells7
  go_wp2_with fail
  refine (ceil_any _ _ _ (by omega) (by omega) (by omega) (by omega)).mono ?_
  rintro e w2 ⟨rfl, hb⟩
  have hB2 := below_step hB hb
  have B2 := B1.next hb
  clear hb hB B1 c0 c1 c2 c3 c4 c5 c6
  obtain ⟨c0, c1, c2, c3, c4, c5, c6⟩ := B2.cells7
  go_wp2_with fail
  refine (clamp_any _ _ _ _).mono ?_
  rintro e w3 ⟨rfl, rfl⟩
  go_wp2
  go_ret2
  exact ⟨rfl, hB2⟩
theorem clamp_ref (n lo hi : Int) (h : lo ≤ hi) : clampI n lo hi = if hi < n then hi else if n < lo then lo else n := by
  unfold clampI
  split <;> split <;> omega
set_option maxHeartbeats 1000000 in
theorem rdes_ok (t mi ma up dn cu cd load : Int) (w : World) (HC : Hid (∀ W, Calls Try.prog 18 #[.agg #[.int .i64 t, .int .i64 mi, .int .i64 ma, .int .i64 up, .int .i64 dn, .int .i64 cu, .int .i64 cd]] W fun e w' => e = .returned (.int .i64 0) ∧ Below W.heap.size W w')) (h1 : 0 ≤ load) (h2 : load ≤ 1000000000000) (h3 : 1 ≤ t) (h4 : t ≤ 1000000000) (h5 : mi ≤ ma) : Calls Try.prog 12 #[.agg #[.int .i64 t, .int .i64 mi, .int .i64 ma, .int .i64 up, .int .i64 dn, .int .i64 cu, .int .i64 cd], .int .i64 load] w fun e w' => e = .returned (.tuple #[.int .i64 (desI t mi ma load), .int .i64 0]) ∧ Below w.heap.size w w' := by
  have hd : desI t mi ma load = if ma < (load + t - 1) / t then ma else if (load + t - 1) / t < mi then mi else (load + t - 1) / t := clamp_ref _ _ _ h5
  rw [hd]
  clear hd
  have z : (t == 0) = false := beq_eq_false_iff_ne.2 (by omega)
  by_cases g1 : ma < (load + t - 1) / t
  · have g3 : ¬ ma < mi := by omega
    rw [if_pos g1]
    go_enter Try.func12, Try.ntmps12
    go_wp2_with fail
    refine (HC.out _).mono ?_
    rintro e w' ⟨rfl, hb⟩
    obtain ⟨B1, hB⟩ := box1 hb
    clear hb
    obtain ⟨c0, c1, c2, c3, c4, c5, c6⟩ := B1.cells7
    go_wp2_with fail
    refine (rin_yes _ _ _ _ (by omega) (by omega)).mono ?_
    rintro e w2 ⟨rfl, rfl⟩
    go_wp2
    go_ret2
    exact ⟨rfl, hB⟩
  · rw [if_neg g1]
    by_cases g2 : (load + t - 1) / t < mi
    · rw [if_pos g2]
      go_enter Try.func12, Try.ntmps12
      go_wp2_with fail
      refine (HC.out _).mono ?_
      rintro e w' ⟨rfl, hb⟩
      obtain ⟨B1, hB⟩ := box1 hb
      clear hb
      obtain ⟨c0, c1, c2, c3, c4, c5, c6⟩ := B1.cells7
      go_wp2_with fail
      refine (rin_yes _ _ _ _ (by omega) (by omega)).mono ?_
      rintro e w2 ⟨rfl, rfl⟩
      go_wp2
      go_ret2
      exact ⟨rfl, hB⟩
    · rw [if_neg g2]
      go_enter Try.func12, Try.ntmps12
      go_wp2_with fail
      refine (HC.out _).mono ?_
      rintro e w' ⟨rfl, hb⟩
      obtain ⟨B1, hB⟩ := box1 hb
      clear hb
      obtain ⟨c0, c1, c2, c3, c4, c5, c6⟩ := B1.cells7
      go_wp2_with fail
      refine (rin_yes _ _ _ _ (by omega) (by omega)).mono ?_
      rintro e w2 ⟨rfl, rfl⟩
      go_wp2
      go_ret2
      exact ⟨rfl, hB⟩
set_option maxHeartbeats 1000000 in
theorem step_up (gd gs gn : Nat) (d c ch now most cool : Int) (w : World) (D : Box w gd 3 #[.int .i64 d]) (S : Box w gs 25 #[.int .i64 c, .int .i64 ch]) (T : Box w gn 3 #[.int .i64 now])
    (h1 : c < d) (h4 : ch = -1 ∨ cool ≤ now - ch) (h2 : 0 ≤ c) (h3 : c ≤ 1000) (k2 : 0 ≤ d) (k3 : d ≤ 1000) (h5 : -1 ≤ ch) (h6 : ch ≤ 1073741824) (h7 : 0 ≤ now) (h8 : now ≤ 1073741824) (h9 : 1 ≤ most) (h10 : most ≤ 1000) :
    Calls Try.prog 26 #[.int .i64 (1), .int .i64 most, .int .i64 cool, .pointer (some ⟨gd, 0, none⟩), .pointer (some ⟨gs, 0, none⟩), .pointer (some ⟨gn, 0, none⟩)] w fun e w' => e = .returned (.tuple #[]) ∧ w' = (w.setCell ⟨gs, 0, none⟩ (.int .i64 (c + min most (d - c)))).setCell ⟨gs, 1, none⟩ (.int .i64 now) := by
  have d0 := D.cells1
  obtain ⟨s0, s1⟩ := S.cells2
  have n0 := T.cells1
  obtain ⟨f0, f1, _, _⟩ := S.frozen4
  have hm : (most ≤ d - c ∧ min most (d - c) = most) ∨ (d - c < most ∧ min most (d - c) = d - c) := by omega
  rcases hm with ⟨m1, hm⟩ | ⟨m1, hm⟩
  all_goals
    rw [hm]
    clear hm
    by_cases g : ch = -1
    · have g' : (ch == -1) = true := by simp [g]
      clear h4 g
      go_enter Try.func26, Try.ntmps26
      go_wp2
      go_end0
      exact ⟨rfl, by first | rfl | (congr 3; omega)⟩
    · have g' : (ch == -1) = false := by simp [g]
      have h4' : cool ≤ now - ch := by omega
      clear h4 g
      go_enter Try.func26, Try.ntmps26
      go_wp2
      go_end0
      exact ⟨rfl, by first | rfl | (congr 3; omega)⟩
set_option maxHeartbeats 1000000 in
theorem step_dn (gd gs gn : Nat) (d c ch now most cool : Int) (w : World) (D : Box w gd 3 #[.int .i64 d]) (S : Box w gs 25 #[.int .i64 c, .int .i64 ch]) (T : Box w gn 3 #[.int .i64 now])
    (h1 : d < c) (h4 : ch = -1 ∨ cool ≤ now - ch) (h2 : 0 ≤ c) (h3 : c ≤ 1000) (k2 : 0 ≤ d) (k3 : d ≤ 1000) (h5 : -1 ≤ ch) (h6 : ch ≤ 1073741824) (h7 : 0 ≤ now) (h8 : now ≤ 1073741824) (h9 : 1 ≤ most) (h10 : most ≤ 1000) :
    Calls Try.prog 26 #[.int .i64 (-1), .int .i64 most, .int .i64 cool, .pointer (some ⟨gd, 0, none⟩), .pointer (some ⟨gs, 0, none⟩), .pointer (some ⟨gn, 0, none⟩)] w fun e w' => e = .returned (.tuple #[]) ∧ w' = (w.setCell ⟨gs, 0, none⟩ (.int .i64 (c - min most (c - d)))).setCell ⟨gs, 1, none⟩ (.int .i64 now) := by
  have d0 := D.cells1
  obtain ⟨s0, s1⟩ := S.cells2
  have n0 := T.cells1
  obtain ⟨f0, f1, _, _⟩ := S.frozen4
  have hm : (most ≤ c - d ∧ min most (c - d) = most) ∨ (c - d < most ∧ min most (c - d) = c - d) := by omega
  rcases hm with ⟨m1, hm⟩ | ⟨m1, hm⟩
  all_goals
    rw [hm]
    clear hm
    by_cases g : ch = -1
    · have g' : (ch == -1) = true := by simp [g]
      clear h4 g
      go_enter Try.func26, Try.ntmps26
      go_wp2
      go_end0
      exact ⟨rfl, by first | rfl | (congr 3; omega)⟩
    · have g' : (ch == -1) = false := by simp [g]
      have h4' : cool ≤ now - ch := by omega
      clear h4 g
      go_enter Try.func26, Try.ntmps26
      go_wp2
      go_end0
      exact ⟨rfl, by first | rfl | (congr 3; omega)⟩
set_option maxHeartbeats 1000000 in
theorem stay_up (gd gs gn : Nat) (d c ch now most cool : Int) (w : World) (D : Box w gd 3 #[.int .i64 d]) (S : Box w gs 25 #[.int .i64 c, .int .i64 ch]) (T : Box w gn 3 #[.int .i64 now])
    (h1 : c < d) (h4 : ch ≠ -1) (h4' : now - ch < cool) (h2 : 0 ≤ c) (h3 : c ≤ 1000) (k2 : 0 ≤ d) (k3 : d ≤ 1000) (h5 : -1 ≤ ch) (h6 : ch ≤ 1073741824) (h7 : 0 ≤ now) (h8 : now ≤ 1073741824) (_h9 : 1 ≤ most) (_h10 : most ≤ 1000) :
    Calls Try.prog 26 #[.int .i64 (1), .int .i64 most, .int .i64 cool, .pointer (some ⟨gd, 0, none⟩), .pointer (some ⟨gs, 0, none⟩), .pointer (some ⟨gn, 0, none⟩)] w fun e w' => e = .returned (.tuple #[]) ∧ w = w' := by
  have d0 := D.cells1
  obtain ⟨s0, s1⟩ := S.cells2
  have n0 := T.cells1
  obtain ⟨f0, f1, _, _⟩ := S.frozen4
  have g' : (ch == -1) = false := by simp [h4]
  clear h4
  go_enter Try.func26, Try.ntmps26
  go_wp2
  go_end0
  exact ⟨rfl, rfl⟩
set_option maxHeartbeats 1000000 in
theorem stay_dn (gd gs gn : Nat) (d c ch now most cool : Int) (w : World) (D : Box w gd 3 #[.int .i64 d]) (S : Box w gs 25 #[.int .i64 c, .int .i64 ch]) (T : Box w gn 3 #[.int .i64 now])
    (h1 : d < c) (h4 : ch ≠ -1) (h4' : now - ch < cool) (h2 : 0 ≤ c) (h3 : c ≤ 1000) (k2 : 0 ≤ d) (k3 : d ≤ 1000) (h5 : -1 ≤ ch) (h6 : ch ≤ 1073741824) (h7 : 0 ≤ now) (h8 : now ≤ 1073741824) (_h9 : 1 ≤ most) (_h10 : most ≤ 1000) :
    Calls Try.prog 26 #[.int .i64 (-1), .int .i64 most, .int .i64 cool, .pointer (some ⟨gd, 0, none⟩), .pointer (some ⟨gs, 0, none⟩), .pointer (some ⟨gn, 0, none⟩)] w fun e w' => e = .returned (.tuple #[]) ∧ w = w' := by
  have d0 := D.cells1
  obtain ⟨s0, s1⟩ := S.cells2
  have n0 := T.cells1
  obtain ⟨f0, f1, _, _⟩ := S.frozen4
  have g' : (ch == -1) = false := by simp [h4]
  clear h4
  go_enter Try.func26, Try.ntmps26
  go_wp2
  go_end0
  exact ⟨rfl, rfl⟩
set_option maxHeartbeats 1000000 in
theorem stay_eq (gd gs gn : Nat) (d c ch now most cool : Int) (w : World) (D : Box w gd 3 #[.int .i64 d]) (S : Box w gs 25 #[.int .i64 c, .int .i64 ch]) (T : Box w gn 3 #[.int .i64 now])
    (h1 : d = c) (h2 : 0 ≤ c) (h3 : c ≤ 1000) (_k2 : 0 ≤ d) (_k3 : d ≤ 1000) (_h5 : -1 ≤ ch) (_h6 : ch ≤ 1073741824) (_h7 : 0 ≤ now) (_h8 : now ≤ 1073741824) (_h9 : 1 ≤ most) (_h10 : most ≤ 1000) :
    Calls Try.prog 26 #[.int .i64 (-1), .int .i64 most, .int .i64 cool, .pointer (some ⟨gd, 0, none⟩), .pointer (some ⟨gs, 0, none⟩), .pointer (some ⟨gn, 0, none⟩)] w fun e w' => e = .returned (.tuple #[]) ∧ w = w' := by
  subst h1
  have d0 := D.cells1
  obtain ⟨s0, s1⟩ := S.cells2
  have n0 := T.cells1
  obtain ⟨f0, f1, _, _⟩ := S.frozen4
  go_enter Try.func26, Try.ntmps26
  go_wp2
  go_end0
  exact ⟨rfl, rfl⟩
end Go.Proofs.Ytndpecjkoffebaa
