/- Contracts of Check of layer 42 (scale) and of the reference's Check. -/
import Derived.Test.YtndpecjkoffebaaA
namespace Go.Proofs.Ytndpecjkoffebaa
open Go.ChangeShapes Go.WideShapes Go.ChangeAt Go.RowKit

def polB (t mi ma up dn cu cd : Int) : Bool := decide (1 ≤ t ∧ t ≤ 1000000000 ∧ 0 ≤ mi ∧ mi ≤ ma ∧ ma ≤ 1000 ∧ 1 ≤ up ∧ up ≤ 1000 ∧ 1 ≤ dn ∧ dn ≤ 1000 ∧ 0 ≤ cu ∧ cu ≤ 1073741824 ∧ 0 ≤ cd ∧ cd ≤ 1073741824)
theorem polB_iff (t mi ma up dn cu cd : Int) : polB t mi ma up dn cu cd = true ↔ (1 ≤ t ∧ t ≤ 1000000000 ∧ 0 ≤ mi ∧ mi ≤ ma ∧ ma ≤ 1000 ∧ 1 ≤ up ∧ up ≤ 1000 ∧ 1 ≤ dn ∧ dn ≤ 1000 ∧ 0 ≤ cu ∧ cu ≤ 1073741824 ∧ 0 ≤ cd ∧ cd ≤ 1073741824) := by simp [polB]
theorem pol_cases (t mi ma up dn cu cd : Int) (h : polB t mi ma up dn cu cd = false) : ((t < 1 ∨ 1000000000 < t)) ∨ (1 ≤ t ∧ t ≤ 1000000000 ∧ (mi < 0 ∨ 1000 < mi)) ∨ (1 ≤ t ∧ t ≤ 1000000000 ∧ 0 ≤ mi ∧ mi ≤ 1000 ∧ (ma < mi ∨ 1000 < ma)) ∨ (1 ≤ t ∧ t ≤ 1000000000 ∧ 0 ≤ mi ∧ mi ≤ 1000 ∧ mi ≤ ma ∧ ma ≤ 1000 ∧ (up < 1 ∨ 1000 < up)) ∨ (1 ≤ t ∧ t ≤ 1000000000 ∧ 0 ≤ mi ∧ mi ≤ 1000 ∧ mi ≤ ma ∧ ma ≤ 1000 ∧ 1 ≤ up ∧ up ≤ 1000 ∧ (dn < 1 ∨ 1000 < dn)) ∨ (1 ≤ t ∧ t ≤ 1000000000 ∧ 0 ≤ mi ∧ mi ≤ 1000 ∧ mi ≤ ma ∧ ma ≤ 1000 ∧ 1 ≤ up ∧ up ≤ 1000 ∧ 1 ≤ dn ∧ dn ≤ 1000 ∧ (cu < 0 ∨ 1073741824 < cu)) ∨ (1 ≤ t ∧ t ≤ 1000000000 ∧ 0 ≤ mi ∧ mi ≤ 1000 ∧ mi ≤ ma ∧ ma ≤ 1000 ∧ 1 ≤ up ∧ up ≤ 1000 ∧ 1 ≤ dn ∧ dn ≤ 1000 ∧ 0 ≤ cu ∧ cu ≤ 1073741824 ∧ (cd < 0 ∨ 1073741824 < cd)) := by
  by_cases g0 : (t < 1 ∨ 1000000000 < t)
  · exact .inl (g0)
  have a0_0 : 1 ≤ t := by omega
  have a0_1 : t ≤ 1000000000 := by omega
  clear g0
  by_cases g1 : (mi < 0 ∨ 1000 < mi)
  · exact .inr (.inl (⟨a0_0, a0_1, g1⟩))
  have a1_0 : 0 ≤ mi := by omega
  have a1_1 : mi ≤ 1000 := by omega
  clear g1
  by_cases g2 : (ma < mi ∨ 1000 < ma)
  · exact .inr (.inr (.inl (⟨a0_0, a0_1, a1_0, a1_1, g2⟩)))
  have a2_0 : mi ≤ ma := by omega
  have a2_1 : ma ≤ 1000 := by omega
  clear g2
  by_cases g3 : (up < 1 ∨ 1000 < up)
  · exact .inr (.inr (.inr (.inl (⟨a0_0, a0_1, a1_0, a1_1, a2_0, a2_1, g3⟩))))
  have a3_0 : 1 ≤ up := by omega
  have a3_1 : up ≤ 1000 := by omega
  clear g3
  by_cases g4 : (dn < 1 ∨ 1000 < dn)
  · exact .inr (.inr (.inr (.inr (.inl (⟨a0_0, a0_1, a1_0, a1_1, a2_0, a2_1, a3_0, a3_1, g4⟩)))))
  have a4_0 : 1 ≤ dn := by omega
  have a4_1 : dn ≤ 1000 := by omega
  clear g4
  by_cases g5 : (cu < 0 ∨ 1073741824 < cu)
  · exact .inr (.inr (.inr (.inr (.inr (.inl (⟨a0_0, a0_1, a1_0, a1_1, a2_0, a2_1, a3_0, a3_1, a4_0, a4_1, g5⟩))))))
  have a5_0 : 0 ≤ cu := by omega
  have a5_1 : cu ≤ 1073741824 := by omega
  clear g5
  by_cases g6 : (cd < 0 ∨ 1073741824 < cd)
  · exact .inr (.inr (.inr (.inr (.inr (.inr (⟨a0_0, a0_1, a1_0, a1_1, a2_0, a2_1, a3_0, a3_1, a4_0, a4_1, a5_0, a5_1, g6⟩))))))
  have a6_0 : 0 ≤ cd := by omega
  have a6_1 : cd ≤ 1073741824 := by omega
  clear g6
  exact absurd ((polB_iff t mi ma up dn cu cd).2 ⟨by omega, by omega, by omega, by omega, by omega, by omega, by omega, by omega, by omega, by omega, by omega, by omega, by omega⟩) (by rw [h]; exact Bool.false_ne_true)
set_option maxHeartbeats 1000000 in
theorem check_no (t mi ma up dn cu cd : Int) (w : World) (hk : polB t mi ma up dn cu cd = false) : Calls Try.prog 17 #[.agg #[.int .i64 t, .int .i64 mi, .int .i64 ma, .int .i64 up, .int .i64 dn, .int .i64 cu, .int .i64 cd]] w fun e w' => e = .returned (.int .i64 2) ∧ Below w.heap.size w w' := by
  rcases pol_cases t mi ma up dn cu cd hk with h0 | ⟨h0, h1, h2⟩ | ⟨h0, h1, h2, h3, h4⟩ | ⟨h0, h1, h2, h3, h4, h5, h6⟩ | ⟨h0, h1, h2, h3, h4, h5, h6, h7, h8⟩ | ⟨h0, h1, h2, h3, h4, h5, h6, h7, h8, h9, h10⟩ | ⟨h0, h1, h2, h3, h4, h5, h6, h7, h8, h9, h10, h11, h12⟩
  · clear hk
    go_enter Try.func17, Try.ntmps17
    go_wp2_with fail
    refine (cin_no _ _ _ _ (by omega)).mono ?_
    rintro e w' ⟨rfl, rfl⟩
    go_wp2
    go_ret
    exact ⟨rfl, (Below.refl _ _).alloc (Nat.le_refl _) _⟩
  · clear hk
    go_enter Try.func17, Try.ntmps17
    go_wp2_with fail
    refine (cin_yes _ _ _ _ (by omega) (by omega)).mono ?_
    rintro e w' ⟨rfl, rfl⟩
    go_wp2_with fail
    refine (cin_no _ _ _ _ (by omega)).mono ?_
    rintro e w' ⟨rfl, rfl⟩
    go_wp2
    go_ret
    exact ⟨rfl, (Below.refl _ _).alloc (Nat.le_refl _) _⟩
  · clear hk
    go_enter Try.func17, Try.ntmps17
    go_wp2_with fail
    refine (cin_yes _ _ _ _ (by omega) (by omega)).mono ?_
    rintro e w' ⟨rfl, rfl⟩
    go_wp2_with fail
    refine (cin_yes _ _ _ _ (by omega) (by omega)).mono ?_
    rintro e w' ⟨rfl, rfl⟩
    go_wp2_with fail
    refine (cin_no _ _ _ _ (by omega)).mono ?_
    rintro e w' ⟨rfl, rfl⟩
    go_wp2
    go_ret
    exact ⟨rfl, (Below.refl _ _).alloc (Nat.le_refl _) _⟩
  · clear hk
    go_enter Try.func17, Try.ntmps17
    go_wp2_with fail
    refine (cin_yes _ _ _ _ (by omega) (by omega)).mono ?_
    rintro e w' ⟨rfl, rfl⟩
    go_wp2_with fail
    refine (cin_yes _ _ _ _ (by omega) (by omega)).mono ?_
    rintro e w' ⟨rfl, rfl⟩
    go_wp2_with fail
    refine (cin_yes _ _ _ _ (by omega) (by omega)).mono ?_
    rintro e w' ⟨rfl, rfl⟩
    go_wp2_with fail
    refine (cin_no _ _ _ _ (by omega)).mono ?_
    rintro e w' ⟨rfl, rfl⟩
    go_wp2
    go_ret
    exact ⟨rfl, (Below.refl _ _).alloc (Nat.le_refl _) _⟩
  · clear hk
    go_enter Try.func17, Try.ntmps17
    go_wp2_with fail
    refine (cin_yes _ _ _ _ (by omega) (by omega)).mono ?_
    rintro e w' ⟨rfl, rfl⟩
    go_wp2_with fail
    refine (cin_yes _ _ _ _ (by omega) (by omega)).mono ?_
    rintro e w' ⟨rfl, rfl⟩
    go_wp2_with fail
    refine (cin_yes _ _ _ _ (by omega) (by omega)).mono ?_
    rintro e w' ⟨rfl, rfl⟩
    go_wp2_with fail
    refine (cin_yes _ _ _ _ (by omega) (by omega)).mono ?_
    rintro e w' ⟨rfl, rfl⟩
    go_wp2_with fail
    refine (cin_no _ _ _ _ (by omega)).mono ?_
    rintro e w' ⟨rfl, rfl⟩
    go_wp2
    go_ret
    exact ⟨rfl, (Below.refl _ _).alloc (Nat.le_refl _) _⟩
  · clear hk
    go_enter Try.func17, Try.ntmps17
    go_wp2_with fail
    refine (cin_yes _ _ _ _ (by omega) (by omega)).mono ?_
    rintro e w' ⟨rfl, rfl⟩
    go_wp2_with fail
    refine (cin_yes _ _ _ _ (by omega) (by omega)).mono ?_
    rintro e w' ⟨rfl, rfl⟩
    go_wp2_with fail
    refine (cin_yes _ _ _ _ (by omega) (by omega)).mono ?_
    rintro e w' ⟨rfl, rfl⟩
    go_wp2_with fail
    refine (cin_yes _ _ _ _ (by omega) (by omega)).mono ?_
    rintro e w' ⟨rfl, rfl⟩
    go_wp2_with fail
    refine (cin_yes _ _ _ _ (by omega) (by omega)).mono ?_
    rintro e w' ⟨rfl, rfl⟩
    go_wp2_with fail
    refine (cin_no _ _ _ _ (by omega)).mono ?_
    rintro e w' ⟨rfl, rfl⟩
    go_wp2
    go_ret
    exact ⟨rfl, (Below.refl _ _).alloc (Nat.le_refl _) _⟩
  · clear hk
    go_enter Try.func17, Try.ntmps17
    go_wp2_with fail
    refine (cin_yes _ _ _ _ (by omega) (by omega)).mono ?_
    rintro e w' ⟨rfl, rfl⟩
    go_wp2_with fail
    refine (cin_yes _ _ _ _ (by omega) (by omega)).mono ?_
    rintro e w' ⟨rfl, rfl⟩
    go_wp2_with fail
    refine (cin_yes _ _ _ _ (by omega) (by omega)).mono ?_
    rintro e w' ⟨rfl, rfl⟩
    go_wp2_with fail
    refine (cin_yes _ _ _ _ (by omega) (by omega)).mono ?_
    rintro e w' ⟨rfl, rfl⟩
    go_wp2_with fail
    refine (cin_yes _ _ _ _ (by omega) (by omega)).mono ?_
    rintro e w' ⟨rfl, rfl⟩
    go_wp2_with fail
    refine (cin_yes _ _ _ _ (by omega) (by omega)).mono ?_
    rintro e w' ⟨rfl, rfl⟩
    go_wp2_with fail
    refine (cin_no _ _ _ _ (by omega)).mono ?_
    rintro e w' ⟨rfl, rfl⟩
    go_wp2
    go_ret
    exact ⟨rfl, (Below.refl _ _).alloc (Nat.le_refl _) _⟩

set_option maxHeartbeats 1000000 in
theorem check_yes (t mi ma up dn cu cd : Int) (w : World) (hk : polB t mi ma up dn cu cd = true) : Calls Try.prog 17 #[.agg #[.int .i64 t, .int .i64 mi, .int .i64 ma, .int .i64 up, .int .i64 dn, .int .i64 cu, .int .i64 cd]] w fun e w' => e = .returned (.int .i64 0) ∧ Below w.heap.size w w' := by
  obtain ⟨h0, h1, h2, h3, h4, h5, h6, h7, h8, h9, h10, h11, h12⟩ := (polB_iff t mi ma up dn cu cd).1 hk
  clear hk
  · skip
    go_enter Try.func17, Try.ntmps17
    go_wp2_with fail
    refine (cin_yes _ _ _ _ (by omega) (by omega)).mono ?_
    rintro e w' ⟨rfl, rfl⟩
    go_wp2_with fail
    refine (cin_yes _ _ _ _ (by omega) (by omega)).mono ?_
    rintro e w' ⟨rfl, rfl⟩
    go_wp2_with fail
    refine (cin_yes _ _ _ _ (by omega) (by omega)).mono ?_
    rintro e w' ⟨rfl, rfl⟩
    go_wp2_with fail
    refine (cin_yes _ _ _ _ (by omega) (by omega)).mono ?_
    rintro e w' ⟨rfl, rfl⟩
    go_wp2_with fail
    refine (cin_yes _ _ _ _ (by omega) (by omega)).mono ?_
    rintro e w' ⟨rfl, rfl⟩
    go_wp2_with fail
    refine (cin_yes _ _ _ _ (by omega) (by omega)).mono ?_
    rintro e w' ⟨rfl, rfl⟩
    go_wp2_with fail
    refine (cin_yes _ _ _ _ (by omega) (by omega)).mono ?_
    rintro e w' ⟨rfl, rfl⟩
    go_wp2
    go_ret
    exact ⟨rfl, (Below.refl _ _).alloc (Nat.le_refl _) _⟩

theorem rpol_cases (t mi ma up dn cu cd : Int) (h : polB t mi ma up dn cu cd = false) : ((t < 1 ∨ 1000000000 < t)) ∨ (1 ≤ t ∧ t ≤ 1000000000 ∧ mi < 0) ∨ (1 ≤ t ∧ t ≤ 1000000000 ∧ 0 ≤ mi ∧ ma < mi) ∨ (1 ≤ t ∧ t ≤ 1000000000 ∧ 0 ≤ mi ∧ mi ≤ ma ∧ 1000 < ma) ∨ (1 ≤ t ∧ t ≤ 1000000000 ∧ 0 ≤ mi ∧ mi ≤ ma ∧ ma ≤ 1000 ∧ (up < 1 ∨ 1000 < up)) ∨ (1 ≤ t ∧ t ≤ 1000000000 ∧ 0 ≤ mi ∧ mi ≤ ma ∧ ma ≤ 1000 ∧ 1 ≤ up ∧ up ≤ 1000 ∧ (dn < 1 ∨ 1000 < dn)) ∨ (1 ≤ t ∧ t ≤ 1000000000 ∧ 0 ≤ mi ∧ mi ≤ ma ∧ ma ≤ 1000 ∧ 1 ≤ up ∧ up ≤ 1000 ∧ 1 ≤ dn ∧ dn ≤ 1000 ∧ (cu < 0 ∨ 1073741824 < cu)) ∨ (1 ≤ t ∧ t ≤ 1000000000 ∧ 0 ≤ mi ∧ mi ≤ ma ∧ ma ≤ 1000 ∧ 1 ≤ up ∧ up ≤ 1000 ∧ 1 ≤ dn ∧ dn ≤ 1000 ∧ 0 ≤ cu ∧ cu ≤ 1073741824 ∧ (cd < 0 ∨ 1073741824 < cd)) := by
  by_cases g0 : (t < 1 ∨ 1000000000 < t)
  · exact .inl (g0)
  have a0_0 : 1 ≤ t := by omega
  have a0_1 : t ≤ 1000000000 := by omega
  clear g0
  by_cases g1 : mi < 0
  · exact .inr (.inl (⟨a0_0, a0_1, g1⟩))
  have a1_0 : 0 ≤ mi := by omega
  clear g1
  by_cases g2 : ma < mi
  · exact .inr (.inr (.inl (⟨a0_0, a0_1, a1_0, g2⟩)))
  have a2_0 : mi ≤ ma := by omega
  clear g2
  by_cases g3 : 1000 < ma
  · exact .inr (.inr (.inr (.inl (⟨a0_0, a0_1, a1_0, a2_0, g3⟩))))
  have a3_0 : ma ≤ 1000 := by omega
  clear g3
  by_cases g4 : (up < 1 ∨ 1000 < up)
  · exact .inr (.inr (.inr (.inr (.inl (⟨a0_0, a0_1, a1_0, a2_0, a3_0, g4⟩)))))
  have a4_0 : 1 ≤ up := by omega
  have a4_1 : up ≤ 1000 := by omega
  clear g4
  by_cases g5 : (dn < 1 ∨ 1000 < dn)
  · exact .inr (.inr (.inr (.inr (.inr (.inl (⟨a0_0, a0_1, a1_0, a2_0, a3_0, a4_0, a4_1, g5⟩))))))
  have a5_0 : 1 ≤ dn := by omega
  have a5_1 : dn ≤ 1000 := by omega
  clear g5
  by_cases g6 : (cu < 0 ∨ 1073741824 < cu)
  · exact .inr (.inr (.inr (.inr (.inr (.inr (.inl (⟨a0_0, a0_1, a1_0, a2_0, a3_0, a4_0, a4_1, a5_0, a5_1, g6⟩)))))))
  have a6_0 : 0 ≤ cu := by omega
  have a6_1 : cu ≤ 1073741824 := by omega
  clear g6
  by_cases g7 : (cd < 0 ∨ 1073741824 < cd)
  · exact .inr (.inr (.inr (.inr (.inr (.inr (.inr (⟨a0_0, a0_1, a1_0, a2_0, a3_0, a4_0, a4_1, a5_0, a5_1, a6_0, a6_1, g7⟩)))))))
  have a7_0 : 0 ≤ cd := by omega
  have a7_1 : cd ≤ 1073741824 := by omega
  clear g7
  exact absurd ((polB_iff t mi ma up dn cu cd).2 ⟨by omega, by omega, by omega, by omega, by omega, by omega, by omega, by omega, by omega, by omega, by omega, by omega, by omega⟩) (by rw [h]; exact Bool.false_ne_true)
set_option maxHeartbeats 1000000 in
theorem rcheck_no (t mi ma up dn cu cd : Int) (w : World) (hk : polB t mi ma up dn cu cd = false) : Calls Try.prog 18 #[.agg #[.int .i64 t, .int .i64 mi, .int .i64 ma, .int .i64 up, .int .i64 dn, .int .i64 cu, .int .i64 cd]] w fun e w' => e = .returned (.int .i64 2) ∧ Below w.heap.size w w' := by
  rcases rpol_cases t mi ma up dn cu cd hk with h0 | ⟨h0, h1, h2⟩ | ⟨h0, h1, h2, h3⟩ | ⟨h0, h1, h2, h3, h4⟩ | ⟨h0, h1, h2, h3, h4, h5⟩ | ⟨h0, h1, h2, h3, h4, h5, h6, h7⟩ | ⟨h0, h1, h2, h3, h4, h5, h6, h7, h8, h9⟩ | ⟨h0, h1, h2, h3, h4, h5, h6, h7, h8, h9, h10, h11⟩
  · clear hk
    go_enter Try.func18, Try.ntmps18
    go_wp2_with fail
    refine (rin_no _ _ _ _ (by omega)).mono ?_
    rintro e w' ⟨rfl, rfl⟩
    go_wp2
    go_ret
    exact ⟨rfl, (Below.refl _ _).alloc (Nat.le_refl _) _⟩
  · clear hk
    go_enter Try.func18, Try.ntmps18
    go_wp2_with fail
    refine (rin_yes _ _ _ _ (by omega) (by omega)).mono ?_
    rintro e w' ⟨rfl, rfl⟩
    go_wp2
    go_ret
    exact ⟨rfl, (Below.refl _ _).alloc (Nat.le_refl _) _⟩
  · clear hk
    go_enter Try.func18, Try.ntmps18
    go_wp2_with fail
    refine (rin_yes _ _ _ _ (by omega) (by omega)).mono ?_
    rintro e w' ⟨rfl, rfl⟩
    go_wp2
    go_ret
    exact ⟨rfl, (Below.refl _ _).alloc (Nat.le_refl _) _⟩
  · clear hk
    go_enter Try.func18, Try.ntmps18
    go_wp2_with fail
    refine (rin_yes _ _ _ _ (by omega) (by omega)).mono ?_
    rintro e w' ⟨rfl, rfl⟩
    go_wp2
    go_ret
    exact ⟨rfl, (Below.refl _ _).alloc (Nat.le_refl _) _⟩
  · clear hk
    go_enter Try.func18, Try.ntmps18
    go_wp2_with fail
    refine (rin_yes _ _ _ _ (by omega) (by omega)).mono ?_
    rintro e w' ⟨rfl, rfl⟩
    go_wp2_with fail
    refine (rin_no _ _ _ _ (by omega)).mono ?_
    rintro e w' ⟨rfl, rfl⟩
    go_wp2
    go_ret
    exact ⟨rfl, (Below.refl _ _).alloc (Nat.le_refl _) _⟩
  · clear hk
    go_enter Try.func18, Try.ntmps18
    go_wp2_with fail
    refine (rin_yes _ _ _ _ (by omega) (by omega)).mono ?_
    rintro e w' ⟨rfl, rfl⟩
    go_wp2_with fail
    refine (rin_yes _ _ _ _ (by omega) (by omega)).mono ?_
    rintro e w' ⟨rfl, rfl⟩
    go_wp2_with fail
    refine (rin_no _ _ _ _ (by omega)).mono ?_
    rintro e w' ⟨rfl, rfl⟩
    go_wp2
    go_ret
    exact ⟨rfl, (Below.refl _ _).alloc (Nat.le_refl _) _⟩
  · clear hk
    go_enter Try.func18, Try.ntmps18
    go_wp2_with fail
    refine (rin_yes _ _ _ _ (by omega) (by omega)).mono ?_
    rintro e w' ⟨rfl, rfl⟩
    go_wp2_with fail
    refine (rin_yes _ _ _ _ (by omega) (by omega)).mono ?_
    rintro e w' ⟨rfl, rfl⟩
    go_wp2_with fail
    refine (rin_yes _ _ _ _ (by omega) (by omega)).mono ?_
    rintro e w' ⟨rfl, rfl⟩
    go_wp2_with fail
    refine (rin_no _ _ _ _ (by omega)).mono ?_
    rintro e w' ⟨rfl, rfl⟩
    go_wp2
    go_ret
    exact ⟨rfl, (Below.refl _ _).alloc (Nat.le_refl _) _⟩
  · clear hk
    go_enter Try.func18, Try.ntmps18
    go_wp2_with fail
    refine (rin_yes _ _ _ _ (by omega) (by omega)).mono ?_
    rintro e w' ⟨rfl, rfl⟩
    go_wp2_with fail
    refine (rin_yes _ _ _ _ (by omega) (by omega)).mono ?_
    rintro e w' ⟨rfl, rfl⟩
    go_wp2_with fail
    refine (rin_yes _ _ _ _ (by omega) (by omega)).mono ?_
    rintro e w' ⟨rfl, rfl⟩
    go_wp2_with fail
    refine (rin_yes _ _ _ _ (by omega) (by omega)).mono ?_
    rintro e w' ⟨rfl, rfl⟩
    go_wp2_with fail
    refine (rin_no _ _ _ _ (by omega)).mono ?_
    rintro e w' ⟨rfl, rfl⟩
    go_wp2
    go_ret
    exact ⟨rfl, (Below.refl _ _).alloc (Nat.le_refl _) _⟩

set_option maxHeartbeats 1000000 in
theorem rcheck_yes (t mi ma up dn cu cd : Int) (w : World) (hk : polB t mi ma up dn cu cd = true) : Calls Try.prog 18 #[.agg #[.int .i64 t, .int .i64 mi, .int .i64 ma, .int .i64 up, .int .i64 dn, .int .i64 cu, .int .i64 cd]] w fun e w' => e = .returned (.int .i64 0) ∧ Below w.heap.size w w' := by
  obtain ⟨h0, h1, h2, h3, h4, h5, h6, h7, h8, h9, h10, h11, h12⟩ := (polB_iff t mi ma up dn cu cd).1 hk
  clear hk
  · skip
    go_enter Try.func18, Try.ntmps18
    go_wp2_with fail
    refine (rin_yes _ _ _ _ (by omega) (by omega)).mono ?_
    rintro e w' ⟨rfl, rfl⟩
    go_wp2_with fail
    refine (rin_yes _ _ _ _ (by omega) (by omega)).mono ?_
    rintro e w' ⟨rfl, rfl⟩
    go_wp2_with fail
    refine (rin_yes _ _ _ _ (by omega) (by omega)).mono ?_
    rintro e w' ⟨rfl, rfl⟩
    go_wp2_with fail
    refine (rin_yes _ _ _ _ (by omega) (by omega)).mono ?_
    rintro e w' ⟨rfl, rfl⟩
    go_wp2_with fail
    refine (rin_yes _ _ _ _ (by omega) (by omega)).mono ?_
    rintro e w' ⟨rfl, rfl⟩
    go_wp2
    go_ret
    exact ⟨rfl, (Below.refl _ _).alloc (Nat.le_refl _) _⟩


end Go.Proofs.Ytndpecjkoffebaa
