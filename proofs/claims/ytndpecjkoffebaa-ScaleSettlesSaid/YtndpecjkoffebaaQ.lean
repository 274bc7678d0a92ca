/- The walks of ScaleSteps and ScaleRises of layer 42. -/
import Derived.Test.YtndpecjkoffebaaL
import Derived.Test.YtndpecjkoffebaaP
import Derived.Test.YtndpecjkoffebaaZ
namespace Go.Proofs.Ytndpecjkoffebaa
open Go.ChangeShapes Go.WideShapes Go.ChangeAt Go.RowKit
attribute [local go_sem high] eql25

set_option maxHeartbeats 2000000 in
theorem steps_walk (t mi ma up dn cu cd c ch load now : Int) (w : World) : Calls Try.prog 3 #[.agg #[.int .i64 t, .int .i64 mi, .int .i64 ma, .int .i64 up, .int .i64 dn, .int .i64 cu, .int .i64 cd], .agg #[.int .i64 c, .int .i64 ch], .int .i64 load, .int .i64 now] w fun e w' => e = .returned (.bool true) ∧ Below w.heap.size w w' := by
  have h1 : Hid (∀ W, _) := fun W => start_any t mi ma up dn cu cd W
  have h2 : Hid (∀ W, _) := fun W => rstart_any t mi ma up dn cu cd W
  have h3 : Hid (∀ W, _) := fun W => des_any t mi ma up dn cu cd load W
  have h4 : Hid (∀ W, _) := fun W => rdes_any t mi ma up dn cu cd load W
  have h5 : Hid (∀ W, _) := fun W => next_any t mi ma up dn cu cd c ch load now W
  have h6 : Hid (∀ W, _) := fun W => rnext_any t mi ma up dn cu cd c ch load now W
  have h7 : Hid (∀ W, _) := fun W => set_any t mi ma up dn cu cd c ch load W
  have h8 : Hid (∀ W, _) := fun W => rset_any t mi ma up dn cu cd c ch load W
  have h9 : Hid (∀ W, _) := fun W => check_any t mi ma up dn cu cd W
  have ha : Hid (∀ W, _) := fun W => rcheck_any t mi ma up dn cu cd W
  generalize startV t mi ma up dn cu cd = x1 at *
  generalize desV t mi ma up dn cu cd load = x2 at *
  generalize nextV t mi ma up dn cu cd c ch load now = x3 at *
  generalize setV t mi ma up dn cu cd c ch load = x4 at *
  generalize polE t mi ma up dn cu cd = x5 at *
  obtain ⟨s1, s2, s3⟩ := x1
  obtain ⟨d1, d2⟩ := x2
  obtain ⟨n1, n2, n3⟩ := x3
  obtain ⟨m1, m2⟩ := x4
  simp only at h1 h2 h3 h4 h5 h6 h7 h8
  have hq1 := eq2_self s1 s2
  have hq2 := eq2_self n1 n2
  go_enter Try.func3, Try.ntmps3
  go_wp2_with fail
  refine (h1.out _).mono ?_
  rintro _ wx1 ⟨rfl, hb⟩
  have P := ((Box.new w 23 #[.int .i64 t, .int .i64 mi, .int .i64 ma, .int .i64 up, .int .i64 dn, .int .i64 cu, .int .i64 cd]).alloc _).next hb
  have S := ((Box.new ((w).alloc (.cells #[.int .i64 t, .int .i64 mi, .int .i64 ma, .int .i64 up, .int .i64 dn, .int .i64 cu, .int .i64 cd] 23)) 25 #[.int .i64 c, .int .i64 ch])).next hb
  simp only [World.size_alloc] at S
  have hB := below_step (below_box (below_box (Below.refl _ w) _) _) hb
  clear hb
  have cP_0 := P.cell 0 _ rfl
  have cP_1 := P.cell 1 _ rfl
  have cP_2 := P.cell 2 _ rfl
  have cP_3 := P.cell 3 _ rfl
  have cP_4 := P.cell 4 _ rfl
  have cP_5 := P.cell 5 _ rfl
  have cP_6 := P.cell 6 _ rfl
  have lP := P.lt
  have cS_0 := S.cell 0 _ rfl
  have cS_1 := S.cell 1 _ rfl
  have lS := S.lt
  go_wp2_with fail
  refine (h2.out _).mono ?_
  rintro _ wx2 ⟨rfl, hb⟩
  clear cP_0 cP_1 cP_2 cP_3 cP_4 cP_5 cP_6 lP cS_0 cS_1 lS
  replace P := (P.alloc _).next hb
  replace S := (S.alloc _).next hb
  have A1 := ((Box.new wx1 25 #[.int .i64 s1, .int .i64 s2])).next hb
  replace hB := below_step (below_box hB _) hb
  clear hb
  have cP_0 := P.cell 0 _ rfl
  have cP_1 := P.cell 1 _ rfl
  have cP_2 := P.cell 2 _ rfl
  have cP_3 := P.cell 3 _ rfl
  have cP_4 := P.cell 4 _ rfl
  have cP_5 := P.cell 5 _ rfl
  have cP_6 := P.cell 6 _ rfl
  have lP := P.lt
  have cS_0 := S.cell 0 _ rfl
  have cS_1 := S.cell 1 _ rfl
  have lS := S.lt
  have cA1_0 := A1.cell 0 _ rfl
  have cA1_1 := A1.cell 1 _ rfl
  have lA1 := A1.lt
  go_wp2_with fail
  refine (h3.out _).mono ?_
  rintro _ wx3 ⟨rfl, hb⟩
  clear cP_0 cP_1 cP_2 cP_3 cP_4 cP_5 cP_6 lP cS_0 cS_1 lS cA1_0 cA1_1 lA1
  replace P := (P.alloc _).next hb
  replace S := (S.alloc _).next hb
  replace A1 := (A1.alloc _).next hb
  have B1 := ((Box.new wx2 25 #[.int .i64 s1, .int .i64 s2])).next hb
  replace hB := below_step (below_box hB _) hb
  clear hb
  have cP_0 := P.cell 0 _ rfl
  have cP_1 := P.cell 1 _ rfl
  have cP_2 := P.cell 2 _ rfl
  have cP_3 := P.cell 3 _ rfl
  have cP_4 := P.cell 4 _ rfl
  have cP_5 := P.cell 5 _ rfl
  have cP_6 := P.cell 6 _ rfl
  have lP := P.lt
  have cS_0 := S.cell 0 _ rfl
  have cS_1 := S.cell 1 _ rfl
  have lS := S.lt
  have cA1_0 := A1.cell 0 _ rfl
  have cA1_1 := A1.cell 1 _ rfl
  have lA1 := A1.lt
  have cB1_0 := B1.cell 0 _ rfl
  have cB1_1 := B1.cell 1 _ rfl
  have lB1 := B1.lt
  go_wp2_with fail
  refine (h4.out _).mono ?_
  rintro _ wx4 ⟨rfl, hb⟩
  clear cP_0 cP_1 cP_2 cP_3 cP_4 cP_5 cP_6 lP cS_0 cS_1 lS cA1_0 cA1_1 lA1 cB1_0 cB1_1 lB1
  replace P := (P).next hb
  replace S := (S).next hb
  replace A1 := (A1).next hb
  replace B1 := (B1).next hb
  replace hB := below_step hB hb
  clear hb
  have cP_0 := P.cell 0 _ rfl
  have cP_1 := P.cell 1 _ rfl
  have cP_2 := P.cell 2 _ rfl
  have cP_3 := P.cell 3 _ rfl
  have cP_4 := P.cell 4 _ rfl
  have cP_5 := P.cell 5 _ rfl
  have cP_6 := P.cell 6 _ rfl
  have lP := P.lt
  have cS_0 := S.cell 0 _ rfl
  have cS_1 := S.cell 1 _ rfl
  have lS := S.lt
  have cA1_0 := A1.cell 0 _ rfl
  have cA1_1 := A1.cell 1 _ rfl
  have lA1 := A1.lt
  have cB1_0 := B1.cell 0 _ rfl
  have cB1_1 := B1.cell 1 _ rfl
  have lB1 := B1.lt
  go_wp2_with fail
  refine (h5.out _).mono ?_
  rintro _ wx5 ⟨rfl, hb⟩
  clear cP_0 cP_1 cP_2 cP_3 cP_4 cP_5 cP_6 lP cS_0 cS_1 lS cA1_0 cA1_1 lA1 cB1_0 cB1_1 lB1
  replace P := (P).next hb
  replace S := (S).next hb
  replace A1 := (A1).next hb
  replace B1 := (B1).next hb
  replace hB := below_step hB hb
  clear hb
  have cP_0 := P.cell 0 _ rfl
  have cP_1 := P.cell 1 _ rfl
  have cP_2 := P.cell 2 _ rfl
  have cP_3 := P.cell 3 _ rfl
  have cP_4 := P.cell 4 _ rfl
  have cP_5 := P.cell 5 _ rfl
  have cP_6 := P.cell 6 _ rfl
  have lP := P.lt
  have cS_0 := S.cell 0 _ rfl
  have cS_1 := S.cell 1 _ rfl
  have lS := S.lt
  have cA1_0 := A1.cell 0 _ rfl
  have cA1_1 := A1.cell 1 _ rfl
  have lA1 := A1.lt
  have cB1_0 := B1.cell 0 _ rfl
  have cB1_1 := B1.cell 1 _ rfl
  have lB1 := B1.lt
  go_wp2_with fail
  refine (h6.out _).mono ?_
  rintro _ wx6 ⟨rfl, hb⟩
  clear cP_0 cP_1 cP_2 cP_3 cP_4 cP_5 cP_6 lP cS_0 cS_1 lS cA1_0 cA1_1 lA1 cB1_0 cB1_1 lB1
  replace P := (P.alloc _).next hb
  replace S := (S.alloc _).next hb
  replace A1 := (A1.alloc _).next hb
  replace B1 := (B1.alloc _).next hb
  have A3 := ((Box.new wx5 25 #[.int .i64 n1, .int .i64 n2])).next hb
  replace hB := below_step (below_box hB _) hb
  clear hb
  have cP_0 := P.cell 0 _ rfl
  have cP_1 := P.cell 1 _ rfl
  have cP_2 := P.cell 2 _ rfl
  have cP_3 := P.cell 3 _ rfl
  have cP_4 := P.cell 4 _ rfl
  have cP_5 := P.cell 5 _ rfl
  have cP_6 := P.cell 6 _ rfl
  have lP := P.lt
  have cS_0 := S.cell 0 _ rfl
  have cS_1 := S.cell 1 _ rfl
  have lS := S.lt
  have cA1_0 := A1.cell 0 _ rfl
  have cA1_1 := A1.cell 1 _ rfl
  have lA1 := A1.lt
  have cB1_0 := B1.cell 0 _ rfl
  have cB1_1 := B1.cell 1 _ rfl
  have lB1 := B1.lt
  have cA3_0 := A3.cell 0 _ rfl
  have cA3_1 := A3.cell 1 _ rfl
  have lA3 := A3.lt
  go_wp2_with fail
  refine (h7.out _).mono ?_
  rintro _ wx7 ⟨rfl, hb⟩
  clear cP_0 cP_1 cP_2 cP_3 cP_4 cP_5 cP_6 lP cS_0 cS_1 lS cA1_0 cA1_1 lA1 cB1_0 cB1_1 lB1 cA3_0 cA3_1 lA3
  replace P := (P.alloc _).next hb
  replace S := (S.alloc _).next hb
  replace A1 := (A1.alloc _).next hb
  replace B1 := (B1.alloc _).next hb
  replace A3 := (A3.alloc _).next hb
  have B3 := ((Box.new wx6 25 #[.int .i64 n1, .int .i64 n2])).next hb
  replace hB := below_step (below_box hB _) hb
  clear hb
  have cP_0 := P.cell 0 _ rfl
  have cP_1 := P.cell 1 _ rfl
  have cP_2 := P.cell 2 _ rfl
  have cP_3 := P.cell 3 _ rfl
  have cP_4 := P.cell 4 _ rfl
  have cP_5 := P.cell 5 _ rfl
  have cP_6 := P.cell 6 _ rfl
  have lP := P.lt
  have cS_0 := S.cell 0 _ rfl
  have cS_1 := S.cell 1 _ rfl
  have lS := S.lt
  have cA1_0 := A1.cell 0 _ rfl
  have cA1_1 := A1.cell 1 _ rfl
  have lA1 := A1.lt
  have cB1_0 := B1.cell 0 _ rfl
  have cB1_1 := B1.cell 1 _ rfl
  have lB1 := B1.lt
  have cA3_0 := A3.cell 0 _ rfl
  have cA3_1 := A3.cell 1 _ rfl
  have lA3 := A3.lt
  have cB3_0 := B3.cell 0 _ rfl
  have cB3_1 := B3.cell 1 _ rfl
  have lB3 := B3.lt
  go_wp2_with fail
  refine (h8.out _).mono ?_
  rintro _ wx8 ⟨rfl, hb⟩
  clear cP_0 cP_1 cP_2 cP_3 cP_4 cP_5 cP_6 lP cS_0 cS_1 lS cA1_0 cA1_1 lA1 cB1_0 cB1_1 lB1 cA3_0 cA3_1 lA3 cB3_0 cB3_1 lB3
  replace P := (P).next hb
  replace S := (S).next hb
  replace A1 := (A1).next hb
  replace B1 := (B1).next hb
  replace A3 := (A3).next hb
  replace B3 := (B3).next hb
  replace hB := below_step hB hb
  clear hb
  have iP_0 : ∀ i : Idx wx8, _ := fun i => (P.idx i).cell 0 _ rfl
  have iP_1 : ∀ i : Idx wx8, _ := fun i => (P.idx i).cell 1 _ rfl
  have iP_2 : ∀ i : Idx wx8, _ := fun i => (P.idx i).cell 2 _ rfl
  have iP_3 : ∀ i : Idx wx8, _ := fun i => (P.idx i).cell 3 _ rfl
  have iP_4 : ∀ i : Idx wx8, _ := fun i => (P.idx i).cell 4 _ rfl
  have iP_5 : ∀ i : Idx wx8, _ := fun i => (P.idx i).cell 5 _ rfl
  have iP_6 : ∀ i : Idx wx8, _ := fun i => (P.idx i).cell 6 _ rfl
  have iS_0 : ∀ i : Idx wx8, _ := fun i => (S.idx i).cell 0 _ rfl
  have iS_1 : ∀ i : Idx wx8, _ := fun i => (S.idx i).cell 1 _ rfl
  have iA1_0 : ∀ i : Idx wx8, _ := fun i => (A1.idx i).cell 0 _ rfl
  have iA1_1 : ∀ i : Idx wx8, _ := fun i => (A1.idx i).cell 1 _ rfl
  have iB1_0 : ∀ i : Idx wx8, _ := fun i => (B1.idx i).cell 0 _ rfl
  have iB1_1 : ∀ i : Idx wx8, _ := fun i => (B1.idx i).cell 1 _ rfl
  have iA3_0 : ∀ i : Idx wx8, _ := fun i => (A3.idx i).cell 0 _ rfl
  have iA3_1 : ∀ i : Idx wx8, _ := fun i => (A3.idx i).cell 1 _ rfl
  have iB3_0 : ∀ i : Idx wx8, _ := fun i => (B3.idx i).cell 0 _ rfl
  have iB3_1 : ∀ i : Idx wx8, _ := fun i => (B3.idx i).cell 1 _ rfl
  go_upto_region 9 with fail
  refine wp_region_calm (by kernel_rfl) (by kernel_rfl) ?_
  repeat (quiet_step ((first | (go_at_call 17; exact calm_of (h9.out _)) | (go_at_call 18; exact calm_of (ha.out _)) | (go_at_call 19; exact calm_of (awake_any _)))))
  refine wpQuiet_nil ?_
  rintro _ ⟨⟨wz, hb⟩, rfl⟩
  go_wp2
  go_ret
  exact ⟨rfl, below_step hB hb⟩
theorem scaleSteps_walk (t mi ma up dn cu cd : Int) (c ch : Int) (load now : Int) (w : World) (_ : (Lit.int .i64 t).wf = true) (_ : (Lit.int .i64 mi).wf = true) (_ : (Lit.int .i64 ma).wf = true) (_ : (Lit.int .i64 up).wf = true) (_ : (Lit.int .i64 dn).wf = true) (_ : (Lit.int .i64 cu).wf = true) (_ : (Lit.int .i64 cd).wf = true) (_ : (Lit.int .i64 c).wf = true) (_ : (Lit.int .i64 ch).wf = true) (_ : (Lit.int .i64 load).wf = true) (_ : (Lit.int .i64 now).wf = true) : Calls Try.prog 3 #[.agg #[.int .i64 t, .int .i64 mi, .int .i64 ma, .int .i64 up, .int .i64 dn, .int .i64 cu, .int .i64 cd], .agg #[.int .i64 c, .int .i64 ch], .int .i64 load, .int .i64 now] w fun e w' => e = .returned (.bool true) ∧ Below w.heap.size w w' := steps_walk t mi ma up dn cu cd c ch load now w

theorem bne_true {a : Int} (h : ¬ a = 0) : (a != 0) = true := bne_iff_ne.2 h
theorem bne_false {a : Int} (h : a = 0) : (a != 0) = false := by subst h; rfl
theorem rises_mul (a t : Int) (h1 : 0 ≤ a) (h2 : a ≤ 1000) (h3 : 1 ≤ t) (h4 : t ≤ 1000000000) : 0 ≤ a * t ∧ a * t ≤ 1000000000000 := by
  have k1 := Int.mul_nonneg h1 (show 0 ≤ t by omega)
  have k2 := Int.mul_le_mul_of_nonneg_right h2 (show 0 ≤ t by omega)
  omega
set_option maxHeartbeats 1000000 in
theorem rises_bad (t mi ma up dn cu cd low high a ea b eb : Int) (w : World) (h1 : Hid (∀ W, Calls Try.prog 11 #[.agg #[.int .i64 t, .int .i64 mi, .int .i64 ma, .int .i64 up, .int .i64 dn, .int .i64 cu, .int .i64 cd], .int .i64 low] W fun e w' => e = .returned (.tuple #[.int .i64 a, .int .i64 ea]) ∧ Below W.heap.size W w')) (h2 : Hid (∀ W, Calls Try.prog 11 #[.agg #[.int .i64 t, .int .i64 mi, .int .i64 ma, .int .i64 up, .int .i64 dn, .int .i64 cu, .int .i64 cd], .int .i64 high] W fun e w' => e = .returned (.tuple #[.int .i64 b, .int .i64 eb]) ∧ Below W.heap.size W w'))
    (h : (ea != 0) = true ∨ ((ea != 0) = false ∧ (eb != 0) = true) ∨ ((ea != 0) = false ∧ (eb != 0) = false ∧ high < low)) : Calls Try.prog 7 #[.agg #[.int .i64 t, .int .i64 mi, .int .i64 ma, .int .i64 up, .int .i64 dn, .int .i64 cu, .int .i64 cd], .int .i64 low, .int .i64 high] w fun e w' => e = .returned (.bool true) ∧ Below w.heap.size w w' := by
  rcases h with g1 | ⟨g1, g2⟩ | ⟨g1, g2, g3⟩
  · go_enter Try.func7, Try.ntmps7
    go_wp2_with fail
    refine (h1.out _).mono ?_
    rintro _ wx1 ⟨rfl, hb⟩
    have P := ((Box.new w 23 #[.int .i64 t, .int .i64 mi, .int .i64 ma, .int .i64 up, .int .i64 dn, .int .i64 cu, .int .i64 cd])).next hb
    have hB := below_step (below_box (Below.refl _ w) _) hb
    clear hb
    have cP_0 := P.cell 0 _ rfl
    have cP_1 := P.cell 1 _ rfl
    have cP_2 := P.cell 2 _ rfl
    have cP_3 := P.cell 3 _ rfl
    have cP_4 := P.cell 4 _ rfl
    have cP_5 := P.cell 5 _ rfl
    have cP_6 := P.cell 6 _ rfl
    have lP := P.lt
    go_wp2_with fail
    refine (h2.out _).mono ?_
    rintro _ wx2 ⟨rfl, hb⟩
    clear cP_0 cP_1 cP_2 cP_3 cP_4 cP_5 cP_6 lP
    replace P := (P).next hb
    replace hB := below_step hB hb
    clear hb
    have cP_0 := P.cell 0 _ rfl
    have cP_1 := P.cell 1 _ rfl
    have cP_2 := P.cell 2 _ rfl
    have cP_3 := P.cell 3 _ rfl
    have cP_4 := P.cell 4 _ rfl
    have cP_5 := P.cell 5 _ rfl
    have cP_6 := P.cell 6 _ rfl
    have lP := P.lt
    go_wp2_with fail
    refine (awake_any _).mono ?_
    rintro _ wx3 ⟨rfl, hb⟩
    clear cP_0 cP_1 cP_2 cP_3 cP_4 cP_5 cP_6 lP
    replace P := (P).next hb
    replace hB := below_step hB hb
    clear hb
    go_wp2
    go_ret
    exact ⟨rfl, hB⟩
  · go_enter Try.func7, Try.ntmps7
    go_wp2_with fail
    refine (h1.out _).mono ?_
    rintro _ wx1 ⟨rfl, hb⟩
    have P := ((Box.new w 23 #[.int .i64 t, .int .i64 mi, .int .i64 ma, .int .i64 up, .int .i64 dn, .int .i64 cu, .int .i64 cd])).next hb
    have hB := below_step (below_box (Below.refl _ w) _) hb
    clear hb
    have cP_0 := P.cell 0 _ rfl
    have cP_1 := P.cell 1 _ rfl
    have cP_2 := P.cell 2 _ rfl
    have cP_3 := P.cell 3 _ rfl
    have cP_4 := P.cell 4 _ rfl
    have cP_5 := P.cell 5 _ rfl
    have cP_6 := P.cell 6 _ rfl
    have lP := P.lt
    go_wp2_with fail
    refine (h2.out _).mono ?_
    rintro _ wx2 ⟨rfl, hb⟩
    clear cP_0 cP_1 cP_2 cP_3 cP_4 cP_5 cP_6 lP
    replace P := (P).next hb
    replace hB := below_step hB hb
    clear hb
    have cP_0 := P.cell 0 _ rfl
    have cP_1 := P.cell 1 _ rfl
    have cP_2 := P.cell 2 _ rfl
    have cP_3 := P.cell 3 _ rfl
    have cP_4 := P.cell 4 _ rfl
    have cP_5 := P.cell 5 _ rfl
    have cP_6 := P.cell 6 _ rfl
    have lP := P.lt
    go_wp2_with fail
    refine (awake_any _).mono ?_
    rintro _ wx3 ⟨rfl, hb⟩
    clear cP_0 cP_1 cP_2 cP_3 cP_4 cP_5 cP_6 lP
    replace P := (P).next hb
    replace hB := below_step hB hb
    clear hb
    go_wp2
    go_ret
    exact ⟨rfl, hB⟩
  · go_enter Try.func7, Try.ntmps7
    go_wp2_with fail
    refine (h1.out _).mono ?_
    rintro _ wx1 ⟨rfl, hb⟩
    have P := ((Box.new w 23 #[.int .i64 t, .int .i64 mi, .int .i64 ma, .int .i64 up, .int .i64 dn, .int .i64 cu, .int .i64 cd])).next hb
    have hB := below_step (below_box (Below.refl _ w) _) hb
    clear hb
    have cP_0 := P.cell 0 _ rfl
    have cP_1 := P.cell 1 _ rfl
    have cP_2 := P.cell 2 _ rfl
    have cP_3 := P.cell 3 _ rfl
    have cP_4 := P.cell 4 _ rfl
    have cP_5 := P.cell 5 _ rfl
    have cP_6 := P.cell 6 _ rfl
    have lP := P.lt
    go_wp2_with fail
    refine (h2.out _).mono ?_
    rintro _ wx2 ⟨rfl, hb⟩
    clear cP_0 cP_1 cP_2 cP_3 cP_4 cP_5 cP_6 lP
    replace P := (P).next hb
    replace hB := below_step hB hb
    clear hb
    have cP_0 := P.cell 0 _ rfl
    have cP_1 := P.cell 1 _ rfl
    have cP_2 := P.cell 2 _ rfl
    have cP_3 := P.cell 3 _ rfl
    have cP_4 := P.cell 4 _ rfl
    have cP_5 := P.cell 5 _ rfl
    have cP_6 := P.cell 6 _ rfl
    have lP := P.lt
    go_wp2_with fail
    refine (awake_any _).mono ?_
    rintro _ wx3 ⟨rfl, hb⟩
    clear cP_0 cP_1 cP_2 cP_3 cP_4 cP_5 cP_6 lP
    replace P := (P).next hb
    replace hB := below_step hB hb
    clear hb
    go_wp2
    go_ret
    exact ⟨rfl, hB⟩
set_option maxHeartbeats 1000000 in
theorem rises_good (t mi ma up dn cu cd low high a b : Int) (w : World) (h1 : Hid (∀ W, Calls Try.prog 11 #[.agg #[.int .i64 t, .int .i64 mi, .int .i64 ma, .int .i64 up, .int .i64 dn, .int .i64 cu, .int .i64 cd], .int .i64 low] W fun e w' => e = .returned (.tuple #[.int .i64 a, .int .i64 0]) ∧ Below W.heap.size W w')) (h2 : Hid (∀ W, Calls Try.prog 11 #[.agg #[.int .i64 t, .int .i64 mi, .int .i64 ma, .int .i64 up, .int .i64 dn, .int .i64 cu, .int .i64 cd], .int .i64 high] W fun e w' => e = .returned (.tuple #[.int .i64 b, .int .i64 0]) ∧ Below W.heap.size W w'))
    (g1 : low ≤ high) (g2 : a ≤ b) (g3 : ((a == ma) = true) ∨ ((a == ma) = false ∧ low ≤ a * t)) (g4 : 0 ≤ a * t) (g5 : a * t ≤ 1000000000000) : Calls Try.prog 7 #[.agg #[.int .i64 t, .int .i64 mi, .int .i64 ma, .int .i64 up, .int .i64 dn, .int .i64 cu, .int .i64 cd], .int .i64 low, .int .i64 high] w fun e w' => e = .returned (.bool true) ∧ Below w.heap.size w w' := by
  rcases g3 with g3 | ⟨g3, g6⟩
  · go_enter Try.func7, Try.ntmps7
    go_wp2_with fail
    refine (h1.out _).mono ?_
    rintro _ wx1 ⟨rfl, hb⟩
    have P := ((Box.new w 23 #[.int .i64 t, .int .i64 mi, .int .i64 ma, .int .i64 up, .int .i64 dn, .int .i64 cu, .int .i64 cd])).next hb
    have hB := below_step (below_box (Below.refl _ w) _) hb
    clear hb
    have cP_0 := P.cell 0 _ rfl
    have cP_1 := P.cell 1 _ rfl
    have cP_2 := P.cell 2 _ rfl
    have cP_3 := P.cell 3 _ rfl
    have cP_4 := P.cell 4 _ rfl
    have cP_5 := P.cell 5 _ rfl
    have cP_6 := P.cell 6 _ rfl
    have lP := P.lt
    go_wp2_with fail
    refine (h2.out _).mono ?_
    rintro _ wx2 ⟨rfl, hb⟩
    clear cP_0 cP_1 cP_2 cP_3 cP_4 cP_5 cP_6 lP
    replace P := (P).next hb
    replace hB := below_step hB hb
    clear hb
    have cP_0 := P.cell 0 _ rfl
    have cP_1 := P.cell 1 _ rfl
    have cP_2 := P.cell 2 _ rfl
    have cP_3 := P.cell 3 _ rfl
    have cP_4 := P.cell 4 _ rfl
    have cP_5 := P.cell 5 _ rfl
    have cP_6 := P.cell 6 _ rfl
    have lP := P.lt
    go_wp2_with fail
    refine (awake_any _).mono ?_
    rintro _ wx3 ⟨rfl, hb⟩
    clear cP_0 cP_1 cP_2 cP_3 cP_4 cP_5 cP_6 lP
    replace P := (P).next hb
    replace hB := below_step hB hb
    clear hb
    go_wp2
    go_ret
    exact ⟨rfl, hB⟩
  · go_enter Try.func7, Try.ntmps7
    go_wp2_with fail
    refine (h1.out _).mono ?_
    rintro _ wx1 ⟨rfl, hb⟩
    have P := ((Box.new w 23 #[.int .i64 t, .int .i64 mi, .int .i64 ma, .int .i64 up, .int .i64 dn, .int .i64 cu, .int .i64 cd])).next hb
    have hB := below_step (below_box (Below.refl _ w) _) hb
    clear hb
    have cP_0 := P.cell 0 _ rfl
    have cP_1 := P.cell 1 _ rfl
    have cP_2 := P.cell 2 _ rfl
    have cP_3 := P.cell 3 _ rfl
    have cP_4 := P.cell 4 _ rfl
    have cP_5 := P.cell 5 _ rfl
    have cP_6 := P.cell 6 _ rfl
    have lP := P.lt
    go_wp2_with fail
    refine (h2.out _).mono ?_
    rintro _ wx2 ⟨rfl, hb⟩
    clear cP_0 cP_1 cP_2 cP_3 cP_4 cP_5 cP_6 lP
    replace P := (P).next hb
    replace hB := below_step hB hb
    clear hb
    have cP_0 := P.cell 0 _ rfl
    have cP_1 := P.cell 1 _ rfl
    have cP_2 := P.cell 2 _ rfl
    have cP_3 := P.cell 3 _ rfl
    have cP_4 := P.cell 4 _ rfl
    have cP_5 := P.cell 5 _ rfl
    have cP_6 := P.cell 6 _ rfl
    have lP := P.lt
    go_wp2_with fail
    refine (awake_any _).mono ?_
    rintro _ wx3 ⟨rfl, hb⟩
    clear cP_0 cP_1 cP_2 cP_3 cP_4 cP_5 cP_6 lP
    replace P := (P).next hb
    replace hB := below_step hB hb
    clear hb
    go_wp2
    go_ret
    exact ⟨rfl, hB⟩
theorem rises_walk (t mi ma up dn cu cd low high : Int) (w : World) : Calls Try.prog 7 #[.agg #[.int .i64 t, .int .i64 mi, .int .i64 ma, .int .i64 up, .int .i64 dn, .int .i64 cu, .int .i64 cd], .int .i64 low, .int .i64 high] w fun e w' => e = .returned (.bool true) ∧ Below w.heap.size w w' := by
  have h1 : Hid (∀ W, _) := fun W => des_any t mi ma up dn cu cd low W
  have h2 : Hid (∀ W, _) := fun W => des_any t mi ma up dn cu cd high W
  by_cases e1 : (desV t mi ma up dn cu cd low).e = 0
  · by_cases e2 : (desV t mi ma up dn cu cd high).e = 0
    · obtain ⟨hp, _, _, ea⟩ := des_open t mi ma up dn cu cd low e1
      obtain ⟨_, _, _, eb⟩ := des_open t mi ma up dn cu cd high e2
      obtain ⟨p1, p2, p3, p4, p5, _⟩ := (polB_iff t mi ma up dn cu cd).1 hp
      rw [ea] at h1
      rw [eb] at h2
      by_cases hl : low ≤ high
      · have hd := desI_bd t mi ma low p4
        have hm := rises_mul (desI t mi ma low) t (by omega) (by omega) p1 p2
        refine rises_good t mi ma up dn cu cd low high _ _ w h1 h2 hl (desI_mono t mi ma low high p1 p4 hl) ?_ hm.1 hm.2
        by_cases hq : desI t mi ma low = ma
        · exact .inl (by simpa using hq)
        · exact .inr ⟨by simpa using hq, desI_room t mi ma low p1 p4 hq⟩
      · exact rises_bad t mi ma up dn cu cd low high _ _ _ _ w h1 h2 (.inr (.inr ⟨rfl, rfl, by omega⟩))
    · exact rises_bad t mi ma up dn cu cd low high _ _ _ _ w h1 h2 (.inr (.inl ⟨bne_false e1, bne_true e2⟩))
  · exact rises_bad t mi ma up dn cu cd low high _ _ _ _ w h1 h2 (.inl (bne_true e1))
theorem scaleRises_walk (t mi ma up dn cu cd : Int) (low high : Int) (w : World) (_ : (Lit.int .i64 t).wf = true) (_ : (Lit.int .i64 mi).wf = true) (_ : (Lit.int .i64 ma).wf = true) (_ : (Lit.int .i64 up).wf = true) (_ : (Lit.int .i64 dn).wf = true) (_ : (Lit.int .i64 cu).wf = true) (_ : (Lit.int .i64 cd).wf = true) (_ : (Lit.int .i64 low).wf = true) (_ : (Lit.int .i64 high).wf = true) : Calls Try.prog 7 #[.agg #[.int .i64 t, .int .i64 mi, .int .i64 ma, .int .i64 up, .int .i64 dn, .int .i64 cu, .int .i64 cd], .int .i64 low, .int .i64 high] w fun e w' => e = .returned (.bool true) ∧ Below w.heap.size w w' := rises_walk t mi ma up dn cu cd low high w

end Go.Proofs.Ytndpecjkoffebaa
