/- Units of layer 34 (meter) and of its reference, for all arguments. -/
import Derived.Test.YtdlkpohjeedbiaaE
namespace Go.Proofs.Ytdlkpohjeedbiaa
open Go.ChangeShapes Go.WideShapes Go.ChangeAt Go.RowKit
attribute [local go_sem] ownAt ownUpon mixAt mixUpon

set_option maxHeartbeats 1000000 in
theorem runit_m (sp gr c t : Int) (w : World) (HC : Hid (∀ W, Calls Try.prog 16 #[.agg #[.int .i64 sp, .int .i64 gr]] W fun e w' => e = .returned (.int .i64 0) ∧ Below W.heap.size W w')) (h1 : 0 ≤ c) (h2 : c ≤ 1000000000000) (h3 : 0 ≤ t) (h4 : t ≤ 1000000000000) (h7 : 1 ≤ gr) (h8 : gr ≤ 1000000000) (HMU : Hid (∀ W, Calls Try.prog 27 #[.int .i64 c, .int .i64 (t / gr)] W fun e w' => e = .returned (.tuple #[.int .i64 0, .int .i64 8]) ∧ W = w')) : Calls Try.prog 13 #[.agg #[.int .i64 sp, .int .i64 gr], .int .i64 c, .int .i64 t] w fun e w' => e = .returned (.tuple #[.int .i64 0, .int .i64 8]) ∧ Below w.heap.size w w' := by
  have z : (gr == 0) = false := beq_eq_false_iff_ne.2 (by omega)
  have q1 : 0 ≤ t / gr := Int.ediv_nonneg h3 (by omega)
  have q2 : t / gr ≤ t := Int.ediv_le_self _ h3
  go_enter Try.func13, Try.ntmps13
  go_wp2_with fail
  refine (HC.out _).mono ?_
  rintro _ wx1 ⟨rfl, hb⟩
  have P := ((Box.new w 23 #[.int .i64 sp, .int .i64 gr])).next hb
  have hB := below_step (below_box (Below.refl _ w) _) hb
  clear hb
  have cP_0 := P.cell 0 _ rfl
  have cP_1 := P.cell 1 _ rfl
  have lP := P.lt
  go_wp2_with fail
  refine (amt_yes _ _ (by omega) (by omega)).mono ?_
  rintro _ wy2 ⟨rfl, rfl⟩
  go_wp2_with fail
  refine (amt_yes _ _ (by omega) (by omega)).mono ?_
  rintro _ wy3 ⟨rfl, rfl⟩
  go_wp2_with fail
  refine (HMU.out _).mono ?_
  rintro _ wy4 ⟨rfl, rfl⟩
  have cP_0 := P.cell 0 _ rfl
  have cP_1 := P.cell 1 _ rfl
  have lP := P.lt
  go_wp2
  go_ret2
  exact ⟨rfl, hB⟩
set_option maxHeartbeats 1000000 in
theorem runit_x (sp gr c t wv pv : Int) (w : World) (HC : Hid (∀ W, Calls Try.prog 16 #[.agg #[.int .i64 sp, .int .i64 gr]] W fun e w' => e = .returned (.int .i64 0) ∧ Below W.heap.size W w')) (h1 : 0 ≤ c) (h2 : c ≤ 1000000000000) (h3 : 0 ≤ t) (h4 : t ≤ 1000000000000) (h7 : 1 ≤ gr) (h8 : gr ≤ 1000000000) (HMU : Hid (∀ W, Calls Try.prog 27 #[.int .i64 c, .int .i64 (t / gr)] W fun e w' => e = .returned (.tuple #[.int .i64 wv, .int .i64 0]) ∧ W = w')) (HMD : Hid (∀ W, Calls Try.prog 28 #[.int .i64 c, .int .i64 (t % gr), .int .i64 gr] W fun e w' => e = .returned (.tuple #[.int .i64 pv, .int .i64 0]) ∧ Below W.heap.size W w')) (HL : Hid (∀ W, Calls Try.prog 29 #[.int .i64 (c % gr), .int .i64 (t % gr), .int .i64 gr] W fun e w' => e = .returned (.bool false) ∧ W = w')) (g1 : 0 ≤ wv) (g2 : wv ≤ 1000000000000) (g3 : 0 ≤ pv) (g4 : pv ≤ 1000000000000) (g : wv + pv ≤ 1000000000000) : Calls Try.prog 13 #[.agg #[.int .i64 sp, .int .i64 gr], .int .i64 c, .int .i64 t] w fun e w' => e = .returned (.tuple #[.int .i64 (wv + pv), .int .i64 0]) ∧ Below w.heap.size w w' := by
  have z : (gr == 0) = false := beq_eq_false_iff_ne.2 (by omega)
  have q1 : 0 ≤ t / gr := Int.ediv_nonneg h3 (by omega)
  have q2 : t / gr ≤ t := Int.ediv_le_self _ h3
  go_enter Try.func13, Try.ntmps13
  go_wp2_with fail
  refine (HC.out _).mono ?_
  rintro _ wx1 ⟨rfl, hb⟩
  have P := ((Box.new w 23 #[.int .i64 sp, .int .i64 gr])).next hb
  have hB := below_step (below_box (Below.refl _ w) _) hb
  clear hb
  have cP_0 := P.cell 0 _ rfl
  have cP_1 := P.cell 1 _ rfl
  have lP := P.lt
  go_wp2_with fail
  refine (amt_yes _ _ (by omega) (by omega)).mono ?_
  rintro _ wy2 ⟨rfl, rfl⟩
  go_wp2_with fail
  refine (amt_yes _ _ (by omega) (by omega)).mono ?_
  rintro _ wy3 ⟨rfl, rfl⟩
  go_wp2_with fail
  refine (HMU.out _).mono ?_
  rintro _ wy4 ⟨rfl, rfl⟩
  go_upto_region 6 with fail
  have z2 : (gr = 0) = False := by simp; omega
  have hr : t.tmod gr = t % gr := Int.tmod_eq_emod_of_nonneg h3
  have hc : c.tmod gr = c % gr := Int.tmod_eq_emod_of_nonneg h1
  have r1 : 0 ≤ t % gr := Int.emod_nonneg _ (by omega)
  have r2 : t % gr < gr := Int.emod_lt_of_pos _ (by omega)
  have r3 : 0 ≤ c % gr := Int.emod_nonneg _ (by omega)
  have r4 : c % gr < gr := Int.emod_lt_of_pos _ (by omega)
  have s1 : IntKind.i64.wrap (t % gr) = t % gr := IntWalk.i64_in _ (by omega)
  have s2 : IntKind.i64.wrap (c % gr) = c % gr := IntWalk.i64_in _ (by omega)
  clear cP_0 cP_1 lP
  have iP_0 : ∀ i : Idx wx1, _ := fun i => (P.idx i).cell 0 _ rfl
  have iP_1 : ∀ i : Idx wx1, _ := fun i => (P.idx i).cell 1 _ rfl
  refine wp_region_mix [0, 0, 0, 0, 0, 0, 0, 0, 1, 1, 1, 1, 1] (by kernel_rfl) (by kernel_rfl) ?_
  iterate 7 (refine wpMix_calm (fun K hK => ?_); go_simp; refine hK _ ?_; clear hK K)
  refine wpMix_calm (fun K hK => ?_)
  go_simp
  apply Exists.intro
  refine ⟨fun _ => ?_, hK _ ?_⟩
  go_at_call 28
  exact (HMD.out _)
  clear hK K
  iterate 5 (refine wpMix_pure (fun K hK => ?_); go_simp; refine hK _ ?_; clear hK K)
  refine wpMix_nil (fun wx5 hb => ?_)
  clear iP_0 iP_1
  replace P := (P).next hb
  replace hB := below_step hB hb
  clear hb
  go_upto_region 10 with fail
  have iP_0 : ∀ i : Idx wx5, _ := fun i => (P.idx i).cell 0 _ rfl
  have iP_1 : ∀ i : Idx wx5, _ := fun i => (P.idx i).cell 1 _ rfl
  refine wp_region_mix [0, 0, 0, 0, 0, 0, 0, 0, 0, 0, 0] (by kernel_rfl) (by kernel_rfl) ?_
  iterate 10 (refine wpMix_calm (fun K hK => ?_); go_simp; refine hK _ ?_; clear hK K)
  refine wpMix_calm (fun K hK => ?_)
  go_simp
  apply Exists.intro
  refine ⟨fun _ => ?_, hK _ ?_⟩
  go_at_call 29
  exact ((HL.out _).mono fun e w9 h9 => ⟨h9.1, by rw [← h9.2]; exact Below.refl _ _⟩)
  clear hK K
  refine wpMix_nil (fun wx6 hb => ?_)
  clear iP_0 iP_1
  replace P := (P).next hb
  replace hB := below_step hB hb
  clear hb
  clear s1 s2 z2
  have cP_0 := P.cell 0 _ rfl
  have cP_1 := P.cell 1 _ rfl
  have lP := P.lt
  go_wp2_with fail
  refine (amt_yes _ _ (by omega) (by omega)).mono ?_
  rintro _ wy7 ⟨rfl, rfl⟩
  go_wp2
  go_ret2
  exact ⟨rfl, hB⟩
set_option maxHeartbeats 1000000 in
theorem runit_xo (sp gr c t wv pv : Int) (w : World) (HC : Hid (∀ W, Calls Try.prog 16 #[.agg #[.int .i64 sp, .int .i64 gr]] W fun e w' => e = .returned (.int .i64 0) ∧ Below W.heap.size W w')) (h1 : 0 ≤ c) (h2 : c ≤ 1000000000000) (h3 : 0 ≤ t) (h4 : t ≤ 1000000000000) (h7 : 1 ≤ gr) (h8 : gr ≤ 1000000000) (HMU : Hid (∀ W, Calls Try.prog 27 #[.int .i64 c, .int .i64 (t / gr)] W fun e w' => e = .returned (.tuple #[.int .i64 wv, .int .i64 0]) ∧ W = w')) (HMD : Hid (∀ W, Calls Try.prog 28 #[.int .i64 c, .int .i64 (t % gr), .int .i64 gr] W fun e w' => e = .returned (.tuple #[.int .i64 pv, .int .i64 0]) ∧ Below W.heap.size W w')) (HL : Hid (∀ W, Calls Try.prog 29 #[.int .i64 (c % gr), .int .i64 (t % gr), .int .i64 gr] W fun e w' => e = .returned (.bool false) ∧ W = w')) (g1 : 0 ≤ wv) (g2 : wv ≤ 1000000000000) (g3 : 0 ≤ pv) (g4 : pv ≤ 1000000000000) (g : 1000000000000 < wv + pv) : Calls Try.prog 13 #[.agg #[.int .i64 sp, .int .i64 gr], .int .i64 c, .int .i64 t] w fun e w' => e = .returned (.tuple #[.int .i64 0, .int .i64 8]) ∧ Below w.heap.size w w' := by
  have z : (gr == 0) = false := beq_eq_false_iff_ne.2 (by omega)
  have q1 : 0 ≤ t / gr := Int.ediv_nonneg h3 (by omega)
  have q2 : t / gr ≤ t := Int.ediv_le_self _ h3
  go_enter Try.func13, Try.ntmps13
  go_wp2_with fail
  refine (HC.out _).mono ?_
  rintro _ wx1 ⟨rfl, hb⟩
  have P := ((Box.new w 23 #[.int .i64 sp, .int .i64 gr])).next hb
  have hB := below_step (below_box (Below.refl _ w) _) hb
  clear hb
  have cP_0 := P.cell 0 _ rfl
  have cP_1 := P.cell 1 _ rfl
  have lP := P.lt
  go_wp2_with fail
  refine (amt_yes _ _ (by omega) (by omega)).mono ?_
  rintro _ wy2 ⟨rfl, rfl⟩
  go_wp2_with fail
  refine (amt_yes _ _ (by omega) (by omega)).mono ?_
  rintro _ wy3 ⟨rfl, rfl⟩
  go_wp2_with fail
  refine (HMU.out _).mono ?_
  rintro _ wy4 ⟨rfl, rfl⟩
  go_upto_region 6 with fail
  have z2 : (gr = 0) = False := by simp; omega
  have hr : t.tmod gr = t % gr := Int.tmod_eq_emod_of_nonneg h3
  have hc : c.tmod gr = c % gr := Int.tmod_eq_emod_of_nonneg h1
  have r1 : 0 ≤ t % gr := Int.emod_nonneg _ (by omega)
  have r2 : t % gr < gr := Int.emod_lt_of_pos _ (by omega)
  have r3 : 0 ≤ c % gr := Int.emod_nonneg _ (by omega)
  have r4 : c % gr < gr := Int.emod_lt_of_pos _ (by omega)
  have s1 : IntKind.i64.wrap (t % gr) = t % gr := IntWalk.i64_in _ (by omega)
  have s2 : IntKind.i64.wrap (c % gr) = c % gr := IntWalk.i64_in _ (by omega)
  clear cP_0 cP_1 lP
  have iP_0 : ∀ i : Idx wx1, _ := fun i => (P.idx i).cell 0 _ rfl
  have iP_1 : ∀ i : Idx wx1, _ := fun i => (P.idx i).cell 1 _ rfl
  refine wp_region_mix [0, 0, 0, 0, 0, 0, 0, 0, 1, 1, 1, 1, 1] (by kernel_rfl) (by kernel_rfl) ?_
  iterate 7 (refine wpMix_calm (fun K hK => ?_); go_simp; refine hK _ ?_; clear hK K)
  refine wpMix_calm (fun K hK => ?_)
  go_simp
  apply Exists.intro
  refine ⟨fun _ => ?_, hK _ ?_⟩
  go_at_call 28
  exact (HMD.out _)
  clear hK K
  iterate 5 (refine wpMix_pure (fun K hK => ?_); go_simp; refine hK _ ?_; clear hK K)
  refine wpMix_nil (fun wx5 hb => ?_)
  clear iP_0 iP_1
  replace P := (P).next hb
  replace hB := below_step hB hb
  clear hb
  go_upto_region 10 with fail
  have iP_0 : ∀ i : Idx wx5, _ := fun i => (P.idx i).cell 0 _ rfl
  have iP_1 : ∀ i : Idx wx5, _ := fun i => (P.idx i).cell 1 _ rfl
  refine wp_region_mix [0, 0, 0, 0, 0, 0, 0, 0, 0, 0, 0] (by kernel_rfl) (by kernel_rfl) ?_
  iterate 10 (refine wpMix_calm (fun K hK => ?_); go_simp; refine hK _ ?_; clear hK K)
  refine wpMix_calm (fun K hK => ?_)
  go_simp
  apply Exists.intro
  refine ⟨fun _ => ?_, hK _ ?_⟩
  go_at_call 29
  exact ((HL.out _).mono fun e w9 h9 => ⟨h9.1, by rw [← h9.2]; exact Below.refl _ _⟩)
  clear hK K
  refine wpMix_nil (fun wx6 hb => ?_)
  clear iP_0 iP_1
  replace P := (P).next hb
  replace hB := below_step hB hb
  clear hb
  clear s1 s2 z2
  have cP_0 := P.cell 0 _ rfl
  have cP_1 := P.cell 1 _ rfl
  have lP := P.lt
  go_wp2_with fail
  refine (amt_no _ _ (by omega)).mono ?_
  rintro _ wy7 ⟨rfl, rfl⟩
  go_wp2
  go_ret2
  exact ⟨rfl, hB⟩
set_option maxHeartbeats 1000000 in
theorem runit_u (sp gr c t wv pv : Int) (w : World) (HC : Hid (∀ W, Calls Try.prog 16 #[.agg #[.int .i64 sp, .int .i64 gr]] W fun e w' => e = .returned (.int .i64 0) ∧ Below W.heap.size W w')) (h1 : 0 ≤ c) (h2 : c ≤ 1000000000000) (h3 : 0 ≤ t) (h4 : t ≤ 1000000000000) (h7 : 1 ≤ gr) (h8 : gr ≤ 1000000000) (HMU : Hid (∀ W, Calls Try.prog 27 #[.int .i64 c, .int .i64 (t / gr)] W fun e w' => e = .returned (.tuple #[.int .i64 wv, .int .i64 0]) ∧ W = w')) (HMD : Hid (∀ W, Calls Try.prog 28 #[.int .i64 c, .int .i64 (t % gr), .int .i64 gr] W fun e w' => e = .returned (.tuple #[.int .i64 pv, .int .i64 0]) ∧ Below W.heap.size W w')) (HL : Hid (∀ W, Calls Try.prog 29 #[.int .i64 (c % gr), .int .i64 (t % gr), .int .i64 gr] W fun e w' => e = .returned (.bool true) ∧ W = w')) (g1 : 0 ≤ wv) (g2 : wv ≤ 1000000000000) (g3 : 0 ≤ pv) (g4 : pv ≤ 1000000000000) (g : wv + pv + 1 ≤ 1000000000000) : Calls Try.prog 13 #[.agg #[.int .i64 sp, .int .i64 gr], .int .i64 c, .int .i64 t] w fun e w' => e = .returned (.tuple #[.int .i64 (wv + pv + 1), .int .i64 0]) ∧ Below w.heap.size w w' := by
  have z : (gr == 0) = false := beq_eq_false_iff_ne.2 (by omega)
  have q1 : 0 ≤ t / gr := Int.ediv_nonneg h3 (by omega)
  have q2 : t / gr ≤ t := Int.ediv_le_self _ h3
  go_enter Try.func13, Try.ntmps13
  go_wp2_with fail
  refine (HC.out _).mono ?_
  rintro _ wx1 ⟨rfl, hb⟩
  have P := ((Box.new w 23 #[.int .i64 sp, .int .i64 gr])).next hb
  have hB := below_step (below_box (Below.refl _ w) _) hb
  clear hb
  have cP_0 := P.cell 0 _ rfl
  have cP_1 := P.cell 1 _ rfl
  have lP := P.lt
  go_wp2_with fail
  refine (amt_yes _ _ (by omega) (by omega)).mono ?_
  rintro _ wy2 ⟨rfl, rfl⟩
  go_wp2_with fail
  refine (amt_yes _ _ (by omega) (by omega)).mono ?_
  rintro _ wy3 ⟨rfl, rfl⟩
  go_wp2_with fail
  refine (HMU.out _).mono ?_
  rintro _ wy4 ⟨rfl, rfl⟩
  go_upto_region 6 with fail
  have z2 : (gr = 0) = False := by simp; omega
  have hr : t.tmod gr = t % gr := Int.tmod_eq_emod_of_nonneg h3
  have hc : c.tmod gr = c % gr := Int.tmod_eq_emod_of_nonneg h1
  have r1 : 0 ≤ t % gr := Int.emod_nonneg _ (by omega)
  have r2 : t % gr < gr := Int.emod_lt_of_pos _ (by omega)
  have r3 : 0 ≤ c % gr := Int.emod_nonneg _ (by omega)
  have r4 : c % gr < gr := Int.emod_lt_of_pos _ (by omega)
  have s1 : IntKind.i64.wrap (t % gr) = t % gr := IntWalk.i64_in _ (by omega)
  have s2 : IntKind.i64.wrap (c % gr) = c % gr := IntWalk.i64_in _ (by omega)
  clear cP_0 cP_1 lP
  have iP_0 : ∀ i : Idx wx1, _ := fun i => (P.idx i).cell 0 _ rfl
  have iP_1 : ∀ i : Idx wx1, _ := fun i => (P.idx i).cell 1 _ rfl
  refine wp_region_mix [0, 0, 0, 0, 0, 0, 0, 0, 1, 1, 1, 1, 1] (by kernel_rfl) (by kernel_rfl) ?_
  iterate 7 (refine wpMix_calm (fun K hK => ?_); go_simp; refine hK _ ?_; clear hK K)
  refine wpMix_calm (fun K hK => ?_)
  go_simp
  apply Exists.intro
  refine ⟨fun _ => ?_, hK _ ?_⟩
  go_at_call 28
  exact (HMD.out _)
  clear hK K
  iterate 5 (refine wpMix_pure (fun K hK => ?_); go_simp; refine hK _ ?_; clear hK K)
  refine wpMix_nil (fun wx5 hb => ?_)
  clear iP_0 iP_1
  replace P := (P).next hb
  replace hB := below_step hB hb
  clear hb
  go_upto_region 10 with fail
  have iP_0 : ∀ i : Idx wx5, _ := fun i => (P.idx i).cell 0 _ rfl
  have iP_1 : ∀ i : Idx wx5, _ := fun i => (P.idx i).cell 1 _ rfl
  refine wp_region_mix [0, 0, 0, 0, 0, 0, 0, 0, 0, 0, 0] (by kernel_rfl) (by kernel_rfl) ?_
  iterate 10 (refine wpMix_calm (fun K hK => ?_); go_simp; refine hK _ ?_; clear hK K)
  refine wpMix_calm (fun K hK => ?_)
  go_simp
  apply Exists.intro
  refine ⟨fun _ => ?_, hK _ ?_⟩
  go_at_call 29
  exact ((HL.out _).mono fun e w9 h9 => ⟨h9.1, by rw [← h9.2]; exact Below.refl _ _⟩)
  clear hK K
  refine wpMix_nil (fun wx6 hb => ?_)
  clear iP_0 iP_1
  replace P := (P).next hb
  replace hB := below_step hB hb
  clear hb
  clear s1 s2 z2
  have cP_0 := P.cell 0 _ rfl
  have cP_1 := P.cell 1 _ rfl
  have lP := P.lt
  go_wp2_with fail
  refine (amt_yes _ _ (by omega) (by omega)).mono ?_
  rintro _ wy7 ⟨rfl, rfl⟩
  go_wp2
  go_ret2
  exact ⟨rfl, hB⟩
set_option maxHeartbeats 1000000 in
theorem runit_uo (sp gr c t wv pv : Int) (w : World) (HC : Hid (∀ W, Calls Try.prog 16 #[.agg #[.int .i64 sp, .int .i64 gr]] W fun e w' => e = .returned (.int .i64 0) ∧ Below W.heap.size W w')) (h1 : 0 ≤ c) (h2 : c ≤ 1000000000000) (h3 : 0 ≤ t) (h4 : t ≤ 1000000000000) (h7 : 1 ≤ gr) (h8 : gr ≤ 1000000000) (HMU : Hid (∀ W, Calls Try.prog 27 #[.int .i64 c, .int .i64 (t / gr)] W fun e w' => e = .returned (.tuple #[.int .i64 wv, .int .i64 0]) ∧ W = w')) (HMD : Hid (∀ W, Calls Try.prog 28 #[.int .i64 c, .int .i64 (t % gr), .int .i64 gr] W fun e w' => e = .returned (.tuple #[.int .i64 pv, .int .i64 0]) ∧ Below W.heap.size W w')) (HL : Hid (∀ W, Calls Try.prog 29 #[.int .i64 (c % gr), .int .i64 (t % gr), .int .i64 gr] W fun e w' => e = .returned (.bool true) ∧ W = w')) (g1 : 0 ≤ wv) (g2 : wv ≤ 1000000000000) (g3 : 0 ≤ pv) (g4 : pv ≤ 1000000000000) (g : 1000000000000 < wv + pv + 1) : Calls Try.prog 13 #[.agg #[.int .i64 sp, .int .i64 gr], .int .i64 c, .int .i64 t] w fun e w' => e = .returned (.tuple #[.int .i64 0, .int .i64 8]) ∧ Below w.heap.size w w' := by
  have z : (gr == 0) = false := beq_eq_false_iff_ne.2 (by omega)
  have q1 : 0 ≤ t / gr := Int.ediv_nonneg h3 (by omega)
  have q2 : t / gr ≤ t := Int.ediv_le_self _ h3
  go_enter Try.func13, Try.ntmps13
  go_wp2_with fail
  refine (HC.out _).mono ?_
  rintro _ wx1 ⟨rfl, hb⟩
  have P := ((Box.new w 23 #[.int .i64 sp, .int .i64 gr])).next hb
  have hB := below_step (below_box (Below.refl _ w) _) hb
  clear hb
  have cP_0 := P.cell 0 _ rfl
  have cP_1 := P.cell 1 _ rfl
  have lP := P.lt
  go_wp2_with fail
  refine (amt_yes _ _ (by omega) (by omega)).mono ?_
  rintro _ wy2 ⟨rfl, rfl⟩
  go_wp2_with fail
  refine (amt_yes _ _ (by omega) (by omega)).mono ?_
  rintro _ wy3 ⟨rfl, rfl⟩
  go_wp2_with fail
  refine (HMU.out _).mono ?_
  rintro _ wy4 ⟨rfl, rfl⟩
  go_upto_region 6 with fail
  have z2 : (gr = 0) = False := by simp; omega
  have hr : t.tmod gr = t % gr := Int.tmod_eq_emod_of_nonneg h3
  have hc : c.tmod gr = c % gr := Int.tmod_eq_emod_of_nonneg h1
  have r1 : 0 ≤ t % gr := Int.emod_nonneg _ (by omega)
  have r2 : t % gr < gr := Int.emod_lt_of_pos _ (by omega)
  have r3 : 0 ≤ c % gr := Int.emod_nonneg _ (by omega)
  have r4 : c % gr < gr := Int.emod_lt_of_pos _ (by omega)
  have s1 : IntKind.i64.wrap (t % gr) = t % gr := IntWalk.i64_in _ (by omega)
  have s2 : IntKind.i64.wrap (c % gr) = c % gr := IntWalk.i64_in _ (by omega)
  clear cP_0 cP_1 lP
  have iP_0 : ∀ i : Idx wx1, _ := fun i => (P.idx i).cell 0 _ rfl
  have iP_1 : ∀ i : Idx wx1, _ := fun i => (P.idx i).cell 1 _ rfl
  refine wp_region_mix [0, 0, 0, 0, 0, 0, 0, 0, 1, 1, 1, 1, 1] (by kernel_rfl) (by kernel_rfl) ?_
  iterate 7 (refine wpMix_calm (fun K hK => ?_); go_simp; refine hK _ ?_; clear hK K)
  refine wpMix_calm (fun K hK => ?_)
  go_simp
  apply Exists.intro
  refine ⟨fun _ => ?_, hK _ ?_⟩
  go_at_call 28
  exact (HMD.out _)
  clear hK K
  iterate 5 (refine wpMix_pure (fun K hK => ?_); go_simp; refine hK _ ?_; clear hK K)
  refine wpMix_nil (fun wx5 hb => ?_)
  clear iP_0 iP_1
  replace P := (P).next hb
  replace hB := below_step hB hb
  clear hb
  go_upto_region 10 with fail
  have iP_0 : ∀ i : Idx wx5, _ := fun i => (P.idx i).cell 0 _ rfl
  have iP_1 : ∀ i : Idx wx5, _ := fun i => (P.idx i).cell 1 _ rfl
  refine wp_region_mix [0, 0, 0, 0, 0, 0, 0, 0, 0, 0, 0] (by kernel_rfl) (by kernel_rfl) ?_
  iterate 10 (refine wpMix_calm (fun K hK => ?_); go_simp; refine hK _ ?_; clear hK K)
  refine wpMix_calm (fun K hK => ?_)
  go_simp
  apply Exists.intro
  refine ⟨fun _ => ?_, hK _ ?_⟩
  go_at_call 29
  exact ((HL.out _).mono fun e w9 h9 => ⟨h9.1, by rw [← h9.2]; exact Below.refl _ _⟩)
  clear hK K
  refine wpMix_nil (fun wx6 hb => ?_)
  clear iP_0 iP_1
  replace P := (P).next hb
  replace hB := below_step hB hb
  clear hb
  clear s1 s2 z2
  have cP_0 := P.cell 0 _ rfl
  have cP_1 := P.cell 1 _ rfl
  have lP := P.lt
  go_wp2_with fail
  refine (amt_no _ _ (by omega)).mono ?_
  rintro _ wy7 ⟨rfl, rfl⟩
  go_wp2
  go_ret2
  exact ⟨rfl, hB⟩
theorem wrap_same (T P r : Int) (h : T = P + r) (h1 : 0 ≤ r) (h2 : r < 1000000000) : (IntKind.u64.wrap T != IntKind.u64.wrap P) = (r != 0) := by
  rw [IntKind.wrap_u64, IntKind.wrap_u64, Bool.eq_iff_iff, bne_iff_ne, bne_iff_ne]
  omega
theorem unit_any (sp gr c t : Int) (w : World) : Calls Try.prog 11 #[.agg #[.int .i64 sp, .int .i64 gr], .int .i64 c, .int .i64 t] w fun e w' => e = .returned (.tuple #[.int .i64 (unitV sp gr c t).v, .int .i64 (unitV sp gr c t).e]) ∧ Below w.heap.size w w' := by
  unfold unitV
  cases h : mOk sp gr
  · rw [if_neg (by simp)]
    exact unit_e sp gr c t w (chk2 sp gr h)
  · obtain ⟨h1, h2, h3, h4⟩ := (mOk_iff sp gr).1 h
    by_cases hc : 0 ≤ c ∧ c ≤ 1000000000000
    · by_cases ht : 0 ≤ t ∧ t ≤ 1000000000000
      · rw [if_pos ⟨rfl, hc, ht⟩]
        have HM := fun W => md_any c t gr W hc.1 hc.2 ht.1 ht.2 h3 (by omega)
        have k0 : 0 ≤ c * t := Int.mul_nonneg hc.1 ht.1
        have e1 := Int.mul_ediv_add_emod (c * t) gr
        have e2 := Int.emod_nonneg (c * t) (b := gr) (by omega)
        have e3 := Int.emod_lt_of_pos (c * t) (b := gr) (by omega)
        have e4 : 0 ≤ c * t / gr := Int.ediv_nonneg k0 (by omega)
        have hw := wrap_same (c * t) (c * t / gr * gr) (c * t % gr) (by rw [Int.mul_comm (c * t / gr)]; omega) e2 (by omega)
        by_cases hr : c * t % gr = 0
        · rw [← ceil_eq0 (c * t) gr h3 hr]
          rw [hr] at hw
          by_cases hq : c * t / gr ≤ 1000000000000
          · rw [if_pos hq]
            exact unit_x sp gr c t _ w (chk0 sp gr h) hc.1 hc.2 ht.1 ht.2 (fun W => by have := HM W; unfold mdV at this; rw [if_pos hq] at this; exact this) e4 hq h3 h4 hw
          · rw [if_neg hq]
            exact unit_m sp gr c t w (chk0 sp gr h) hc.1 hc.2 ht.1 ht.2 (fun W => by have := HM W; unfold mdV at this; rw [if_neg hq] at this; exact this)
        · rw [← ceil_eq1 (c * t) gr h3 hr]
          rw [bne_iff_ne.2 hr] at hw
          by_cases hq : c * t / gr ≤ 1000000000000
          · have HM2 : Hid (∀ W, Calls Try.prog 25 #[.int .i64 c, .int .i64 t, .int .i64 gr] W fun e w' => e = .returned (.tuple #[.int .i64 (c * t / gr), .int .i64 0]) ∧ Below W.heap.size W w') := fun W => by have := HM W; unfold mdV at this; rw [if_pos hq] at this; exact this
            by_cases hq2 : c * t / gr + 1 ≤ 1000000000000
            · rw [if_pos hq2]
              exact unit_u sp gr c t _ w (chk0 sp gr h) hc.1 hc.2 ht.1 ht.2 HM2 e4 hq h3 h4 hw hq2
            · rw [if_neg hq2]
              exact unit_o sp gr c t _ w (chk0 sp gr h) hc.1 hc.2 ht.1 ht.2 HM2 e4 hq h3 h4 hw (by omega)
          · rw [if_neg (by omega)]
            exact unit_m sp gr c t w (chk0 sp gr h) hc.1 hc.2 ht.1 ht.2 (fun W => by have := HM W; unfold mdV at this; rw [if_neg hq] at this; exact this)
      · rw [if_neg (fun hh => ht hh.2.2)]
        exact unit_t sp gr c t w (chk0 sp gr h) hc.1 hc.2 (out_of t _ ht)
    · rw [if_neg (fun hh => hc hh.2.1)]
      exact unit_c sp gr c t w (chk0 sp gr h) (out_of c _ hc)
/-- A product over gr, by parts. -/
theorem unit_parts (c t gr : Int) (h : 1 ≤ gr) : c * t / gr = c * (t / gr) + c * (t % gr) / gr ∧ c * t % gr = (c % gr) * (t % gr) % gr := by
  have e1 := Int.mul_ediv_add_emod t gr
  have e : c * t = c * (t % gr) + gr * (c * (t / gr)) := by
    rw [Int.mul_left_comm, ← Int.mul_add]
    congr 1
    omega
  constructor
  · rw [e, Int.add_mul_ediv_left _ _ (by omega)]
    omega
  · rw [Int.mul_emod]
theorem runit_any (sp gr c t : Int) (w : World) : Calls Try.prog 13 #[.agg #[.int .i64 sp, .int .i64 gr], .int .i64 c, .int .i64 t] w fun e w' => e = .returned (.tuple #[.int .i64 (unitV sp gr c t).v, .int .i64 (unitV sp gr c t).e]) ∧ Below w.heap.size w w' := by
  unfold unitV
  cases h : mOk sp gr
  · rw [if_neg (by simp)]
    exact runit_e sp gr c t w (rchk2 sp gr h)
  · obtain ⟨h1, h2, h3, h4⟩ := (mOk_iff sp gr).1 h
    by_cases hc : 0 ≤ c ∧ c ≤ 1000000000000
    · by_cases ht : 0 ≤ t ∧ t ≤ 1000000000000
      · rw [if_pos ⟨rfl, hc, ht⟩]
        obtain ⟨u1, u2⟩ := unit_parts c t gr h3
        have r1 : 0 ≤ t % gr := Int.emod_nonneg _ (by omega)
        have r2 : t % gr < gr := Int.emod_lt_of_pos _ (by omega)
        have r3 : 0 ≤ c % gr := Int.emod_nonneg _ (by omega)
        have r4 : c % gr < gr := Int.emod_lt_of_pos _ (by omega)
        have q1 : 0 ≤ t / gr := Int.ediv_nonneg ht.1 (by omega)
        have q2 : t / gr ≤ t := Int.ediv_le_self _ ht.1
        have k1 : 0 ≤ c * (t / gr) := Int.mul_nonneg hc.1 q1
        have k2 : 0 ≤ c * (t % gr) := Int.mul_nonneg hc.1 r1
        have k3 : 0 ≤ c * (t % gr) / gr := Int.ediv_nonneg k2 (by omega)
        have k4 : c * (t % gr) / gr ≤ c := by
          rw [← Int.lt_add_one_iff, Int.ediv_lt_iff_lt_mul (by omega)]
          have : c * (t % gr) ≤ c * gr := Int.mul_le_mul_of_nonneg_left (by omega) hc.1
          rw [Int.add_mul, Int.one_mul]
          omega
        have HMU := fun W => rmul_any c (t / gr) W hc.1 hc.2 q1 (by omega)
        have HMD : Hid (∀ W, Calls Try.prog 28 #[.int .i64 c, .int .i64 (t % gr), .int .i64 gr] W fun e w' => e = .returned (.tuple #[.int .i64 (c * (t % gr) / gr), .int .i64 0]) ∧ Below W.heap.size W w') := fun W => rmd_any c (t % gr) gr W hc.1 hc.2 r1 (by omega) h3 (by omega) (by omega)
        have HL := fun W => left_any (c % gr) (t % gr) gr W r3 (by omega) r1 (by omega) h3
        rw [← u2] at HL
        by_cases hm : c * (t / gr) ≤ 1000000000000
        · have HMU2 : Hid (∀ W, Calls Try.prog 27 #[.int .i64 c, .int .i64 (t / gr)] W fun e w' => e = .returned (.tuple #[.int .i64 (c * (t / gr)), .int .i64 0]) ∧ W = w') := fun W => by have := HMU W; unfold mulV at this; rw [if_pos hm] at this; exact this
          by_cases hr : c * t % gr = 0
          · rw [← ceil_eq0 (c * t) gr h3 hr, u1]
            rw [hr] at HL
            by_cases hq : c * (t / gr) + c * (t % gr) / gr ≤ 1000000000000
            · rw [if_pos hq]
              exact runit_x sp gr c t _ _ w (rchk0 sp gr h) hc.1 hc.2 ht.1 ht.2 h3 h4 HMU2 HMD HL k1 hm k3 (by omega) hq
            · rw [if_neg hq]
              exact runit_xo sp gr c t _ _ w (rchk0 sp gr h) hc.1 hc.2 ht.1 ht.2 h3 h4 HMU2 HMD HL k1 hm k3 (by omega) (by omega)
          · rw [← ceil_eq1 (c * t) gr h3 hr, u1]
            rw [bne_iff_ne.2 hr] at HL
            by_cases hq : c * (t / gr) + c * (t % gr) / gr + 1 ≤ 1000000000000
            · rw [if_pos hq]
              exact runit_u sp gr c t _ _ w (rchk0 sp gr h) hc.1 hc.2 ht.1 ht.2 h3 h4 HMU2 HMD HL k1 hm k3 (by omega) hq
            · rw [if_neg hq]
              exact runit_uo sp gr c t _ _ w (rchk0 sp gr h) hc.1 hc.2 ht.1 ht.2 h3 h4 HMU2 HMD HL k1 hm k3 (by omega) (by omega)
        · have hb : 1000000000000 < ceilI (c * t) gr := by
            by_cases hr : c * t % gr = 0
            · rw [← ceil_eq0 (c * t) gr h3 hr, u1]; omega
            · rw [← ceil_eq1 (c * t) gr h3 hr, u1]; omega
          rw [if_neg (by omega)]
          exact runit_m sp gr c t w (rchk0 sp gr h) hc.1 hc.2 ht.1 ht.2 h3 h4 (fun W => by have := HMU W; unfold mulV at this; rw [if_neg hm] at this; exact this)
      · rw [if_neg (fun hh => ht hh.2.2)]
        exact runit_t sp gr c t w (rchk0 sp gr h) hc.1 hc.2 (out_of t _ ht)
    · rw [if_neg (fun hh => hc hh.2.1)]
      exact runit_c sp gr c t w (rchk0 sp gr h) (out_of c _ hc)

end Go.Proofs.Ytdlkpohjeedbiaa
