/- The examples of layer 34 (awake); the walks of MeterRules and MeterUnits. -/
import Derived.Test.YtdlkpohjeedbiaaI
namespace Go.Proofs.Ytdlkpohjeedbiaa
open Go.ChangeShapes Go.WideShapes Go.ChangeAt Go.RowKit

def eq4 (a b c d a' b' c' d' : Int) : Bool := a == a' && (b == b' && (c == c' && d == d'))
theorem eq4_self (a b c d : Int) : eq4 a b c d a b c d = true := by simp [eq4]
theorem eql33 (a b c d a' b' c' d' : Int) (w : World) : (binOp .eql 33 (.agg #[.int .i64 a, .int .i64 b, .int .i64 c, .int .i64 d]) (.agg #[.int .i64 a', .int .i64 b', .int .i64 c', .int .i64 d'])).run Try.prog w = .ok (.bool (eq4 a b c d a' b' c' d')) w := by
  unfold eq4
  cases h1 : a == a' <;> cases h2 : b == b' <;> cases h3 : c == c' <;> cases h4 : d == d' <;> simp [go_sem, h1, h2, h3, h4]
theorem neq33 (a b c d a' b' c' d' : Int) (w : World) : (binOp .neq 33 (.agg #[.int .i64 a, .int .i64 b, .int .i64 c, .int .i64 d]) (.agg #[.int .i64 a', .int .i64 b', .int .i64 c', .int .i64 d'])).run Try.prog w = .ok (.bool (!eq4 a b c d a' b' c' d')) w := by
  unfold eq4
  cases h1 : a == a' <;> cases h2 : b == b' <;> cases h3 : c == c' <;> cases h4 : d == d' <;> simp [go_sem, h1, h2, h3, h4]
attribute [local go_sem high] eql33 neq33
theorem tick_x0 (w : World) : Calls Try.prog 10 #[.agg #[.int .i64 100, .int .i64 10], .int .i64 0] w fun e w' => e = .returned (.tuple #[.int .i64 1, .int .i64 0]) ∧ Below w.heap.size w w' := by
  have h := tick_any 100 10 0 w
  rw [show tickV 100 10 0 = ⟨1, 0⟩ from rfl] at h
  exact h
theorem tick_x1 (w : World) : Calls Try.prog 10 #[.agg #[.int .i64 100, .int .i64 10], .int .i64 101] w fun e w' => e = .returned (.tuple #[.int .i64 2, .int .i64 0]) ∧ Below w.heap.size w w' := by
  have h := tick_any 100 10 101 w
  rw [show tickV 100 10 101 = ⟨2, 0⟩ from rfl] at h
  exact h
theorem unit_x0 (w : World) : Calls Try.prog 11 #[.agg #[.int .i64 100, .int .i64 10], .int .i64 3, .int .i64 4] w fun e w' => e = .returned (.tuple #[.int .i64 2, .int .i64 0]) ∧ Below w.heap.size w w' := by
  have h := unit_any 100 10 3 4 w
  rw [show unitV 100 10 3 4 = ⟨2, 0⟩ from rfl] at h
  exact h
theorem unit_x1 (w : World) : Calls Try.prog 11 #[.agg #[.int .i64 1, .int .i64 1000000000], .int .i64 1000000000000, .int .i64 1000000000000] w fun e w' => e = .returned (.tuple #[.int .i64 0, .int .i64 8]) ∧ Below w.heap.size w w' := by
  have h := unit_any 1 1000000000 1000000000000 1000000000000 w
  rw [show unitV 1 1000000000 1000000000000 1000000000000 = ⟨0, 8⟩ from rfl] at h
  exact h
theorem of_x0 (w : World) : Calls Try.prog 14 #[.agg #[.int .i64 100, .int .i64 10], .int .i64 3, .int .i64 400] w fun e w' => e = .returned (.tuple #[.agg #[.int .i64 1, .int .i64 400, .int .i64 4, .int .i64 2], .int .i64 0]) ∧ Below w.heap.size w w' := by
  have h := of_any 100 10 3 400 w
  rw [show ofV 100 10 3 400 = ⟨1, 400, 4, 2, 0⟩ from rfl] at h
  exact h
set_option maxHeartbeats 1000000 in
theorem awake_any (w : World) : Calls Try.prog 9 #[] w fun e w' => e = .returned (.bool true) ∧ Below w.heap.size w w' := by
  have hq := eq4_self 1 400 4 2
  go_enter Try.func9, Try.ntmps9
  go_wp2_with fail
  refine (tick_x0 _).mono ?_
  rintro _ wx1 ⟨rfl, hb⟩
  have P := ((Box.new w 23 #[.int .i64 100, .int .i64 10])).next hb
  have hB := below_step (below_box (Below.refl _ w) _) hb
  clear hb
  have cP_0 := P.cell 0 _ rfl
  have cP_1 := P.cell 1 _ rfl
  have lP := P.lt
  go_wp2_with fail
  refine (tick_x1 _).mono ?_
  rintro _ wx2 ⟨rfl, hb⟩
  clear cP_0 cP_1 lP
  replace P := (P).next hb
  replace hB := below_step hB hb
  clear hb
  have cP_0 := P.cell 0 _ rfl
  have cP_1 := P.cell 1 _ rfl
  have lP := P.lt
  go_wp2_with fail
  refine (unit_x0 _).mono ?_
  rintro _ wx3 ⟨rfl, hb⟩
  clear cP_0 cP_1 lP
  replace P := (P).next hb
  replace hB := below_step hB hb
  clear hb
  have cP_0 := P.cell 0 _ rfl
  have cP_1 := P.cell 1 _ rfl
  have lP := P.lt
  go_wp2_with fail
  refine (unit_x1 _).mono ?_
  rintro _ wx4 ⟨rfl, hb⟩
  clear cP_0 cP_1 lP
  replace P := (P).next hb
  replace hB := below_step hB hb
  clear hb
  have cP_0 := P.cell 0 _ rfl
  have cP_1 := P.cell 1 _ rfl
  have lP := P.lt
  go_wp2_with fail
  refine (of_x0 _).mono ?_
  rintro _ wx5 ⟨rfl, hb⟩
  clear cP_0 cP_1 lP
  replace P := (P).next hb
  replace hB := below_step hB hb
  clear hb
  have cP_0 := P.cell 0 _ rfl
  have cP_1 := P.cell 1 _ rfl
  have lP := P.lt
  have zP_U := P.lt
  have zB_U := hB.size
  go_wp2
  go_ret
  exact ⟨rfl, (below_box hB _)⟩

set_option maxHeartbeats 2000000 in
theorem rules_walk (sp gr u1 u2 u3 u4 cells steps ticks : Int) (w : World) : Calls Try.prog 5 #[.agg #[.int .i64 sp, .int .i64 gr], .agg #[.int .i64 u1, .int .i64 u2, .int .i64 u3, .int .i64 u4], .int .i64 cells, .int .i64 steps, .int .i64 ticks] w fun e w' => e = .returned (.bool true) ∧ Below w.heap.size w w' := by
  have h1 : Hid (∀ W, _) := fun W => tick_any sp gr steps W
  have h2 : Hid (∀ W, _) := fun W => rtick_any sp gr steps W
  have h3 : Hid (∀ W, _) := fun W => unit_any sp gr cells ticks W
  have h4 : Hid (∀ W, _) := fun W => runit_any sp gr cells ticks W
  have h5 : Hid (∀ W, _) := fun W => of_any sp gr cells steps W
  have h6 : Hid (∀ W, _) := fun W => rof_any sp gr cells steps W
  have h7 : Hid (∀ W, _) := fun W => chk_any sp gr W
  have h8 : Hid (∀ W, _) := fun W => rchk_any sp gr W
  have h9 : Hid (∀ W, _) := fun W => us_any u1 u2 u3 u4 W
  have ha : Hid (∀ W, _) := fun W => rus_any u1 u2 u3 u4 W
  generalize tickV sp gr steps = x1 at *
  generalize unitV sp gr cells ticks = x2 at *
  generalize ofV sp gr cells steps = x3 at *
  generalize mE sp gr = x4 at *
  generalize usB u1 u2 u3 u4 = x5 at *
  obtain ⟨t1, t2⟩ := x1
  obtain ⟨n1, n2⟩ := x2
  obtain ⟨o1, o2, o3, o4, o5⟩ := x3
  simp only at h1 h2 h3 h4 h5 h6
  have hq := eq4_self o1 o2 o3 o4
  go_enter Try.func5, Try.ntmps5
  go_wp2_with fail
  refine (h1.out _).mono ?_
  rintro _ wx1 ⟨rfl, hb⟩
  have P := ((Box.new w 23 #[.int .i64 sp, .int .i64 gr]).alloc _).next hb
  have V := ((Box.new ((w).alloc (.cells #[.int .i64 sp, .int .i64 gr] 23)) 33 #[.int .i64 u1, .int .i64 u2, .int .i64 u3, .int .i64 u4])).next hb
  simp only [World.size_alloc] at V
  have hB := below_step (below_box (below_box (Below.refl _ w) _) _) hb
  clear hb
  have cP_0 := P.cell 0 _ rfl
  have cP_1 := P.cell 1 _ rfl
  have lP := P.lt
  have cV_0 := V.cell 0 _ rfl
  have cV_1 := V.cell 1 _ rfl
  have cV_2 := V.cell 2 _ rfl
  have cV_3 := V.cell 3 _ rfl
  have lV := V.lt
  go_wp2_with fail
  refine (h2.out _).mono ?_
  rintro _ wx2 ⟨rfl, hb⟩
  clear cP_0 cP_1 lP cV_0 cV_1 cV_2 cV_3 lV
  replace P := (P).next hb
  replace V := (V).next hb
  replace hB := below_step hB hb
  clear hb
  have cP_0 := P.cell 0 _ rfl
  have cP_1 := P.cell 1 _ rfl
  have lP := P.lt
  have cV_0 := V.cell 0 _ rfl
  have cV_1 := V.cell 1 _ rfl
  have cV_2 := V.cell 2 _ rfl
  have cV_3 := V.cell 3 _ rfl
  have lV := V.lt
  go_wp2_with fail
  refine (h3.out _).mono ?_
  rintro _ wx3 ⟨rfl, hb⟩
  clear cP_0 cP_1 lP cV_0 cV_1 cV_2 cV_3 lV
  replace P := (P).next hb
  replace V := (V).next hb
  replace hB := below_step hB hb
  clear hb
  have cP_0 := P.cell 0 _ rfl
  have cP_1 := P.cell 1 _ rfl
  have lP := P.lt
  have cV_0 := V.cell 0 _ rfl
  have cV_1 := V.cell 1 _ rfl
  have cV_2 := V.cell 2 _ rfl
  have cV_3 := V.cell 3 _ rfl
  have lV := V.lt
  go_wp2_with fail
  refine (h4.out _).mono ?_
  rintro _ wx4 ⟨rfl, hb⟩
  clear cP_0 cP_1 lP cV_0 cV_1 cV_2 cV_3 lV
  replace P := (P).next hb
  replace V := (V).next hb
  replace hB := below_step hB hb
  clear hb
  have cP_0 := P.cell 0 _ rfl
  have cP_1 := P.cell 1 _ rfl
  have lP := P.lt
  have cV_0 := V.cell 0 _ rfl
  have cV_1 := V.cell 1 _ rfl
  have cV_2 := V.cell 2 _ rfl
  have cV_3 := V.cell 3 _ rfl
  have lV := V.lt
  go_wp2_with fail
  refine (h5.out _).mono ?_
  rintro _ wx5 ⟨rfl, hb⟩
  clear cP_0 cP_1 lP cV_0 cV_1 cV_2 cV_3 lV
  replace P := (P).next hb
  replace V := (V).next hb
  replace hB := below_step hB hb
  clear hb
  have cP_0 := P.cell 0 _ rfl
  have cP_1 := P.cell 1 _ rfl
  have lP := P.lt
  have cV_0 := V.cell 0 _ rfl
  have cV_1 := V.cell 1 _ rfl
  have cV_2 := V.cell 2 _ rfl
  have cV_3 := V.cell 3 _ rfl
  have lV := V.lt
  have zP_A := P.lt
  have zV_A := V.lt
  have zB_A := hB.size
  go_wp2_with fail
  refine (h6.out _).mono ?_
  rintro _ wx6 ⟨rfl, hb⟩
  clear cP_0 cP_1 lP cV_0 cV_1 cV_2 cV_3 lV
  replace P := (P.alloc _).next hb
  replace V := (V.alloc _).next hb
  have A := ((Box.new wx5 33 #[.int .i64 o1, .int .i64 o2, .int .i64 o3, .int .i64 o4])).next hb
  replace hB := below_step (below_box hB _) hb
  clear hb
  have zP_B := P.lt
  have zV_B := V.lt
  have zA_B := A.lt
  have zB_B := hB.size
  go_upto_region 7 with fail
  have zP := P.lt
  have zV := V.lt
  have zA := A.lt
  refine wp_forget (fun W => Box W w.heap.size 23 #[.int .i64 sp, .int .i64 gr] ∧ Box W (w.heap.size + 1) 33 #[.int .i64 u1, .int .i64 u2, .int .i64 u3, .int .i64 u4] ∧ Box W wx5.heap.size 33 #[.int .i64 o1, .int .i64 o2, .int .i64 o3, .int .i64 o4] ∧ Box W (wx6.heap.size) 33 #[.int .i64 o1, .int .i64 o2, .int .i64 o3, .int .i64 o4] ∧ Below w.heap.size w W)
    ⟨P.alloc _, V.alloc _, A.alloc _, (Box.new wx6 33 #[.int .i64 o1, .int .i64 o2, .int .i64 o3, .int .i64 o4]), (below_box hB _)⟩ ?_
  clear P V A hB
  rintro wx7 ⟨P, V, A, B, hB⟩
  have iP_0 : ∀ i : Idx wx7, _ := fun i => (P.idx i).cell 0 _ rfl
  have iP_1 : ∀ i : Idx wx7, _ := fun i => (P.idx i).cell 1 _ rfl
  have iV_0 : ∀ i : Idx wx7, _ := fun i => (V.idx i).cell 0 _ rfl
  have iV_1 : ∀ i : Idx wx7, _ := fun i => (V.idx i).cell 1 _ rfl
  have iV_2 : ∀ i : Idx wx7, _ := fun i => (V.idx i).cell 2 _ rfl
  have iV_3 : ∀ i : Idx wx7, _ := fun i => (V.idx i).cell 3 _ rfl
  have iA_0 : ∀ i : Idx wx7, _ := fun i => (A.idx i).cell 0 _ rfl
  have iA_1 : ∀ i : Idx wx7, _ := fun i => (A.idx i).cell 1 _ rfl
  have iA_2 : ∀ i : Idx wx7, _ := fun i => (A.idx i).cell 2 _ rfl
  have iA_3 : ∀ i : Idx wx7, _ := fun i => (A.idx i).cell 3 _ rfl
  have iB_0 : ∀ i : Idx wx7, _ := fun i => (B.idx i).cell 0 _ rfl
  have iB_1 : ∀ i : Idx wx7, _ := fun i => (B.idx i).cell 1 _ rfl
  have iB_2 : ∀ i : Idx wx7, _ := fun i => (B.idx i).cell 2 _ rfl
  have iB_3 : ∀ i : Idx wx7, _ := fun i => (B.idx i).cell 3 _ rfl
  refine wp_region_calm (by kernel_rfl) (by kernel_rfl) ?_
  repeat (quiet_step ((first | (go_at_call 8; exact calm_of (h7.out _)) | (go_at_call 16; exact calm_of (h8.out _)) | (go_at_call 17; exact calm_of (h9.out _)) | (go_at_call 18; exact calm_of (ha.out _)) | (go_at_call 9; exact calm_of (awake_any _)))))
  refine wpQuiet_nil ?_
  rintro _ ⟨⟨wz, hb⟩, rfl⟩
  go_wp2
  go_ret
  exact ⟨rfl, below_step hB hb⟩
theorem meterRules_walk (sp gr : Int) (u1 u2 u3 u4 : Int) (cells steps ticks : Int) (w : World) (_ : (Lit.int .i64 sp).wf = true) (_ : (Lit.int .i64 gr).wf = true) (_ : (Lit.int .i64 u1).wf = true) (_ : (Lit.int .i64 u2).wf = true) (_ : (Lit.int .i64 u3).wf = true) (_ : (Lit.int .i64 u4).wf = true) (_ : (Lit.int .i64 cells).wf = true) (_ : (Lit.int .i64 steps).wf = true) (_ : (Lit.int .i64 ticks).wf = true) : Calls Try.prog 5 #[.agg #[.int .i64 sp, .int .i64 gr], .agg #[.int .i64 u1, .int .i64 u2, .int .i64 u3, .int .i64 u4], .int .i64 cells, .int .i64 steps, .int .i64 ticks] w fun e w' => e = .returned (.bool true) ∧ Below w.heap.size w w' := rules_walk sp gr u1 u2 u3 u4 cells steps ticks w

set_option maxHeartbeats 1000000 in
theorem mu_out0 (sp gr c t x : Int) (w : World) (HC : Hid (∀ W, Calls Try.prog 8 #[.agg #[.int .i64 sp, .int .i64 gr]] W fun e w' => e = .returned (.int .i64 x) ∧ Below W.heap.size W w'))  (b : (x != 0) = true) : Calls Try.prog 4 #[.agg #[.int .i64 sp, .int .i64 gr], .int .i64 c, .int .i64 t] w fun e w' => e = .returned (.bool true) ∧ Below w.heap.size w w' := by
  go_enter Try.func4, Try.ntmps4
  go_wp2_with fail
  refine (HC.out _).mono ?_
  rintro _ wx1 ⟨rfl, hb⟩
  have P := ((Box.new w 23 #[.int .i64 sp, .int .i64 gr])).next hb
  have hB := below_step (below_box (Below.refl _ w) _) hb
  clear hb
  have cP_0 := P.cell 0 _ rfl
  have cP_1 := P.cell 1 _ rfl
  have lP := P.lt
  go_wp2_with fail
  refine (awake_any _).mono ?_
  rintro _ wx2 ⟨rfl, hb⟩
  clear cP_0 cP_1 lP
  replace P := (P).next hb
  replace hB := below_step hB hb
  clear hb
  have cP_0 := P.cell 0 _ rfl
  have cP_1 := P.cell 1 _ rfl
  have lP := P.lt
  go_wp2
  go_ret
  exact ⟨rfl, hB⟩
set_option maxHeartbeats 1000000 in
theorem mu_out1 (sp gr c t x : Int) (w : World) (HC : Hid (∀ W, Calls Try.prog 8 #[.agg #[.int .i64 sp, .int .i64 gr]] W fun e w' => e = .returned (.int .i64 x) ∧ Below W.heap.size W w')) (g0 : (x != 0) = false) (b : c < 0) : Calls Try.prog 4 #[.agg #[.int .i64 sp, .int .i64 gr], .int .i64 c, .int .i64 t] w fun e w' => e = .returned (.bool true) ∧ Below w.heap.size w w' := by
  go_enter Try.func4, Try.ntmps4
  go_wp2_with fail
  refine (HC.out _).mono ?_
  rintro _ wx1 ⟨rfl, hb⟩
  have P := ((Box.new w 23 #[.int .i64 sp, .int .i64 gr])).next hb
  have hB := below_step (below_box (Below.refl _ w) _) hb
  clear hb
  have cP_0 := P.cell 0 _ rfl
  have cP_1 := P.cell 1 _ rfl
  have lP := P.lt
  go_wp2_with fail
  refine (awake_any _).mono ?_
  rintro _ wx2 ⟨rfl, hb⟩
  clear cP_0 cP_1 lP
  replace P := (P).next hb
  replace hB := below_step hB hb
  clear hb
  have cP_0 := P.cell 0 _ rfl
  have cP_1 := P.cell 1 _ rfl
  have lP := P.lt
  go_wp2
  go_ret
  exact ⟨rfl, hB⟩
set_option maxHeartbeats 1000000 in
theorem mu_out2 (sp gr c t x : Int) (w : World) (HC : Hid (∀ W, Calls Try.prog 8 #[.agg #[.int .i64 sp, .int .i64 gr]] W fun e w' => e = .returned (.int .i64 x) ∧ Below W.heap.size W w')) (g0 : (x != 0) = false) (g1 : 0 ≤ c) (b : t < 0) : Calls Try.prog 4 #[.agg #[.int .i64 sp, .int .i64 gr], .int .i64 c, .int .i64 t] w fun e w' => e = .returned (.bool true) ∧ Below w.heap.size w w' := by
  go_enter Try.func4, Try.ntmps4
  go_wp2_with fail
  refine (HC.out _).mono ?_
  rintro _ wx1 ⟨rfl, hb⟩
  have P := ((Box.new w 23 #[.int .i64 sp, .int .i64 gr])).next hb
  have hB := below_step (below_box (Below.refl _ w) _) hb
  clear hb
  have cP_0 := P.cell 0 _ rfl
  have cP_1 := P.cell 1 _ rfl
  have lP := P.lt
  go_wp2_with fail
  refine (awake_any _).mono ?_
  rintro _ wx2 ⟨rfl, hb⟩
  clear cP_0 cP_1 lP
  replace P := (P).next hb
  replace hB := below_step hB hb
  clear hb
  have cP_0 := P.cell 0 _ rfl
  have cP_1 := P.cell 1 _ rfl
  have lP := P.lt
  go_wp2
  go_ret
  exact ⟨rfl, hB⟩
set_option maxHeartbeats 1000000 in
theorem mu_out3 (sp gr c t x : Int) (w : World) (HC : Hid (∀ W, Calls Try.prog 8 #[.agg #[.int .i64 sp, .int .i64 gr]] W fun e w' => e = .returned (.int .i64 x) ∧ Below W.heap.size W w')) (g0 : (x != 0) = false) (g1 : 0 ≤ c) (g2 : 0 ≤ t) (b : 1000000000 < c) : Calls Try.prog 4 #[.agg #[.int .i64 sp, .int .i64 gr], .int .i64 c, .int .i64 t] w fun e w' => e = .returned (.bool true) ∧ Below w.heap.size w w' := by
  go_enter Try.func4, Try.ntmps4
  go_wp2_with fail
  refine (HC.out _).mono ?_
  rintro _ wx1 ⟨rfl, hb⟩
  have P := ((Box.new w 23 #[.int .i64 sp, .int .i64 gr])).next hb
  have hB := below_step (below_box (Below.refl _ w) _) hb
  clear hb
  have cP_0 := P.cell 0 _ rfl
  have cP_1 := P.cell 1 _ rfl
  have lP := P.lt
  go_wp2_with fail
  refine (awake_any _).mono ?_
  rintro _ wx2 ⟨rfl, hb⟩
  clear cP_0 cP_1 lP
  replace P := (P).next hb
  replace hB := below_step hB hb
  clear hb
  have cP_0 := P.cell 0 _ rfl
  have cP_1 := P.cell 1 _ rfl
  have lP := P.lt
  go_wp2
  go_ret
  exact ⟨rfl, hB⟩
set_option maxHeartbeats 1000000 in
theorem mu_out4 (sp gr c t x : Int) (w : World) (HC : Hid (∀ W, Calls Try.prog 8 #[.agg #[.int .i64 sp, .int .i64 gr]] W fun e w' => e = .returned (.int .i64 x) ∧ Below W.heap.size W w')) (g0 : (x != 0) = false) (g1 : 0 ≤ c) (g2 : 0 ≤ t) (g3 : c ≤ 1000000000) (b : 1000000000 < t) : Calls Try.prog 4 #[.agg #[.int .i64 sp, .int .i64 gr], .int .i64 c, .int .i64 t] w fun e w' => e = .returned (.bool true) ∧ Below w.heap.size w w' := by
  go_enter Try.func4, Try.ntmps4
  go_wp2_with fail
  refine (HC.out _).mono ?_
  rintro _ wx1 ⟨rfl, hb⟩
  have P := ((Box.new w 23 #[.int .i64 sp, .int .i64 gr])).next hb
  have hB := below_step (below_box (Below.refl _ w) _) hb
  clear hb
  have cP_0 := P.cell 0 _ rfl
  have cP_1 := P.cell 1 _ rfl
  have lP := P.lt
  go_wp2_with fail
  refine (awake_any _).mono ?_
  rintro _ wx2 ⟨rfl, hb⟩
  clear cP_0 cP_1 lP
  replace P := (P).next hb
  replace hB := below_step hB hb
  clear hb
  have cP_0 := P.cell 0 _ rfl
  have cP_1 := P.cell 1 _ rfl
  have lP := P.lt
  go_wp2
  go_ret
  exact ⟨rfl, hB⟩
set_option maxHeartbeats 1000000 in
theorem mu_err (sp gr c t : Int) (w : World) (HC : Hid (∀ W, Calls Try.prog 8 #[.agg #[.int .i64 sp, .int .i64 gr]] W fun e w' => e = .returned (.int .i64 0) ∧ Below W.heap.size W w')) (h1 : 0 ≤ c) (h2 : 0 ≤ t) (h3 : c ≤ 1000000000) (h4 : t ≤ 1000000000) (h5 : 1 ≤ gr) (h6 : gr ≤ 1000000000) (k0 : 0 ≤ c * t) (k1 : c * t ≤ 1000000000000000000) (k2 : 1 ≤ c * t) (HU : Hid (∀ W, Calls Try.prog 11 #[.agg #[.int .i64 sp, .int .i64 gr], .int .i64 c, .int .i64 t] W fun e w' => e = .returned (.tuple #[.int .i64 0, .int .i64 8]) ∧ Below W.heap.size W w')) (g : 1000000000000 ≤ (c * t - 1) / gr) : Calls Try.prog 4 #[.agg #[.int .i64 sp, .int .i64 gr], .int .i64 c, .int .i64 t] w fun e w' => e = .returned (.bool true) ∧ Below w.heap.size w w' := by
  have z : (gr == 0) = false := beq_eq_false_iff_ne.2 (by omega)
  go_enter Try.func4, Try.ntmps4
  go_wp2_with fail
  refine (HC.out _).mono ?_
  rintro _ wx1 ⟨rfl, hb⟩
  have P := ((Box.new w 23 #[.int .i64 sp, .int .i64 gr])).next hb
  have hB := below_step (below_box (Below.refl _ w) _) hb
  clear hb
  have cP_0 := P.cell 0 _ rfl
  have cP_1 := P.cell 1 _ rfl
  have lP := P.lt
  go_wp2_with fail
  refine (HU.out _).mono ?_
  rintro _ wx2 ⟨rfl, hb⟩
  clear cP_0 cP_1 lP
  replace P := (P).next hb
  replace hB := below_step hB hb
  clear hb
  have cP_0 := P.cell 0 _ rfl
  have cP_1 := P.cell 1 _ rfl
  have lP := P.lt
  go_wp2_with fail
  refine (awake_any _).mono ?_
  rintro _ wx3 ⟨rfl, hb⟩
  clear cP_0 cP_1 lP
  replace P := (P).next hb
  replace hB := below_step hB hb
  clear hb
  have cP_0 := P.cell 0 _ rfl
  have cP_1 := P.cell 1 _ rfl
  have lP := P.lt
  go_wp2
  go_ret
  exact ⟨rfl, hB⟩
set_option maxHeartbeats 1000000 in
theorem mu_ok (sp gr c t n : Int) (w : World) (HC : Hid (∀ W, Calls Try.prog 8 #[.agg #[.int .i64 sp, .int .i64 gr]] W fun e w' => e = .returned (.int .i64 0) ∧ Below W.heap.size W w')) (h1 : 0 ≤ c) (h2 : 0 ≤ t) (h3 : c ≤ 1000000000) (h4 : t ≤ 1000000000) (h5 : 1 ≤ gr) (h6 : gr ≤ 1000000000) (k0 : 0 ≤ c * t) (k1 : c * t ≤ 1000000000000000000) (HU : Hid (∀ W, Calls Try.prog 11 #[.agg #[.int .i64 sp, .int .i64 gr], .int .i64 c, .int .i64 t] W fun e w' => e = .returned (.tuple #[.int .i64 n, .int .i64 0]) ∧ Below W.heap.size W w')) (g1 : 0 ≤ n) (g2 : n ≤ 1000000000000) (g : (((c * t + gr - 1) / gr) == n) = true) : Calls Try.prog 4 #[.agg #[.int .i64 sp, .int .i64 gr], .int .i64 c, .int .i64 t] w fun e w' => e = .returned (.bool true) ∧ Below w.heap.size w w' := by
  have z : (gr == 0) = false := beq_eq_false_iff_ne.2 (by omega)
  go_enter Try.func4, Try.ntmps4
  go_wp2_with fail
  refine (HC.out _).mono ?_
  rintro _ wx1 ⟨rfl, hb⟩
  have P := ((Box.new w 23 #[.int .i64 sp, .int .i64 gr])).next hb
  have hB := below_step (below_box (Below.refl _ w) _) hb
  clear hb
  have cP_0 := P.cell 0 _ rfl
  have cP_1 := P.cell 1 _ rfl
  have lP := P.lt
  go_wp2_with fail
  refine (HU.out _).mono ?_
  rintro _ wx2 ⟨rfl, hb⟩
  clear cP_0 cP_1 lP
  replace P := (P).next hb
  replace hB := below_step hB hb
  clear hb
  have cP_0 := P.cell 0 _ rfl
  have cP_1 := P.cell 1 _ rfl
  have lP := P.lt
  go_wp2_with fail
  refine (awake_any _).mono ?_
  rintro _ wx3 ⟨rfl, hb⟩
  clear cP_0 cP_1 lP
  replace P := (P).next hb
  replace hB := below_step hB hb
  clear hb
  have cP_0 := P.cell 0 _ rfl
  have cP_1 := P.cell 1 _ rfl
  have lP := P.lt
  go_wp2
  go_ret
  exact ⟨rfl, hB⟩
theorem meterUnits_walk (sp gr : Int) (c t : Int) (w : World) (_ : (Lit.int .i64 sp).wf = true) (_ : (Lit.int .i64 gr).wf = true) (_ : (Lit.int .i64 c).wf = true) (_ : (Lit.int .i64 t).wf = true) : Calls Try.prog 4 #[.agg #[.int .i64 sp, .int .i64 gr], .int .i64 c, .int .i64 t] w fun e w' => e = .returned (.bool true) ∧ Below w.heap.size w w' := by
  cases h : mOk sp gr
  · exact mu_out0 sp gr c t 2 w (chk2 sp gr h) rfl
  · have HC := chk0 sp gr h
    obtain ⟨s1, s2, s3, s4⟩ := (mOk_iff sp gr).1 h
    by_cases c1 : c < 0
    · exact mu_out1 sp gr c t 0 w HC rfl c1
    by_cases t1 : t < 0
    · exact mu_out2 sp gr c t 0 w HC rfl (by omega) t1
    by_cases c2 : 1000000000 < c
    · exact mu_out3 sp gr c t 0 w HC rfl (by omega) (by omega) c2
    by_cases t2 : 1000000000 < t
    · exact mu_out4 sp gr c t 0 w HC rfl (by omega) (by omega) (by omega) t2
    have k0 : 0 ≤ c * t := Int.mul_nonneg (by omega) (by omega)
    have k1 : c * t ≤ 1000000000 * 1000000000 := Int.mul_le_mul (by omega) (by omega) (by omega) (by omega)
    have HU : Hid (∀ W, _) := fun W => unit_any sp gr c t W
    have e0 : unitV sp gr c t = if ceilI (c * t) gr ≤ 1000000000000 then ⟨ceilI (c * t) gr, 0⟩ else ⟨0, 8⟩ := by
      unfold unitV
      rw [if_pos ⟨h, ⟨by omega, by omega⟩, ⟨by omega, by omega⟩⟩]
    rw [e0] at HU
    have e1 : ceilI (c * t) gr = (c * t - 1) / gr + 1 := by
      unfold ceilI
      rw [show c * t + gr - 1 = (c * t - 1) + gr * 1 by omega, Int.add_mul_ediv_left _ _ (by omega)]
    by_cases hc : ceilI (c * t) gr ≤ 1000000000000
    · rw [if_pos hc] at HU
      refine mu_ok sp gr c t _ w HC (by omega) (by omega) (by omega) (by omega) s3 s4 k0 (by omega) HU ?_ hc (by simp [ceilI])
      unfold ceilI
      exact Int.ediv_nonneg (by omega) (by omega)
    · rw [if_neg hc] at HU
      refine mu_err sp gr c t w HC (by omega) (by omega) (by omega) (by omega) s3 s4 k0 (by omega) ?_ HU (by omega)
      rcases (show c * t = 0 ∨ 1 ≤ c * t by omega) with hz | hz
      · rw [hz] at hc
        have : ceilI 0 gr = 0 := by unfold ceilI; exact Int.ediv_eq_zero_of_lt (by omega) (by omega)
        omega
      · exact hz

end Go.Proofs.Ytdlkpohjeedbiaa
