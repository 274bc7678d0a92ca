/- Contracts of Units of layer 34 (meter) and of its reference. -/
import Derived.Test.YtdlkpohjeedbiaaD
namespace Go.Proofs.Ytdlkpohjeedbiaa
open Go.ChangeShapes Go.WideShapes Go.ChangeAt Go.RowKit

def unitV (sp gr c t : Int) : N2 := if mOk sp gr ∧ (0 ≤ c ∧ c ≤ 1000000000000) ∧ (0 ≤ t ∧ t ≤ 1000000000000) then (if ceilI (c * t) gr ≤ 1000000000000 then ⟨ceilI (c * t) gr, 0⟩ else ⟨0, 8⟩) else ⟨0, 2⟩
set_option maxHeartbeats 1000000 in
theorem unit_e (sp gr c t : Int) (w : World) (HC : Hid (∀ W, Calls Try.prog 8 #[.agg #[.int .i64 sp, .int .i64 gr]] W fun e w' => e = .returned (.int .i64 2) ∧ Below W.heap.size W w')) : Calls Try.prog 11 #[.agg #[.int .i64 sp, .int .i64 gr], .int .i64 c, .int .i64 t] w fun e w' => e = .returned (.tuple #[.int .i64 0, .int .i64 2]) ∧ Below w.heap.size w w' := by
  go_enter Try.func11, Try.ntmps11
  go_wp2_with fail
  refine (HC.out _).mono ?_
  rintro _ wx1 ⟨rfl, hb⟩
  have P := ((Box.new w 23 #[.int .i64 sp, .int .i64 gr])).next hb
  have hB := below_step (below_box (Below.refl _ w) _) hb
  clear hb
  have cP_0 := P.cell 0 _ rfl
  have cP_1 := P.cell 1 _ rfl
  have lP := P.lt
  go_wp2
  go_ret2
  exact ⟨rfl, hB⟩
set_option maxHeartbeats 1000000 in
theorem unit_c (sp gr c t : Int) (w : World) (HC : Hid (∀ W, Calls Try.prog 8 #[.agg #[.int .i64 sp, .int .i64 gr]] W fun e w' => e = .returned (.int .i64 0) ∧ Below W.heap.size W w')) (h : (c < 0 ∨ (0 ≤ c ∧ 1000000000000 < c))) : Calls Try.prog 11 #[.agg #[.int .i64 sp, .int .i64 gr], .int .i64 c, .int .i64 t] w fun e w' => e = .returned (.tuple #[.int .i64 0, .int .i64 2]) ∧ Below w.heap.size w w' := by
  go_enter Try.func11, Try.ntmps11
  go_wp2_with fail
  refine (HC.out _).mono ?_
  rintro _ wx1 ⟨rfl, hb⟩
  have P := ((Box.new w 23 #[.int .i64 sp, .int .i64 gr])).next hb
  have hB := below_step (below_box (Below.refl _ w) _) hb
  clear hb
  have cP_0 := P.cell 0 _ rfl
  have cP_1 := P.cell 1 _ rfl
  have lP := P.lt
  go_wp2_with fail
  refine (btw_no _ _ _ _ h).mono ?_
  rintro _ wy2 ⟨rfl, rfl⟩
  go_wp2
  go_ret2
  exact ⟨rfl, hB⟩
set_option maxHeartbeats 1000000 in
theorem unit_t (sp gr c t : Int) (w : World) (HC : Hid (∀ W, Calls Try.prog 8 #[.agg #[.int .i64 sp, .int .i64 gr]] W fun e w' => e = .returned (.int .i64 0) ∧ Below W.heap.size W w')) (h1 : 0 ≤ c) (h2 : c ≤ 1000000000000) (h : (t < 0 ∨ (0 ≤ t ∧ 1000000000000 < t))) : Calls Try.prog 11 #[.agg #[.int .i64 sp, .int .i64 gr], .int .i64 c, .int .i64 t] w fun e w' => e = .returned (.tuple #[.int .i64 0, .int .i64 2]) ∧ Below w.heap.size w w' := by
  go_enter Try.func11, Try.ntmps11
  go_wp2_with fail
  refine (HC.out _).mono ?_
  rintro _ wx1 ⟨rfl, hb⟩
  have P := ((Box.new w 23 #[.int .i64 sp, .int .i64 gr])).next hb
  have hB := below_step (below_box (Below.refl _ w) _) hb
  clear hb
  have cP_0 := P.cell 0 _ rfl
  have cP_1 := P.cell 1 _ rfl
  have lP := P.lt
  go_wp2_with fail
  refine (btw_yes _ _ _ _ (by omega) (by omega)).mono ?_
  rintro _ wy2 ⟨rfl, rfl⟩
  go_wp2_with fail
  refine (btw_no _ _ _ _ h).mono ?_
  rintro _ wy3 ⟨rfl, rfl⟩
  go_wp2
  go_ret2
  exact ⟨rfl, hB⟩
set_option maxHeartbeats 1000000 in
theorem runit_e (sp gr c t : Int) (w : World) (HC : Hid (∀ W, Calls Try.prog 16 #[.agg #[.int .i64 sp, .int .i64 gr]] W fun e w' => e = .returned (.int .i64 2) ∧ Below W.heap.size W w')) : Calls Try.prog 13 #[.agg #[.int .i64 sp, .int .i64 gr], .int .i64 c, .int .i64 t] w fun e w' => e = .returned (.tuple #[.int .i64 0, .int .i64 2]) ∧ Below w.heap.size w w' := by
  go_enter Try.func13, Try.ntmps13
  go_wp2_with fail
  refine (HC.out _).mono ?_
  rintro _ wx1 ⟨rfl, hb⟩
  have P := ((Box.new w 23 #[.int .i64 sp, .int .i64 gr])).next hb
  have hB := below_step (below_box (Below.refl _ w) _) hb
  clear hb
  have cP_0 := P.cell 0 _ rfl
  have cP_1 := P.cell 1 _ rfl
  have lP := P.lt
  go_wp2
  go_ret2
  exact ⟨rfl, hB⟩
set_option maxHeartbeats 1000000 in
theorem runit_c (sp gr c t : Int) (w : World) (HC : Hid (∀ W, Calls Try.prog 16 #[.agg #[.int .i64 sp, .int .i64 gr]] W fun e w' => e = .returned (.int .i64 0) ∧ Below W.heap.size W w')) (h : (c < 0 ∨ (0 ≤ c ∧ 1000000000000 < c))) : Calls Try.prog 13 #[.agg #[.int .i64 sp, .int .i64 gr], .int .i64 c, .int .i64 t] w fun e w' => e = .returned (.tuple #[.int .i64 0, .int .i64 2]) ∧ Below w.heap.size w w' := by
  go_enter Try.func13, Try.ntmps13
  go_wp2_with fail
  refine (HC.out _).mono ?_
  rintro _ wx1 ⟨rfl, hb⟩
  have P := ((Box.new w 23 #[.int .i64 sp, .int .i64 gr])).next hb
  have hB := below_step (below_box (Below.refl _ w) _) hb
  clear hb
  have cP_0 := P.cell 0 _ rfl
  have cP_1 := P.cell 1 _ rfl
  have lP := P.lt
  go_wp2_with fail
  refine (amt_no _ _ h).mono ?_
  rintro _ wy2 ⟨rfl, rfl⟩
  go_wp2
  go_ret2
  exact ⟨rfl, hB⟩
set_option maxHeartbeats 1000000 in
theorem runit_t (sp gr c t : Int) (w : World) (HC : Hid (∀ W, Calls Try.prog 16 #[.agg #[.int .i64 sp, .int .i64 gr]] W fun e w' => e = .returned (.int .i64 0) ∧ Below W.heap.size W w')) (h1 : 0 ≤ c) (h2 : c ≤ 1000000000000) (h : (t < 0 ∨ (0 ≤ t ∧ 1000000000000 < t))) : Calls Try.prog 13 #[.agg #[.int .i64 sp, .int .i64 gr], .int .i64 c, .int .i64 t] w fun e w' => e = .returned (.tuple #[.int .i64 0, .int .i64 2]) ∧ Below w.heap.size w w' := by
  go_enter Try.func13, Try.ntmps13
  go_wp2_with fail
  refine (HC.out _).mono ?_
  rintro _ wx1 ⟨rfl, hb⟩
  have P := ((Box.new w 23 #[.int .i64 sp, .int .i64 gr])).next hb
  have hB := below_step (below_box (Below.refl _ w) _) hb
  clear hb
  have cP_0 := P.cell 0 _ rfl
  have cP_1 := P.cell 1 _ rfl
  have lP := P.lt
  go_wp2_with fail
  refine (amt_yes _ _ (by omega) (by omega)).mono ?_
  rintro _ wy2 ⟨rfl, rfl⟩
  go_wp2_with fail
  refine (amt_no _ _ h).mono ?_
  rintro _ wy3 ⟨rfl, rfl⟩
  go_wp2
  go_ret2
  exact ⟨rfl, hB⟩
set_option maxHeartbeats 1000000 in
theorem unit_m (sp gr c t : Int) (w : World) (HC : Hid (∀ W, Calls Try.prog 8 #[.agg #[.int .i64 sp, .int .i64 gr]] W fun e w' => e = .returned (.int .i64 0) ∧ Below W.heap.size W w')) (h1 : 0 ≤ c) (h2 : c ≤ 1000000000000) (h3 : 0 ≤ t) (h4 : t ≤ 1000000000000) (HM : Hid (∀ W, Calls Try.prog 25 #[.int .i64 c, .int .i64 t, .int .i64 gr] W fun e w' => e = .returned (.tuple #[.int .i64 0, .int .i64 8]) ∧ Below W.heap.size W w')) : Calls Try.prog 11 #[.agg #[.int .i64 sp, .int .i64 gr], .int .i64 c, .int .i64 t] w fun e w' => e = .returned (.tuple #[.int .i64 0, .int .i64 8]) ∧ Below w.heap.size w w' := by
  go_enter Try.func11, Try.ntmps11
  go_wp2_with fail
  refine (HC.out _).mono ?_
  rintro _ wx1 ⟨rfl, hb⟩
  have P := ((Box.new w 23 #[.int .i64 sp, .int .i64 gr])).next hb
  have hB := below_step (below_box (Below.refl _ w) _) hb
  clear hb
  have cP_0 := P.cell 0 _ rfl
  have cP_1 := P.cell 1 _ rfl
  have lP := P.lt
  go_wp2_with fail
  refine (btw_yes _ _ _ _ (by omega) (by omega)).mono ?_
  rintro _ wy2 ⟨rfl, rfl⟩
  go_wp2_with fail
  refine (btw_yes _ _ _ _ (by omega) (by omega)).mono ?_
  rintro _ wy3 ⟨rfl, rfl⟩
  go_wp2_with fail
  refine (HM.out _).mono ?_
  rintro _ wx4 ⟨rfl, hb⟩
  clear cP_0 cP_1 lP
  replace P := (P).next hb
  replace hB := below_step hB hb
  clear hb
  have cP_0 := P.cell 0 _ rfl
  have cP_1 := P.cell 1 _ rfl
  have lP := P.lt
  go_wp2
  go_ret2
  exact ⟨rfl, hB⟩
set_option maxHeartbeats 1000000 in
theorem unit_x (sp gr c t q : Int) (w : World) (HC : Hid (∀ W, Calls Try.prog 8 #[.agg #[.int .i64 sp, .int .i64 gr]] W fun e w' => e = .returned (.int .i64 0) ∧ Below W.heap.size W w')) (h1 : 0 ≤ c) (h2 : c ≤ 1000000000000) (h3 : 0 ≤ t) (h4 : t ≤ 1000000000000) (HM : Hid (∀ W, Calls Try.prog 25 #[.int .i64 c, .int .i64 t, .int .i64 gr] W fun e w' => e = .returned (.tuple #[.int .i64 q, .int .i64 0]) ∧ Below W.heap.size W w')) (h5 : 0 ≤ q) (h6 : q ≤ 1000000000000) (h7 : 1 ≤ gr) (h8 : gr ≤ 1000000000) (hn : (IntKind.u64.wrap (c * t) != IntKind.u64.wrap (q * gr)) = false) : Calls Try.prog 11 #[.agg #[.int .i64 sp, .int .i64 gr], .int .i64 c, .int .i64 t] w fun e w' => e = .returned (.tuple #[.int .i64 q, .int .i64 0]) ∧ Below w.heap.size w w' := by
  go_enter Try.func11, Try.ntmps11
  go_wp2_with fail
  refine (HC.out _).mono ?_
  rintro _ wx1 ⟨rfl, hb⟩
  have P := ((Box.new w 23 #[.int .i64 sp, .int .i64 gr])).next hb
  have hB := below_step (below_box (Below.refl _ w) _) hb
  clear hb
  have cP_0 := P.cell 0 _ rfl
  have cP_1 := P.cell 1 _ rfl
  have lP := P.lt
  go_wp2_with fail
  refine (btw_yes _ _ _ _ (by omega) (by omega)).mono ?_
  rintro _ wy2 ⟨rfl, rfl⟩
  go_wp2_with fail
  refine (btw_yes _ _ _ _ (by omega) (by omega)).mono ?_
  rintro _ wy3 ⟨rfl, rfl⟩
  go_wp2_with fail
  refine (HM.out _).mono ?_
  rintro _ wx4 ⟨rfl, hb⟩
  clear cP_0 cP_1 lP
  replace P := (P).next hb
  replace hB := below_step hB hb
  clear hb
  have cP_0 := P.cell 0 _ rfl
  have cP_1 := P.cell 1 _ rfl
  have lP := P.lt
  go_wp2
  go_ret2
  exact ⟨rfl, hB⟩
set_option maxHeartbeats 1000000 in
theorem unit_u (sp gr c t q : Int) (w : World) (HC : Hid (∀ W, Calls Try.prog 8 #[.agg #[.int .i64 sp, .int .i64 gr]] W fun e w' => e = .returned (.int .i64 0) ∧ Below W.heap.size W w')) (h1 : 0 ≤ c) (h2 : c ≤ 1000000000000) (h3 : 0 ≤ t) (h4 : t ≤ 1000000000000) (HM : Hid (∀ W, Calls Try.prog 25 #[.int .i64 c, .int .i64 t, .int .i64 gr] W fun e w' => e = .returned (.tuple #[.int .i64 q, .int .i64 0]) ∧ Below W.heap.size W w')) (h5 : 0 ≤ q) (h6 : q ≤ 1000000000000) (h7 : 1 ≤ gr) (h8 : gr ≤ 1000000000) (hn : (IntKind.u64.wrap (c * t) != IntKind.u64.wrap (q * gr)) = true) (h9 : q + 1 ≤ 1000000000000) : Calls Try.prog 11 #[.agg #[.int .i64 sp, .int .i64 gr], .int .i64 c, .int .i64 t] w fun e w' => e = .returned (.tuple #[.int .i64 (q + 1), .int .i64 0]) ∧ Below w.heap.size w w' := by
  go_enter Try.func11, Try.ntmps11
  go_wp2_with fail
  refine (HC.out _).mono ?_
  rintro _ wx1 ⟨rfl, hb⟩
  have P := ((Box.new w 23 #[.int .i64 sp, .int .i64 gr])).next hb
  have hB := below_step (below_box (Below.refl _ w) _) hb
  clear hb
  have cP_0 := P.cell 0 _ rfl
  have cP_1 := P.cell 1 _ rfl
  have lP := P.lt
  go_wp2_with fail
  refine (btw_yes _ _ _ _ (by omega) (by omega)).mono ?_
  rintro _ wy2 ⟨rfl, rfl⟩
  go_wp2_with fail
  refine (btw_yes _ _ _ _ (by omega) (by omega)).mono ?_
  rintro _ wy3 ⟨rfl, rfl⟩
  go_wp2_with fail
  refine (HM.out _).mono ?_
  rintro _ wx4 ⟨rfl, hb⟩
  clear cP_0 cP_1 lP
  replace P := (P).next hb
  replace hB := below_step hB hb
  clear hb
  have cP_0 := P.cell 0 _ rfl
  have cP_1 := P.cell 1 _ rfl
  have lP := P.lt
  go_wp2
  go_ret2
  exact ⟨rfl, hB⟩
set_option maxHeartbeats 1000000 in
theorem unit_o (sp gr c t q : Int) (w : World) (HC : Hid (∀ W, Calls Try.prog 8 #[.agg #[.int .i64 sp, .int .i64 gr]] W fun e w' => e = .returned (.int .i64 0) ∧ Below W.heap.size W w')) (h1 : 0 ≤ c) (h2 : c ≤ 1000000000000) (h3 : 0 ≤ t) (h4 : t ≤ 1000000000000) (HM : Hid (∀ W, Calls Try.prog 25 #[.int .i64 c, .int .i64 t, .int .i64 gr] W fun e w' => e = .returned (.tuple #[.int .i64 q, .int .i64 0]) ∧ Below W.heap.size W w')) (h5 : 0 ≤ q) (h6 : q ≤ 1000000000000) (h7 : 1 ≤ gr) (h8 : gr ≤ 1000000000) (hn : (IntKind.u64.wrap (c * t) != IntKind.u64.wrap (q * gr)) = true) (h9 : 1000000000000 < q + 1) : Calls Try.prog 11 #[.agg #[.int .i64 sp, .int .i64 gr], .int .i64 c, .int .i64 t] w fun e w' => e = .returned (.tuple #[.int .i64 0, .int .i64 8]) ∧ Below w.heap.size w w' := by
  go_enter Try.func11, Try.ntmps11
  go_wp2_with fail
  refine (HC.out _).mono ?_
  rintro _ wx1 ⟨rfl, hb⟩
  have P := ((Box.new w 23 #[.int .i64 sp, .int .i64 gr])).next hb
  have hB := below_step (below_box (Below.refl _ w) _) hb
  clear hb
  have cP_0 := P.cell 0 _ rfl
  have cP_1 := P.cell 1 _ rfl
  have lP := P.lt
  go_wp2_with fail
  refine (btw_yes _ _ _ _ (by omega) (by omega)).mono ?_
  rintro _ wy2 ⟨rfl, rfl⟩
  go_wp2_with fail
  refine (btw_yes _ _ _ _ (by omega) (by omega)).mono ?_
  rintro _ wy3 ⟨rfl, rfl⟩
  go_wp2_with fail
  refine (HM.out _).mono ?_
  rintro _ wx4 ⟨rfl, hb⟩
  clear cP_0 cP_1 lP
  replace P := (P).next hb
  replace hB := below_step hB hb
  clear hb
  have cP_0 := P.cell 0 _ rfl
  have cP_1 := P.cell 1 _ rfl
  have lP := P.lt
  go_wp2
  go_ret2
  exact ⟨rfl, hB⟩

end Go.Proofs.Ytdlkpohjeedbiaa
