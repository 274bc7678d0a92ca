/- PriceMonotone: the walk. -/
import Derived.Test.YtdmffbbobagloaaU
namespace Go.Proofs.Ytdmffbbobagloaa
open Go.ChangeShapes Go.WideShapes Go.ChangeAt Go.RowKit
attribute [local go_sem] ownAt ownUpon mixAt mixUpon

set_option maxHeartbeats 2000000 in
set_option maxRecDepth 100000 in
theorem pm_out0 (fi fu iv : Int) (A : Option Addr) (n cap : Nat) (ts : List T2) (u1 u2 u3 u4 iw uw : Int) (w : World) (_hs : Hid (Seg w A (n * 2) (tCell ts))) (h : 100 < (n : Int)) : Calls Try.prog 5 #[.agg #[.int .i64 fi, .int .i64 fu, .int .i64 iv, .slice A n cap], .agg #[.int .i64 u1, .int .i64 u2, .int .i64 u3, .int .i64 u4], .int .i64 iw, .int .i64 uw] w fun e w' => e = .returned (.bool true) ∧ Below w.heap.size w w' := by
  go_enter Try.func5, Try.ntmps5
  go_wp2_with fail
  refine (awake_any _).mono ?_
  rintro _ wx1 ⟨rfl, hb⟩
  have P := ((Box.new w 24 #[.int .i64 fi, .int .i64 fu, .int .i64 iv, .slice A n cap]).alloc _).next hb
  have U := (Box.new ((w).alloc (.cells #[.int .i64 fi, .int .i64 fu, .int .i64 iv, .slice A n cap] 24)) 26 #[.int .i64 u1, .int .i64 u2, .int .i64 u3, .int .i64 u4]).next hb
  simp only [World.size_alloc] at U
  have hB := below_step (below_box (below_box (Below.refl _ w) _) _) hb
  clear hb
  go_wp2
  go_ret
  exact ⟨rfl, hB⟩
set_option maxHeartbeats 2000000 in
set_option maxRecDepth 100000 in
theorem pm_out1 (fi fu iv : Int) (A : Option Addr) (n cap : Nat) (ts : List T2) (u1 u2 u3 u4 iw uw : Int) (w : World) (_hs : Hid (Seg w A (n * 2) (tCell ts))) (h : (n : Int) ≤ 100) (g1 : iw < 0) : Calls Try.prog 5 #[.agg #[.int .i64 fi, .int .i64 fu, .int .i64 iv, .slice A n cap], .agg #[.int .i64 u1, .int .i64 u2, .int .i64 u3, .int .i64 u4], .int .i64 iw, .int .i64 uw] w fun e w' => e = .returned (.bool true) ∧ Below w.heap.size w w' := by
  go_enter Try.func5, Try.ntmps5
  go_wp2_with fail
  refine (awake_any _).mono ?_
  rintro _ wx1 ⟨rfl, hb⟩
  have P := ((Box.new w 24 #[.int .i64 fi, .int .i64 fu, .int .i64 iv, .slice A n cap]).alloc _).next hb
  have U := (Box.new ((w).alloc (.cells #[.int .i64 fi, .int .i64 fu, .int .i64 iv, .slice A n cap] 24)) 26 #[.int .i64 u1, .int .i64 u2, .int .i64 u3, .int .i64 u4]).next hb
  simp only [World.size_alloc] at U
  have hB := below_step (below_box (below_box (Below.refl _ w) _) _) hb
  clear hb
  go_wp2
  go_ret
  exact ⟨rfl, hB⟩
set_option maxHeartbeats 2000000 in
set_option maxRecDepth 100000 in
theorem pm_out2 (fi fu iv : Int) (A : Option Addr) (n cap : Nat) (ts : List T2) (u1 u2 u3 u4 iw uw : Int) (w : World) (_hs : Hid (Seg w A (n * 2) (tCell ts))) (h : (n : Int) ≤ 100) (g1 : 0 ≤ iw) (g2 : uw < 0) : Calls Try.prog 5 #[.agg #[.int .i64 fi, .int .i64 fu, .int .i64 iv, .slice A n cap], .agg #[.int .i64 u1, .int .i64 u2, .int .i64 u3, .int .i64 u4], .int .i64 iw, .int .i64 uw] w fun e w' => e = .returned (.bool true) ∧ Below w.heap.size w w' := by
  go_enter Try.func5, Try.ntmps5
  go_wp2_with fail
  refine (awake_any _).mono ?_
  rintro _ wx1 ⟨rfl, hb⟩
  have P := ((Box.new w 24 #[.int .i64 fi, .int .i64 fu, .int .i64 iv, .slice A n cap]).alloc _).next hb
  have U := (Box.new ((w).alloc (.cells #[.int .i64 fi, .int .i64 fu, .int .i64 iv, .slice A n cap] 24)) 26 #[.int .i64 u1, .int .i64 u2, .int .i64 u3, .int .i64 u4]).next hb
  simp only [World.size_alloc] at U
  have hB := below_step (below_box (below_box (Below.refl _ w) _) _) hb
  clear hb
  go_wp2
  go_ret
  exact ⟨rfl, hB⟩
set_option maxHeartbeats 2000000 in
set_option maxRecDepth 100000 in
theorem pm_out3 (fi fu iv : Int) (A : Option Addr) (n cap : Nat) (ts : List T2) (u1 u2 u3 u4 iw uw : Int) (w : World) (_hs : Hid (Seg w A (n * 2) (tCell ts))) (h : (n : Int) ≤ 100) (g1 : 0 ≤ iw) (g2 : 0 ≤ uw) (g3 : 1000000000000 < iw) : Calls Try.prog 5 #[.agg #[.int .i64 fi, .int .i64 fu, .int .i64 iv, .slice A n cap], .agg #[.int .i64 u1, .int .i64 u2, .int .i64 u3, .int .i64 u4], .int .i64 iw, .int .i64 uw] w fun e w' => e = .returned (.bool true) ∧ Below w.heap.size w w' := by
  go_enter Try.func5, Try.ntmps5
  go_wp2_with fail
  refine (awake_any _).mono ?_
  rintro _ wx1 ⟨rfl, hb⟩
  have P := ((Box.new w 24 #[.int .i64 fi, .int .i64 fu, .int .i64 iv, .slice A n cap]).alloc _).next hb
  have U := (Box.new ((w).alloc (.cells #[.int .i64 fi, .int .i64 fu, .int .i64 iv, .slice A n cap] 24)) 26 #[.int .i64 u1, .int .i64 u2, .int .i64 u3, .int .i64 u4]).next hb
  simp only [World.size_alloc] at U
  have hB := below_step (below_box (below_box (Below.refl _ w) _) _) hb
  clear hb
  go_wp2
  go_ret
  exact ⟨rfl, hB⟩
set_option maxHeartbeats 2000000 in
set_option maxRecDepth 100000 in
theorem pm_out4 (fi fu iv : Int) (A : Option Addr) (n cap : Nat) (ts : List T2) (u1 u2 u3 u4 iw uw : Int) (w : World) (_hs : Hid (Seg w A (n * 2) (tCell ts))) (h : (n : Int) ≤ 100) (g1 : 0 ≤ iw) (g2 : 0 ≤ uw) (g3 : iw ≤ 1000000000000) (g4 : 1000000000000 < uw) : Calls Try.prog 5 #[.agg #[.int .i64 fi, .int .i64 fu, .int .i64 iv, .slice A n cap], .agg #[.int .i64 u1, .int .i64 u2, .int .i64 u3, .int .i64 u4], .int .i64 iw, .int .i64 uw] w fun e w' => e = .returned (.bool true) ∧ Below w.heap.size w w' := by
  go_enter Try.func5, Try.ntmps5
  go_wp2_with fail
  refine (awake_any _).mono ?_
  rintro _ wx1 ⟨rfl, hb⟩
  have P := ((Box.new w 24 #[.int .i64 fi, .int .i64 fu, .int .i64 iv, .slice A n cap]).alloc _).next hb
  have U := (Box.new ((w).alloc (.cells #[.int .i64 fi, .int .i64 fu, .int .i64 iv, .slice A n cap] 24)) 26 #[.int .i64 u1, .int .i64 u2, .int .i64 u3, .int .i64 u4]).next hb
  simp only [World.size_alloc] at U
  have hB := below_step (below_box (below_box (Below.refl _ w) _) _) hb
  clear hb
  go_wp2
  go_ret
  exact ⟨rfl, hB⟩
set_option maxHeartbeats 2000000 in
set_option maxRecDepth 100000 in
theorem pm_err (fi fu iv : Int) (A : Option Addr) (n cap : Nat) (ts : List T2) (u1 u2 u3 u4 iw uw x : Int) (w : World) (hs : Hid (Seg w A (n * 2) (tCell ts))) (h : (n : Int) ≤ 100) (g1 : 0 ≤ iw) (g2 : 0 ≤ uw) (g3 : iw ≤ 1000000000000) (g4 : uw ≤ 1000000000000) (HA : Hid (∀ W, Seg W A (n * 2) (tCell ts) → Calls Try.prog 18 #[.agg #[.int .i64 fi, .int .i64 fu, .int .i64 iv, .slice A n cap], .agg #[.int .i64 u1, .int .i64 u2, .int .i64 u3, .int .i64 u4]] W fun e w' => e = .returned (.tuple #[.int .i64 0, .int .i64 x]) ∧ Below W.heap.size W w')) (hx : (x != 0) = true) : Calls Try.prog 5 #[.agg #[.int .i64 fi, .int .i64 fu, .int .i64 iv, .slice A n cap], .agg #[.int .i64 u1, .int .i64 u2, .int .i64 u3, .int .i64 u4], .int .i64 iw, .int .i64 uw] w fun e w' => e = .returned (.bool true) ∧ Below w.heap.size w w' := by
  go_enter Try.func5, Try.ntmps5
  go_wp2_with fail
  refine (HA.out _ (hs.out.next (below_box (below_box (Below.refl _ _) _) _))).mono ?_
  rintro _ wx1 ⟨rfl, hb⟩
  have P := ((Box.new w 24 #[.int .i64 fi, .int .i64 fu, .int .i64 iv, .slice A n cap]).alloc _).next hb
  have U := (Box.new ((w).alloc (.cells #[.int .i64 fi, .int .i64 fu, .int .i64 iv, .slice A n cap] 24)) 26 #[.int .i64 u1, .int .i64 u2, .int .i64 u3, .int .i64 u4]).next hb
  simp only [World.size_alloc] at U
  have hB := below_step (below_box (below_box (Below.refl _ w) _) _) hb
  clear hb
  have cP_0 := P.cell 0 _ rfl
  have cP_1 := P.cell 1 _ rfl
  have cP_2 := P.cell 2 _ rfl
  have cP_3 := P.cell 3 _ rfl
  have lP := P.lt
  have cU_0 := U.cell 0 _ rfl
  have cU_1 := U.cell 1 _ rfl
  have cU_2 := U.cell 2 _ rfl
  have cU_3 := U.cell 3 _ rfl
  have lU := U.lt
  go_wp2_with fail
  refine (awake_any _).mono ?_
  rintro _ wx2 ⟨rfl, hb⟩
  clear cP_0 cP_1 cP_2 cP_3 lP cU_0 cU_1 cU_2 cU_3 lU
  replace P := P.next hb
  replace U := U.next hb
  replace hB := below_step hB hb
  clear hb
  go_wp2
  go_ret
  exact ⟨rfl, hB⟩
set_option maxHeartbeats 2000000 in
set_option maxRecDepth 100000 in
theorem pm_00 (fi fu iv : Int) (A : Option Addr) (n cap : Nat) (ts : List T2) (u1 u2 u3 u4 iw uw a b b1 bb _c _y m : Int) (w : World) (hs : Hid (Seg w A (n * 2) (tCell ts))) (h : (n : Int) ≤ 100) (g1 : 0 ≤ iw) (g2 : 0 ≤ uw) (g3 : iw ≤ 1000000000000) (g4 : uw ≤ 1000000000000) (HA : Hid (∀ W, Seg W A (n * 2) (tCell ts) → Calls Try.prog 18 #[.agg #[.int .i64 fi, .int .i64 fu, .int .i64 iv, .slice A n cap], .agg #[.int .i64 u1, .int .i64 u2, .int .i64 u3, .int .i64 u4]] W fun e w' => e = .returned (.tuple #[.int .i64 a, .int .i64 0]) ∧ Below W.heap.size W w')) (HB : Hid (∀ W, Seg W A (n * 2) (tCell ts) → Calls Try.prog 18 #[.agg #[.int .i64 fi, .int .i64 fu, .int .i64 iv, .slice A n cap], .agg #[.int .i64 (u1 + iw), .int .i64 u2, .int .i64 u3, .int .i64 (u4 + uw)]] W fun e w' => e = .returned (.tuple #[.int .i64 b, .int .i64 0]) ∧ Below W.heap.size W w')) (HL : Hid (∀ W, Seg W A (n * 2) (tCell ts) → Calls Try.prog 9 #[.agg #[.int .i64 fi, .int .i64 fu, .int .i64 iv, .slice A n cap], .agg #[.int .i64 u1, .int .i64 u2, .int .i64 u3, .int .i64 u4]] W fun e w' => e = .returned (.tuple #[.int .i64 b1, .int .i64 bb, .int .i64 0]) ∧ Below W.heap.size W w')) (e1 : 0 ≤ u1) (e2 : u1 ≤ 1000000000000) (e3 : 0 ≤ u4) (e4 : u4 ≤ 1000000000000) (e5 : 0 ≤ a) (e6 : a ≤ 1000000000000) (e7 : 0 ≤ m) (e8 : m ≤ 1000000000) (hf : a ≤ b) (g5 : u4 < fu) : Calls Try.prog 5 #[.agg #[.int .i64 fi, .int .i64 fu, .int .i64 iv, .slice A n cap], .agg #[.int .i64 u1, .int .i64 u2, .int .i64 u3, .int .i64 u4], .int .i64 iw, .int .i64 uw] w fun e w' => e = .returned (.bool true) ∧ Below w.heap.size w w' := by
  go_enter Try.func5, Try.ntmps5
  have z1 : IntKind.i64.wrap (u1 + iw) = u1 + iw := IntWalk.i64_in _ (by omega)
  have z2 : IntKind.i64.wrap (u4 + uw) = u4 + uw := IntWalk.i64_in _ (by omega)
  have z3 : IntKind.i64.wrap (u4 + 1) = u4 + 1 := IntWalk.i64_in _ (by omega)
  have z4 : IntKind.i64.wrap (a + m) = a + m := IntWalk.i64_in _ (by omega)
  go_wp2_with fail
  refine (HA.out _ (hs.out.next (below_box (below_box (Below.refl _ _) _) _))).mono ?_
  rintro _ wx1 ⟨rfl, hb⟩
  have P := ((Box.new w 24 #[.int .i64 fi, .int .i64 fu, .int .i64 iv, .slice A n cap]).alloc _).next hb
  have U := (Box.new ((w).alloc (.cells #[.int .i64 fi, .int .i64 fu, .int .i64 iv, .slice A n cap] 24)) 26 #[.int .i64 u1, .int .i64 u2, .int .i64 u3, .int .i64 u4]).next hb
  simp only [World.size_alloc] at U
  have hB := below_step (below_box (below_box (Below.refl _ w) _) _) hb
  clear hb
  have cP_0 := P.cell 0 _ rfl
  have cP_1 := P.cell 1 _ rfl
  have cP_2 := P.cell 2 _ rfl
  have cP_3 := P.cell 3 _ rfl
  have lP := P.lt
  have cU_0 := U.cell 0 _ rfl
  have cU_1 := U.cell 1 _ rfl
  have cU_2 := U.cell 2 _ rfl
  have cU_3 := U.cell 3 _ rfl
  have lU := U.lt
  have zP_M := P.lt
  have zU_M := U.lt
  have zB_M := hB.size
  go_wp2_with fail
  refine (HB.out _ (hs.out.next (below_box hB _))).mono ?_
  rintro _ wx2 ⟨rfl, hb⟩
  clear cP_0 cP_1 cP_2 cP_3 lP cU_0 cU_1 cU_2 cU_3 lU
  replace P := (P.alloc _).next hb
  replace U := (U.alloc _).next hb
  have M := (Box.new wx1 26 #[.int .i64 (u1 + iw), .int .i64 u2, .int .i64 u3, .int .i64 (u4 + uw)]).next hb
  replace hB := below_step (below_box hB _) hb
  clear hb
  have cP_0 := P.cell 0 _ rfl
  have cP_1 := P.cell 1 _ rfl
  have cP_2 := P.cell 2 _ rfl
  have cP_3 := P.cell 3 _ rfl
  have lP := P.lt
  have cU_0 := U.cell 0 _ rfl
  have cU_1 := U.cell 1 _ rfl
  have cU_2 := U.cell 2 _ rfl
  have cU_3 := U.cell 3 _ rfl
  have lU := U.lt
  have cM_0 := M.cell 0 _ rfl
  have cM_1 := M.cell 1 _ rfl
  have cM_2 := M.cell 2 _ rfl
  have cM_3 := M.cell 3 _ rfl
  have lM := M.lt
  go_wp2_with fail
  refine (HL.out _ (hs.out.next hB)).mono ?_
  rintro _ wx3 ⟨rfl, hb⟩
  clear cP_0 cP_1 cP_2 cP_3 lP cU_0 cU_1 cU_2 cU_3 lU cM_0 cM_1 cM_2 cM_3 lM
  replace P := P.next hb
  replace U := U.next hb
  replace M := M.next hb
  replace hB := below_step hB hb
  clear hb
  have cP_0 := P.cell 0 _ rfl
  have cP_1 := P.cell 1 _ rfl
  have cP_2 := P.cell 2 _ rfl
  have cP_3 := P.cell 3 _ rfl
  have lP := P.lt
  have cU_0 := U.cell 0 _ rfl
  have cU_1 := U.cell 1 _ rfl
  have cU_2 := U.cell 2 _ rfl
  have cU_3 := U.cell 3 _ rfl
  have lU := U.lt
  have cM_0 := M.cell 0 _ rfl
  have cM_1 := M.cell 1 _ rfl
  have cM_2 := M.cell 2 _ rfl
  have cM_3 := M.cell 3 _ rfl
  have lM := M.lt
  go_wp2_with fail
  refine (awake_any _).mono ?_
  rintro _ wx4 ⟨rfl, hb⟩
  clear cP_0 cP_1 cP_2 cP_3 lP cU_0 cU_1 cU_2 cU_3 lU cM_0 cM_1 cM_2 cM_3 lM
  replace P := P.next hb
  replace U := U.next hb
  replace M := M.next hb
  replace hB := below_step hB hb
  clear hb
  go_wp2
  go_ret
  exact ⟨rfl, hB⟩
set_option maxHeartbeats 2000000 in
set_option maxRecDepth 100000 in
theorem pm_01 (fi fu iv : Int) (A : Option Addr) (n cap : Nat) (ts : List T2) (u1 u2 u3 u4 iw uw a b b1 bb c y m : Int) (w : World) (hs : Hid (Seg w A (n * 2) (tCell ts))) (h : (n : Int) ≤ 100) (g1 : 0 ≤ iw) (g2 : 0 ≤ uw) (g3 : iw ≤ 1000000000000) (g4 : uw ≤ 1000000000000) (HA : Hid (∀ W, Seg W A (n * 2) (tCell ts) → Calls Try.prog 18 #[.agg #[.int .i64 fi, .int .i64 fu, .int .i64 iv, .slice A n cap], .agg #[.int .i64 u1, .int .i64 u2, .int .i64 u3, .int .i64 u4]] W fun e w' => e = .returned (.tuple #[.int .i64 a, .int .i64 0]) ∧ Below W.heap.size W w')) (HB : Hid (∀ W, Seg W A (n * 2) (tCell ts) → Calls Try.prog 18 #[.agg #[.int .i64 fi, .int .i64 fu, .int .i64 iv, .slice A n cap], .agg #[.int .i64 (u1 + iw), .int .i64 u2, .int .i64 u3, .int .i64 (u4 + uw)]] W fun e w' => e = .returned (.tuple #[.int .i64 b, .int .i64 0]) ∧ Below W.heap.size W w')) (HL : Hid (∀ W, Seg W A (n * 2) (tCell ts) → Calls Try.prog 9 #[.agg #[.int .i64 fi, .int .i64 fu, .int .i64 iv, .slice A n cap], .agg #[.int .i64 u1, .int .i64 u2, .int .i64 u3, .int .i64 u4]] W fun e w' => e = .returned (.tuple #[.int .i64 b1, .int .i64 bb, .int .i64 0]) ∧ Below W.heap.size W w')) (HO : Hid (∀ W, Seg W A (n * 2) (tCell ts) → Calls Try.prog 18 #[.agg #[.int .i64 fi, .int .i64 fu, .int .i64 iv, .slice A n cap], .agg #[.int .i64 u1, .int .i64 u2, .int .i64 u3, .int .i64 (u4 + 1)]] W fun e w' => e = .returned (.tuple #[.int .i64 c, .int .i64 y]) ∧ Below W.heap.size W w')) (HM : Hid (∀ W, Seg W A (n * 2) (tCell ts) → Calls Try.prog 13 #[.agg #[.int .i64 fi, .int .i64 fu, .int .i64 iv, .slice A n cap], .int .i64 bb] W fun e w' => e = .returned (.tuple #[.int .i64 m, .int .i64 0]) ∧ Below W.heap.size W w')) (e1 : 0 ≤ u1) (e2 : u1 ≤ 1000000000000) (e3 : 0 ≤ u4) (e4 : u4 ≤ 1000000000000) (e5 : 0 ≤ a) (e6 : a ≤ 1000000000000) (e7 : 0 ≤ m) (e8 : m ≤ 1000000000) (hf : a ≤ b) (g5 : fu ≤ u4) (hy : (y != 0) = true) : Calls Try.prog 5 #[.agg #[.int .i64 fi, .int .i64 fu, .int .i64 iv, .slice A n cap], .agg #[.int .i64 u1, .int .i64 u2, .int .i64 u3, .int .i64 u4], .int .i64 iw, .int .i64 uw] w fun e w' => e = .returned (.bool true) ∧ Below w.heap.size w w' := by
  go_enter Try.func5, Try.ntmps5
  have z1 : IntKind.i64.wrap (u1 + iw) = u1 + iw := IntWalk.i64_in _ (by omega)
  have z2 : IntKind.i64.wrap (u4 + uw) = u4 + uw := IntWalk.i64_in _ (by omega)
  have z3 : IntKind.i64.wrap (u4 + 1) = u4 + 1 := IntWalk.i64_in _ (by omega)
  have z4 : IntKind.i64.wrap (a + m) = a + m := IntWalk.i64_in _ (by omega)
  go_wp2_with fail
  refine (HA.out _ (hs.out.next (below_box (below_box (Below.refl _ _) _) _))).mono ?_
  rintro _ wx1 ⟨rfl, hb⟩
  have P := ((Box.new w 24 #[.int .i64 fi, .int .i64 fu, .int .i64 iv, .slice A n cap]).alloc _).next hb
  have U := (Box.new ((w).alloc (.cells #[.int .i64 fi, .int .i64 fu, .int .i64 iv, .slice A n cap] 24)) 26 #[.int .i64 u1, .int .i64 u2, .int .i64 u3, .int .i64 u4]).next hb
  simp only [World.size_alloc] at U
  have hB := below_step (below_box (below_box (Below.refl _ w) _) _) hb
  clear hb
  have cP_0 := P.cell 0 _ rfl
  have cP_1 := P.cell 1 _ rfl
  have cP_2 := P.cell 2 _ rfl
  have cP_3 := P.cell 3 _ rfl
  have lP := P.lt
  have cU_0 := U.cell 0 _ rfl
  have cU_1 := U.cell 1 _ rfl
  have cU_2 := U.cell 2 _ rfl
  have cU_3 := U.cell 3 _ rfl
  have lU := U.lt
  have zP_M := P.lt
  have zU_M := U.lt
  have zB_M := hB.size
  go_wp2_with fail
  refine (HB.out _ (hs.out.next (below_box hB _))).mono ?_
  rintro _ wx2 ⟨rfl, hb⟩
  clear cP_0 cP_1 cP_2 cP_3 lP cU_0 cU_1 cU_2 cU_3 lU
  replace P := (P.alloc _).next hb
  replace U := (U.alloc _).next hb
  have M := (Box.new wx1 26 #[.int .i64 (u1 + iw), .int .i64 u2, .int .i64 u3, .int .i64 (u4 + uw)]).next hb
  replace hB := below_step (below_box hB _) hb
  clear hb
  have cP_0 := P.cell 0 _ rfl
  have cP_1 := P.cell 1 _ rfl
  have cP_2 := P.cell 2 _ rfl
  have cP_3 := P.cell 3 _ rfl
  have lP := P.lt
  have cU_0 := U.cell 0 _ rfl
  have cU_1 := U.cell 1 _ rfl
  have cU_2 := U.cell 2 _ rfl
  have cU_3 := U.cell 3 _ rfl
  have lU := U.lt
  have cM_0 := M.cell 0 _ rfl
  have cM_1 := M.cell 1 _ rfl
  have cM_2 := M.cell 2 _ rfl
  have cM_3 := M.cell 3 _ rfl
  have lM := M.lt
  go_wp2_with fail
  refine (HL.out _ (hs.out.next hB)).mono ?_
  rintro _ wx3 ⟨rfl, hb⟩
  clear cP_0 cP_1 cP_2 cP_3 lP cU_0 cU_1 cU_2 cU_3 lU cM_0 cM_1 cM_2 cM_3 lM
  replace P := P.next hb
  replace U := U.next hb
  replace M := M.next hb
  replace hB := below_step hB hb
  clear hb
  have cP_0 := P.cell 0 _ rfl
  have cP_1 := P.cell 1 _ rfl
  have cP_2 := P.cell 2 _ rfl
  have cP_3 := P.cell 3 _ rfl
  have lP := P.lt
  have cU_0 := U.cell 0 _ rfl
  have cU_1 := U.cell 1 _ rfl
  have cU_2 := U.cell 2 _ rfl
  have cU_3 := U.cell 3 _ rfl
  have lU := U.lt
  have cM_0 := M.cell 0 _ rfl
  have cM_1 := M.cell 1 _ rfl
  have cM_2 := M.cell 2 _ rfl
  have cM_3 := M.cell 3 _ rfl
  have lM := M.lt
  have zP_O := P.lt
  have zU_O := U.lt
  have zM_O := M.lt
  have zB_O := hB.size
  go_wp2_with fail
  refine (HO.out _ (hs.out.next (below_box hB _))).mono ?_
  rintro _ wx4 ⟨rfl, hb⟩
  clear cP_0 cP_1 cP_2 cP_3 lP cU_0 cU_1 cU_2 cU_3 lU cM_0 cM_1 cM_2 cM_3 lM
  replace P := (P.alloc _).next hb
  replace U := (U.alloc _).next hb
  replace M := (M.alloc _).next hb
  have O := (Box.new wx3 26 #[.int .i64 u1, .int .i64 u2, .int .i64 u3, .int .i64 (u4 + 1)]).next hb
  replace hB := below_step (below_box hB _) hb
  clear hb
  have cP_0 := P.cell 0 _ rfl
  have cP_1 := P.cell 1 _ rfl
  have cP_2 := P.cell 2 _ rfl
  have cP_3 := P.cell 3 _ rfl
  have lP := P.lt
  have cU_0 := U.cell 0 _ rfl
  have cU_1 := U.cell 1 _ rfl
  have cU_2 := U.cell 2 _ rfl
  have cU_3 := U.cell 3 _ rfl
  have lU := U.lt
  have cM_0 := M.cell 0 _ rfl
  have cM_1 := M.cell 1 _ rfl
  have cM_2 := M.cell 2 _ rfl
  have cM_3 := M.cell 3 _ rfl
  have lM := M.lt
  have cO_0 := O.cell 0 _ rfl
  have cO_1 := O.cell 1 _ rfl
  have cO_2 := O.cell 2 _ rfl
  have cO_3 := O.cell 3 _ rfl
  have lO := O.lt
  go_wp2_with fail
  refine (HM.out _ (hs.out.next hB)).mono ?_
  rintro _ wx5 ⟨rfl, hb⟩
  clear cP_0 cP_1 cP_2 cP_3 lP cU_0 cU_1 cU_2 cU_3 lU cM_0 cM_1 cM_2 cM_3 lM cO_0 cO_1 cO_2 cO_3 lO
  replace P := P.next hb
  replace U := U.next hb
  replace M := M.next hb
  replace O := O.next hb
  replace hB := below_step hB hb
  clear hb
  have cP_0 := P.cell 0 _ rfl
  have cP_1 := P.cell 1 _ rfl
  have cP_2 := P.cell 2 _ rfl
  have cP_3 := P.cell 3 _ rfl
  have lP := P.lt
  have cU_0 := U.cell 0 _ rfl
  have cU_1 := U.cell 1 _ rfl
  have cU_2 := U.cell 2 _ rfl
  have cU_3 := U.cell 3 _ rfl
  have lU := U.lt
  have cM_0 := M.cell 0 _ rfl
  have cM_1 := M.cell 1 _ rfl
  have cM_2 := M.cell 2 _ rfl
  have cM_3 := M.cell 3 _ rfl
  have lM := M.lt
  have cO_0 := O.cell 0 _ rfl
  have cO_1 := O.cell 1 _ rfl
  have cO_2 := O.cell 2 _ rfl
  have cO_3 := O.cell 3 _ rfl
  have lO := O.lt
  go_wp2_with fail
  refine (awake_any _).mono ?_
  rintro _ wx6 ⟨rfl, hb⟩
  clear cP_0 cP_1 cP_2 cP_3 lP cU_0 cU_1 cU_2 cU_3 lU cM_0 cM_1 cM_2 cM_3 lM cO_0 cO_1 cO_2 cO_3 lO
  replace P := P.next hb
  replace U := U.next hb
  replace M := M.next hb
  replace O := O.next hb
  replace hB := below_step hB hb
  clear hb
  go_wp2
  go_ret
  exact ⟨rfl, hB⟩
set_option maxHeartbeats 2000000 in
set_option maxRecDepth 100000 in
theorem pm_02 (fi fu iv : Int) (A : Option Addr) (n cap : Nat) (ts : List T2) (u1 u2 u3 u4 iw uw a b b1 bb _c _y m : Int) (w : World) (hs : Hid (Seg w A (n * 2) (tCell ts))) (h : (n : Int) ≤ 100) (g1 : 0 ≤ iw) (g2 : 0 ≤ uw) (g3 : iw ≤ 1000000000000) (g4 : uw ≤ 1000000000000) (HA : Hid (∀ W, Seg W A (n * 2) (tCell ts) → Calls Try.prog 18 #[.agg #[.int .i64 fi, .int .i64 fu, .int .i64 iv, .slice A n cap], .agg #[.int .i64 u1, .int .i64 u2, .int .i64 u3, .int .i64 u4]] W fun e w' => e = .returned (.tuple #[.int .i64 a, .int .i64 0]) ∧ Below W.heap.size W w')) (HB : Hid (∀ W, Seg W A (n * 2) (tCell ts) → Calls Try.prog 18 #[.agg #[.int .i64 fi, .int .i64 fu, .int .i64 iv, .slice A n cap], .agg #[.int .i64 (u1 + iw), .int .i64 u2, .int .i64 u3, .int .i64 (u4 + uw)]] W fun e w' => e = .returned (.tuple #[.int .i64 b, .int .i64 0]) ∧ Below W.heap.size W w')) (HL : Hid (∀ W, Seg W A (n * 2) (tCell ts) → Calls Try.prog 9 #[.agg #[.int .i64 fi, .int .i64 fu, .int .i64 iv, .slice A n cap], .agg #[.int .i64 u1, .int .i64 u2, .int .i64 u3, .int .i64 u4]] W fun e w' => e = .returned (.tuple #[.int .i64 b1, .int .i64 bb, .int .i64 0]) ∧ Below W.heap.size W w')) (HO : Hid (∀ W, Seg W A (n * 2) (tCell ts) → Calls Try.prog 18 #[.agg #[.int .i64 fi, .int .i64 fu, .int .i64 iv, .slice A n cap], .agg #[.int .i64 u1, .int .i64 u2, .int .i64 u3, .int .i64 (u4 + 1)]] W fun e w' => e = .returned (.tuple #[.int .i64 (a + m), .int .i64 0]) ∧ Below W.heap.size W w')) (HM : Hid (∀ W, Seg W A (n * 2) (tCell ts) → Calls Try.prog 13 #[.agg #[.int .i64 fi, .int .i64 fu, .int .i64 iv, .slice A n cap], .int .i64 bb] W fun e w' => e = .returned (.tuple #[.int .i64 m, .int .i64 0]) ∧ Below W.heap.size W w')) (e1 : 0 ≤ u1) (e2 : u1 ≤ 1000000000000) (e3 : 0 ≤ u4) (e4 : u4 ≤ 1000000000000) (e5 : 0 ≤ a) (e6 : a ≤ 1000000000000) (e7 : 0 ≤ m) (e8 : m ≤ 1000000000) (hf : a ≤ b) (g5 : fu ≤ u4) : Calls Try.prog 5 #[.agg #[.int .i64 fi, .int .i64 fu, .int .i64 iv, .slice A n cap], .agg #[.int .i64 u1, .int .i64 u2, .int .i64 u3, .int .i64 u4], .int .i64 iw, .int .i64 uw] w fun e w' => e = .returned (.bool true) ∧ Below w.heap.size w w' := by
  go_enter Try.func5, Try.ntmps5
  have z1 : IntKind.i64.wrap (u1 + iw) = u1 + iw := IntWalk.i64_in _ (by omega)
  have z2 : IntKind.i64.wrap (u4 + uw) = u4 + uw := IntWalk.i64_in _ (by omega)
  have z3 : IntKind.i64.wrap (u4 + 1) = u4 + 1 := IntWalk.i64_in _ (by omega)
  have z4 : IntKind.i64.wrap (a + m) = a + m := IntWalk.i64_in _ (by omega)
  go_wp2_with fail
  refine (HA.out _ (hs.out.next (below_box (below_box (Below.refl _ _) _) _))).mono ?_
  rintro _ wx1 ⟨rfl, hb⟩
  have P := ((Box.new w 24 #[.int .i64 fi, .int .i64 fu, .int .i64 iv, .slice A n cap]).alloc _).next hb
  have U := (Box.new ((w).alloc (.cells #[.int .i64 fi, .int .i64 fu, .int .i64 iv, .slice A n cap] 24)) 26 #[.int .i64 u1, .int .i64 u2, .int .i64 u3, .int .i64 u4]).next hb
  simp only [World.size_alloc] at U
  have hB := below_step (below_box (below_box (Below.refl _ w) _) _) hb
  clear hb
  have cP_0 := P.cell 0 _ rfl
  have cP_1 := P.cell 1 _ rfl
  have cP_2 := P.cell 2 _ rfl
  have cP_3 := P.cell 3 _ rfl
  have lP := P.lt
  have cU_0 := U.cell 0 _ rfl
  have cU_1 := U.cell 1 _ rfl
  have cU_2 := U.cell 2 _ rfl
  have cU_3 := U.cell 3 _ rfl
  have lU := U.lt
  have zP_M := P.lt
  have zU_M := U.lt
  have zB_M := hB.size
  go_wp2_with fail
  refine (HB.out _ (hs.out.next (below_box hB _))).mono ?_
  rintro _ wx2 ⟨rfl, hb⟩
  clear cP_0 cP_1 cP_2 cP_3 lP cU_0 cU_1 cU_2 cU_3 lU
  replace P := (P.alloc _).next hb
  replace U := (U.alloc _).next hb
  have M := (Box.new wx1 26 #[.int .i64 (u1 + iw), .int .i64 u2, .int .i64 u3, .int .i64 (u4 + uw)]).next hb
  replace hB := below_step (below_box hB _) hb
  clear hb
  have cP_0 := P.cell 0 _ rfl
  have cP_1 := P.cell 1 _ rfl
  have cP_2 := P.cell 2 _ rfl
  have cP_3 := P.cell 3 _ rfl
  have lP := P.lt
  have cU_0 := U.cell 0 _ rfl
  have cU_1 := U.cell 1 _ rfl
  have cU_2 := U.cell 2 _ rfl
  have cU_3 := U.cell 3 _ rfl
  have lU := U.lt
  have cM_0 := M.cell 0 _ rfl
  have cM_1 := M.cell 1 _ rfl
  have cM_2 := M.cell 2 _ rfl
  have cM_3 := M.cell 3 _ rfl
  have lM := M.lt
  go_wp2_with fail
  refine (HL.out _ (hs.out.next hB)).mono ?_
  rintro _ wx3 ⟨rfl, hb⟩
  clear cP_0 cP_1 cP_2 cP_3 lP cU_0 cU_1 cU_2 cU_3 lU cM_0 cM_1 cM_2 cM_3 lM
  replace P := P.next hb
  replace U := U.next hb
  replace M := M.next hb
  replace hB := below_step hB hb
  clear hb
  have cP_0 := P.cell 0 _ rfl
  have cP_1 := P.cell 1 _ rfl
  have cP_2 := P.cell 2 _ rfl
  have cP_3 := P.cell 3 _ rfl
  have lP := P.lt
  have cU_0 := U.cell 0 _ rfl
  have cU_1 := U.cell 1 _ rfl
  have cU_2 := U.cell 2 _ rfl
  have cU_3 := U.cell 3 _ rfl
  have lU := U.lt
  have cM_0 := M.cell 0 _ rfl
  have cM_1 := M.cell 1 _ rfl
  have cM_2 := M.cell 2 _ rfl
  have cM_3 := M.cell 3 _ rfl
  have lM := M.lt
  have zP_O := P.lt
  have zU_O := U.lt
  have zM_O := M.lt
  have zB_O := hB.size
  go_wp2_with fail
  refine (HO.out _ (hs.out.next (below_box hB _))).mono ?_
  rintro _ wx4 ⟨rfl, hb⟩
  clear cP_0 cP_1 cP_2 cP_3 lP cU_0 cU_1 cU_2 cU_3 lU cM_0 cM_1 cM_2 cM_3 lM
  replace P := (P.alloc _).next hb
  replace U := (U.alloc _).next hb
  replace M := (M.alloc _).next hb
  have O := (Box.new wx3 26 #[.int .i64 u1, .int .i64 u2, .int .i64 u3, .int .i64 (u4 + 1)]).next hb
  replace hB := below_step (below_box hB _) hb
  clear hb
  have cP_0 := P.cell 0 _ rfl
  have cP_1 := P.cell 1 _ rfl
  have cP_2 := P.cell 2 _ rfl
  have cP_3 := P.cell 3 _ rfl
  have lP := P.lt
  have cU_0 := U.cell 0 _ rfl
  have cU_1 := U.cell 1 _ rfl
  have cU_2 := U.cell 2 _ rfl
  have cU_3 := U.cell 3 _ rfl
  have lU := U.lt
  have cM_0 := M.cell 0 _ rfl
  have cM_1 := M.cell 1 _ rfl
  have cM_2 := M.cell 2 _ rfl
  have cM_3 := M.cell 3 _ rfl
  have lM := M.lt
  have cO_0 := O.cell 0 _ rfl
  have cO_1 := O.cell 1 _ rfl
  have cO_2 := O.cell 2 _ rfl
  have cO_3 := O.cell 3 _ rfl
  have lO := O.lt
  go_wp2_with fail
  refine (HM.out _ (hs.out.next hB)).mono ?_
  rintro _ wx5 ⟨rfl, hb⟩
  clear cP_0 cP_1 cP_2 cP_3 lP cU_0 cU_1 cU_2 cU_3 lU cM_0 cM_1 cM_2 cM_3 lM cO_0 cO_1 cO_2 cO_3 lO
  replace P := P.next hb
  replace U := U.next hb
  replace M := M.next hb
  replace O := O.next hb
  replace hB := below_step hB hb
  clear hb
  have cP_0 := P.cell 0 _ rfl
  have cP_1 := P.cell 1 _ rfl
  have cP_2 := P.cell 2 _ rfl
  have cP_3 := P.cell 3 _ rfl
  have lP := P.lt
  have cU_0 := U.cell 0 _ rfl
  have cU_1 := U.cell 1 _ rfl
  have cU_2 := U.cell 2 _ rfl
  have cU_3 := U.cell 3 _ rfl
  have lU := U.lt
  have cM_0 := M.cell 0 _ rfl
  have cM_1 := M.cell 1 _ rfl
  have cM_2 := M.cell 2 _ rfl
  have cM_3 := M.cell 3 _ rfl
  have lM := M.lt
  have cO_0 := O.cell 0 _ rfl
  have cO_1 := O.cell 1 _ rfl
  have cO_2 := O.cell 2 _ rfl
  have cO_3 := O.cell 3 _ rfl
  have lO := O.lt
  go_wp2_with fail
  refine (awake_any _).mono ?_
  rintro _ wx6 ⟨rfl, hb⟩
  clear cP_0 cP_1 cP_2 cP_3 lP cU_0 cU_1 cU_2 cU_3 lU cM_0 cM_1 cM_2 cM_3 lM cO_0 cO_1 cO_2 cO_3 lO
  replace P := P.next hb
  replace U := U.next hb
  replace M := M.next hb
  replace O := O.next hb
  replace hB := below_step hB hb
  clear hb
  go_wp2
  go_ret
  exact ⟨rfl, hB⟩
set_option maxHeartbeats 2000000 in
set_option maxRecDepth 100000 in
theorem pm_10 (fi fu iv : Int) (A : Option Addr) (n cap : Nat) (ts : List T2) (u1 u2 u3 u4 iw uw a b b1 bb _c _y m : Int) (w : World) (hs : Hid (Seg w A (n * 2) (tCell ts))) (h : (n : Int) ≤ 100) (g1 : 0 ≤ iw) (g2 : 0 ≤ uw) (g3 : iw ≤ 1000000000000) (g4 : uw ≤ 1000000000000) (HA : Hid (∀ W, Seg W A (n * 2) (tCell ts) → Calls Try.prog 18 #[.agg #[.int .i64 fi, .int .i64 fu, .int .i64 iv, .slice A n cap], .agg #[.int .i64 u1, .int .i64 u2, .int .i64 u3, .int .i64 u4]] W fun e w' => e = .returned (.tuple #[.int .i64 a, .int .i64 0]) ∧ Below W.heap.size W w')) (HB : Hid (∀ W, Seg W A (n * 2) (tCell ts) → Calls Try.prog 18 #[.agg #[.int .i64 fi, .int .i64 fu, .int .i64 iv, .slice A n cap], .agg #[.int .i64 (u1 + iw), .int .i64 u2, .int .i64 u3, .int .i64 (u4 + uw)]] W fun e w' => e = .returned (.tuple #[.int .i64 b, .int .i64 8]) ∧ Below W.heap.size W w')) (HL : Hid (∀ W, Seg W A (n * 2) (tCell ts) → Calls Try.prog 9 #[.agg #[.int .i64 fi, .int .i64 fu, .int .i64 iv, .slice A n cap], .agg #[.int .i64 u1, .int .i64 u2, .int .i64 u3, .int .i64 u4]] W fun e w' => e = .returned (.tuple #[.int .i64 b1, .int .i64 bb, .int .i64 0]) ∧ Below W.heap.size W w')) (e1 : 0 ≤ u1) (e2 : u1 ≤ 1000000000000) (e3 : 0 ≤ u4) (e4 : u4 ≤ 1000000000000) (e5 : 0 ≤ a) (e6 : a ≤ 1000000000000) (e7 : 0 ≤ m) (e8 : m ≤ 1000000000) (g5 : u4 < fu) : Calls Try.prog 5 #[.agg #[.int .i64 fi, .int .i64 fu, .int .i64 iv, .slice A n cap], .agg #[.int .i64 u1, .int .i64 u2, .int .i64 u3, .int .i64 u4], .int .i64 iw, .int .i64 uw] w fun e w' => e = .returned (.bool true) ∧ Below w.heap.size w w' := by
  go_enter Try.func5, Try.ntmps5
  have z1 : IntKind.i64.wrap (u1 + iw) = u1 + iw := IntWalk.i64_in _ (by omega)
  have z2 : IntKind.i64.wrap (u4 + uw) = u4 + uw := IntWalk.i64_in _ (by omega)
  have z3 : IntKind.i64.wrap (u4 + 1) = u4 + 1 := IntWalk.i64_in _ (by omega)
  have z4 : IntKind.i64.wrap (a + m) = a + m := IntWalk.i64_in _ (by omega)
  go_wp2_with fail
  refine (HA.out _ (hs.out.next (below_box (below_box (Below.refl _ _) _) _))).mono ?_
  rintro _ wx1 ⟨rfl, hb⟩
  have P := ((Box.new w 24 #[.int .i64 fi, .int .i64 fu, .int .i64 iv, .slice A n cap]).alloc _).next hb
  have U := (Box.new ((w).alloc (.cells #[.int .i64 fi, .int .i64 fu, .int .i64 iv, .slice A n cap] 24)) 26 #[.int .i64 u1, .int .i64 u2, .int .i64 u3, .int .i64 u4]).next hb
  simp only [World.size_alloc] at U
  have hB := below_step (below_box (below_box (Below.refl _ w) _) _) hb
  clear hb
  have cP_0 := P.cell 0 _ rfl
  have cP_1 := P.cell 1 _ rfl
  have cP_2 := P.cell 2 _ rfl
  have cP_3 := P.cell 3 _ rfl
  have lP := P.lt
  have cU_0 := U.cell 0 _ rfl
  have cU_1 := U.cell 1 _ rfl
  have cU_2 := U.cell 2 _ rfl
  have cU_3 := U.cell 3 _ rfl
  have lU := U.lt
  have zP_M := P.lt
  have zU_M := U.lt
  have zB_M := hB.size
  go_wp2_with fail
  refine (HB.out _ (hs.out.next (below_box hB _))).mono ?_
  rintro _ wx2 ⟨rfl, hb⟩
  clear cP_0 cP_1 cP_2 cP_3 lP cU_0 cU_1 cU_2 cU_3 lU
  replace P := (P.alloc _).next hb
  replace U := (U.alloc _).next hb
  have M := (Box.new wx1 26 #[.int .i64 (u1 + iw), .int .i64 u2, .int .i64 u3, .int .i64 (u4 + uw)]).next hb
  replace hB := below_step (below_box hB _) hb
  clear hb
  have cP_0 := P.cell 0 _ rfl
  have cP_1 := P.cell 1 _ rfl
  have cP_2 := P.cell 2 _ rfl
  have cP_3 := P.cell 3 _ rfl
  have lP := P.lt
  have cU_0 := U.cell 0 _ rfl
  have cU_1 := U.cell 1 _ rfl
  have cU_2 := U.cell 2 _ rfl
  have cU_3 := U.cell 3 _ rfl
  have lU := U.lt
  have cM_0 := M.cell 0 _ rfl
  have cM_1 := M.cell 1 _ rfl
  have cM_2 := M.cell 2 _ rfl
  have cM_3 := M.cell 3 _ rfl
  have lM := M.lt
  go_wp2_with fail
  refine (HL.out _ (hs.out.next hB)).mono ?_
  rintro _ wx3 ⟨rfl, hb⟩
  clear cP_0 cP_1 cP_2 cP_3 lP cU_0 cU_1 cU_2 cU_3 lU cM_0 cM_1 cM_2 cM_3 lM
  replace P := P.next hb
  replace U := U.next hb
  replace M := M.next hb
  replace hB := below_step hB hb
  clear hb
  have cP_0 := P.cell 0 _ rfl
  have cP_1 := P.cell 1 _ rfl
  have cP_2 := P.cell 2 _ rfl
  have cP_3 := P.cell 3 _ rfl
  have lP := P.lt
  have cU_0 := U.cell 0 _ rfl
  have cU_1 := U.cell 1 _ rfl
  have cU_2 := U.cell 2 _ rfl
  have cU_3 := U.cell 3 _ rfl
  have lU := U.lt
  have cM_0 := M.cell 0 _ rfl
  have cM_1 := M.cell 1 _ rfl
  have cM_2 := M.cell 2 _ rfl
  have cM_3 := M.cell 3 _ rfl
  have lM := M.lt
  go_wp2_with fail
  refine (awake_any _).mono ?_
  rintro _ wx4 ⟨rfl, hb⟩
  clear cP_0 cP_1 cP_2 cP_3 lP cU_0 cU_1 cU_2 cU_3 lU cM_0 cM_1 cM_2 cM_3 lM
  replace P := P.next hb
  replace U := U.next hb
  replace M := M.next hb
  replace hB := below_step hB hb
  clear hb
  go_wp2
  go_ret
  exact ⟨rfl, hB⟩
set_option maxHeartbeats 2000000 in
set_option maxRecDepth 100000 in
theorem pm_11 (fi fu iv : Int) (A : Option Addr) (n cap : Nat) (ts : List T2) (u1 u2 u3 u4 iw uw a b b1 bb c y m : Int) (w : World) (hs : Hid (Seg w A (n * 2) (tCell ts))) (h : (n : Int) ≤ 100) (g1 : 0 ≤ iw) (g2 : 0 ≤ uw) (g3 : iw ≤ 1000000000000) (g4 : uw ≤ 1000000000000) (HA : Hid (∀ W, Seg W A (n * 2) (tCell ts) → Calls Try.prog 18 #[.agg #[.int .i64 fi, .int .i64 fu, .int .i64 iv, .slice A n cap], .agg #[.int .i64 u1, .int .i64 u2, .int .i64 u3, .int .i64 u4]] W fun e w' => e = .returned (.tuple #[.int .i64 a, .int .i64 0]) ∧ Below W.heap.size W w')) (HB : Hid (∀ W, Seg W A (n * 2) (tCell ts) → Calls Try.prog 18 #[.agg #[.int .i64 fi, .int .i64 fu, .int .i64 iv, .slice A n cap], .agg #[.int .i64 (u1 + iw), .int .i64 u2, .int .i64 u3, .int .i64 (u4 + uw)]] W fun e w' => e = .returned (.tuple #[.int .i64 b, .int .i64 8]) ∧ Below W.heap.size W w')) (HL : Hid (∀ W, Seg W A (n * 2) (tCell ts) → Calls Try.prog 9 #[.agg #[.int .i64 fi, .int .i64 fu, .int .i64 iv, .slice A n cap], .agg #[.int .i64 u1, .int .i64 u2, .int .i64 u3, .int .i64 u4]] W fun e w' => e = .returned (.tuple #[.int .i64 b1, .int .i64 bb, .int .i64 0]) ∧ Below W.heap.size W w')) (HO : Hid (∀ W, Seg W A (n * 2) (tCell ts) → Calls Try.prog 18 #[.agg #[.int .i64 fi, .int .i64 fu, .int .i64 iv, .slice A n cap], .agg #[.int .i64 u1, .int .i64 u2, .int .i64 u3, .int .i64 (u4 + 1)]] W fun e w' => e = .returned (.tuple #[.int .i64 c, .int .i64 y]) ∧ Below W.heap.size W w')) (HM : Hid (∀ W, Seg W A (n * 2) (tCell ts) → Calls Try.prog 13 #[.agg #[.int .i64 fi, .int .i64 fu, .int .i64 iv, .slice A n cap], .int .i64 bb] W fun e w' => e = .returned (.tuple #[.int .i64 m, .int .i64 0]) ∧ Below W.heap.size W w')) (e1 : 0 ≤ u1) (e2 : u1 ≤ 1000000000000) (e3 : 0 ≤ u4) (e4 : u4 ≤ 1000000000000) (e5 : 0 ≤ a) (e6 : a ≤ 1000000000000) (e7 : 0 ≤ m) (e8 : m ≤ 1000000000) (g5 : fu ≤ u4) (hy : (y != 0) = true) : Calls Try.prog 5 #[.agg #[.int .i64 fi, .int .i64 fu, .int .i64 iv, .slice A n cap], .agg #[.int .i64 u1, .int .i64 u2, .int .i64 u3, .int .i64 u4], .int .i64 iw, .int .i64 uw] w fun e w' => e = .returned (.bool true) ∧ Below w.heap.size w w' := by
  go_enter Try.func5, Try.ntmps5
  have z1 : IntKind.i64.wrap (u1 + iw) = u1 + iw := IntWalk.i64_in _ (by omega)
  have z2 : IntKind.i64.wrap (u4 + uw) = u4 + uw := IntWalk.i64_in _ (by omega)
  have z3 : IntKind.i64.wrap (u4 + 1) = u4 + 1 := IntWalk.i64_in _ (by omega)
  have z4 : IntKind.i64.wrap (a + m) = a + m := IntWalk.i64_in _ (by omega)
  go_wp2_with fail
  refine (HA.out _ (hs.out.next (below_box (below_box (Below.refl _ _) _) _))).mono ?_
  rintro _ wx1 ⟨rfl, hb⟩
  have P := ((Box.new w 24 #[.int .i64 fi, .int .i64 fu, .int .i64 iv, .slice A n cap]).alloc _).next hb
  have U := (Box.new ((w).alloc (.cells #[.int .i64 fi, .int .i64 fu, .int .i64 iv, .slice A n cap] 24)) 26 #[.int .i64 u1, .int .i64 u2, .int .i64 u3, .int .i64 u4]).next hb
  simp only [World.size_alloc] at U
  have hB := below_step (below_box (below_box (Below.refl _ w) _) _) hb
  clear hb
  have cP_0 := P.cell 0 _ rfl
  have cP_1 := P.cell 1 _ rfl
  have cP_2 := P.cell 2 _ rfl
  have cP_3 := P.cell 3 _ rfl
  have lP := P.lt
  have cU_0 := U.cell 0 _ rfl
  have cU_1 := U.cell 1 _ rfl
  have cU_2 := U.cell 2 _ rfl
  have cU_3 := U.cell 3 _ rfl
  have lU := U.lt
  have zP_M := P.lt
  have zU_M := U.lt
  have zB_M := hB.size
  go_wp2_with fail
  refine (HB.out _ (hs.out.next (below_box hB _))).mono ?_
  rintro _ wx2 ⟨rfl, hb⟩
  clear cP_0 cP_1 cP_2 cP_3 lP cU_0 cU_1 cU_2 cU_3 lU
  replace P := (P.alloc _).next hb
  replace U := (U.alloc _).next hb
  have M := (Box.new wx1 26 #[.int .i64 (u1 + iw), .int .i64 u2, .int .i64 u3, .int .i64 (u4 + uw)]).next hb
  replace hB := below_step (below_box hB _) hb
  clear hb
  have cP_0 := P.cell 0 _ rfl
  have cP_1 := P.cell 1 _ rfl
  have cP_2 := P.cell 2 _ rfl
  have cP_3 := P.cell 3 _ rfl
  have lP := P.lt
  have cU_0 := U.cell 0 _ rfl
  have cU_1 := U.cell 1 _ rfl
  have cU_2 := U.cell 2 _ rfl
  have cU_3 := U.cell 3 _ rfl
  have lU := U.lt
  have cM_0 := M.cell 0 _ rfl
  have cM_1 := M.cell 1 _ rfl
  have cM_2 := M.cell 2 _ rfl
  have cM_3 := M.cell 3 _ rfl
  have lM := M.lt
  go_wp2_with fail
  refine (HL.out _ (hs.out.next hB)).mono ?_
  rintro _ wx3 ⟨rfl, hb⟩
  clear cP_0 cP_1 cP_2 cP_3 lP cU_0 cU_1 cU_2 cU_3 lU cM_0 cM_1 cM_2 cM_3 lM
  replace P := P.next hb
  replace U := U.next hb
  replace M := M.next hb
  replace hB := below_step hB hb
  clear hb
  have cP_0 := P.cell 0 _ rfl
  have cP_1 := P.cell 1 _ rfl
  have cP_2 := P.cell 2 _ rfl
  have cP_3 := P.cell 3 _ rfl
  have lP := P.lt
  have cU_0 := U.cell 0 _ rfl
  have cU_1 := U.cell 1 _ rfl
  have cU_2 := U.cell 2 _ rfl
  have cU_3 := U.cell 3 _ rfl
  have lU := U.lt
  have cM_0 := M.cell 0 _ rfl
  have cM_1 := M.cell 1 _ rfl
  have cM_2 := M.cell 2 _ rfl
  have cM_3 := M.cell 3 _ rfl
  have lM := M.lt
  have zP_O := P.lt
  have zU_O := U.lt
  have zM_O := M.lt
  have zB_O := hB.size
  go_wp2_with fail
  refine (HO.out _ (hs.out.next (below_box hB _))).mono ?_
  rintro _ wx4 ⟨rfl, hb⟩
  clear cP_0 cP_1 cP_2 cP_3 lP cU_0 cU_1 cU_2 cU_3 lU cM_0 cM_1 cM_2 cM_3 lM
  replace P := (P.alloc _).next hb
  replace U := (U.alloc _).next hb
  replace M := (M.alloc _).next hb
  have O := (Box.new wx3 26 #[.int .i64 u1, .int .i64 u2, .int .i64 u3, .int .i64 (u4 + 1)]).next hb
  replace hB := below_step (below_box hB _) hb
  clear hb
  have cP_0 := P.cell 0 _ rfl
  have cP_1 := P.cell 1 _ rfl
  have cP_2 := P.cell 2 _ rfl
  have cP_3 := P.cell 3 _ rfl
  have lP := P.lt
  have cU_0 := U.cell 0 _ rfl
  have cU_1 := U.cell 1 _ rfl
  have cU_2 := U.cell 2 _ rfl
  have cU_3 := U.cell 3 _ rfl
  have lU := U.lt
  have cM_0 := M.cell 0 _ rfl
  have cM_1 := M.cell 1 _ rfl
  have cM_2 := M.cell 2 _ rfl
  have cM_3 := M.cell 3 _ rfl
  have lM := M.lt
  have cO_0 := O.cell 0 _ rfl
  have cO_1 := O.cell 1 _ rfl
  have cO_2 := O.cell 2 _ rfl
  have cO_3 := O.cell 3 _ rfl
  have lO := O.lt
  go_wp2_with fail
  refine (HM.out _ (hs.out.next hB)).mono ?_
  rintro _ wx5 ⟨rfl, hb⟩
  clear cP_0 cP_1 cP_2 cP_3 lP cU_0 cU_1 cU_2 cU_3 lU cM_0 cM_1 cM_2 cM_3 lM cO_0 cO_1 cO_2 cO_3 lO
  replace P := P.next hb
  replace U := U.next hb
  replace M := M.next hb
  replace O := O.next hb
  replace hB := below_step hB hb
  clear hb
  have cP_0 := P.cell 0 _ rfl
  have cP_1 := P.cell 1 _ rfl
  have cP_2 := P.cell 2 _ rfl
  have cP_3 := P.cell 3 _ rfl
  have lP := P.lt
  have cU_0 := U.cell 0 _ rfl
  have cU_1 := U.cell 1 _ rfl
  have cU_2 := U.cell 2 _ rfl
  have cU_3 := U.cell 3 _ rfl
  have lU := U.lt
  have cM_0 := M.cell 0 _ rfl
  have cM_1 := M.cell 1 _ rfl
  have cM_2 := M.cell 2 _ rfl
  have cM_3 := M.cell 3 _ rfl
  have lM := M.lt
  have cO_0 := O.cell 0 _ rfl
  have cO_1 := O.cell 1 _ rfl
  have cO_2 := O.cell 2 _ rfl
  have cO_3 := O.cell 3 _ rfl
  have lO := O.lt
  go_wp2_with fail
  refine (awake_any _).mono ?_
  rintro _ wx6 ⟨rfl, hb⟩
  clear cP_0 cP_1 cP_2 cP_3 lP cU_0 cU_1 cU_2 cU_3 lU cM_0 cM_1 cM_2 cM_3 lM cO_0 cO_1 cO_2 cO_3 lO
  replace P := P.next hb
  replace U := U.next hb
  replace M := M.next hb
  replace O := O.next hb
  replace hB := below_step hB hb
  clear hb
  go_wp2
  go_ret
  exact ⟨rfl, hB⟩
set_option maxHeartbeats 2000000 in
set_option maxRecDepth 100000 in
theorem pm_12 (fi fu iv : Int) (A : Option Addr) (n cap : Nat) (ts : List T2) (u1 u2 u3 u4 iw uw a b b1 bb _c _y m : Int) (w : World) (hs : Hid (Seg w A (n * 2) (tCell ts))) (h : (n : Int) ≤ 100) (g1 : 0 ≤ iw) (g2 : 0 ≤ uw) (g3 : iw ≤ 1000000000000) (g4 : uw ≤ 1000000000000) (HA : Hid (∀ W, Seg W A (n * 2) (tCell ts) → Calls Try.prog 18 #[.agg #[.int .i64 fi, .int .i64 fu, .int .i64 iv, .slice A n cap], .agg #[.int .i64 u1, .int .i64 u2, .int .i64 u3, .int .i64 u4]] W fun e w' => e = .returned (.tuple #[.int .i64 a, .int .i64 0]) ∧ Below W.heap.size W w')) (HB : Hid (∀ W, Seg W A (n * 2) (tCell ts) → Calls Try.prog 18 #[.agg #[.int .i64 fi, .int .i64 fu, .int .i64 iv, .slice A n cap], .agg #[.int .i64 (u1 + iw), .int .i64 u2, .int .i64 u3, .int .i64 (u4 + uw)]] W fun e w' => e = .returned (.tuple #[.int .i64 b, .int .i64 8]) ∧ Below W.heap.size W w')) (HL : Hid (∀ W, Seg W A (n * 2) (tCell ts) → Calls Try.prog 9 #[.agg #[.int .i64 fi, .int .i64 fu, .int .i64 iv, .slice A n cap], .agg #[.int .i64 u1, .int .i64 u2, .int .i64 u3, .int .i64 u4]] W fun e w' => e = .returned (.tuple #[.int .i64 b1, .int .i64 bb, .int .i64 0]) ∧ Below W.heap.size W w')) (HO : Hid (∀ W, Seg W A (n * 2) (tCell ts) → Calls Try.prog 18 #[.agg #[.int .i64 fi, .int .i64 fu, .int .i64 iv, .slice A n cap], .agg #[.int .i64 u1, .int .i64 u2, .int .i64 u3, .int .i64 (u4 + 1)]] W fun e w' => e = .returned (.tuple #[.int .i64 (a + m), .int .i64 0]) ∧ Below W.heap.size W w')) (HM : Hid (∀ W, Seg W A (n * 2) (tCell ts) → Calls Try.prog 13 #[.agg #[.int .i64 fi, .int .i64 fu, .int .i64 iv, .slice A n cap], .int .i64 bb] W fun e w' => e = .returned (.tuple #[.int .i64 m, .int .i64 0]) ∧ Below W.heap.size W w')) (e1 : 0 ≤ u1) (e2 : u1 ≤ 1000000000000) (e3 : 0 ≤ u4) (e4 : u4 ≤ 1000000000000) (e5 : 0 ≤ a) (e6 : a ≤ 1000000000000) (e7 : 0 ≤ m) (e8 : m ≤ 1000000000) (g5 : fu ≤ u4) : Calls Try.prog 5 #[.agg #[.int .i64 fi, .int .i64 fu, .int .i64 iv, .slice A n cap], .agg #[.int .i64 u1, .int .i64 u2, .int .i64 u3, .int .i64 u4], .int .i64 iw, .int .i64 uw] w fun e w' => e = .returned (.bool true) ∧ Below w.heap.size w w' := by
  go_enter Try.func5, Try.ntmps5
  have z1 : IntKind.i64.wrap (u1 + iw) = u1 + iw := IntWalk.i64_in _ (by omega)
  have z2 : IntKind.i64.wrap (u4 + uw) = u4 + uw := IntWalk.i64_in _ (by omega)
  have z3 : IntKind.i64.wrap (u4 + 1) = u4 + 1 := IntWalk.i64_in _ (by omega)
  have z4 : IntKind.i64.wrap (a + m) = a + m := IntWalk.i64_in _ (by omega)
  go_wp2_with fail
  refine (HA.out _ (hs.out.next (below_box (below_box (Below.refl _ _) _) _))).mono ?_
  rintro _ wx1 ⟨rfl, hb⟩
  have P := ((Box.new w 24 #[.int .i64 fi, .int .i64 fu, .int .i64 iv, .slice A n cap]).alloc _).next hb
  have U := (Box.new ((w).alloc (.cells #[.int .i64 fi, .int .i64 fu, .int .i64 iv, .slice A n cap] 24)) 26 #[.int .i64 u1, .int .i64 u2, .int .i64 u3, .int .i64 u4]).next hb
  simp only [World.size_alloc] at U
  have hB := below_step (below_box (below_box (Below.refl _ w) _) _) hb
  clear hb
  have cP_0 := P.cell 0 _ rfl
  have cP_1 := P.cell 1 _ rfl
  have cP_2 := P.cell 2 _ rfl
  have cP_3 := P.cell 3 _ rfl
  have lP := P.lt
  have cU_0 := U.cell 0 _ rfl
  have cU_1 := U.cell 1 _ rfl
  have cU_2 := U.cell 2 _ rfl
  have cU_3 := U.cell 3 _ rfl
  have lU := U.lt
  have zP_M := P.lt
  have zU_M := U.lt
  have zB_M := hB.size
  go_wp2_with fail
  refine (HB.out _ (hs.out.next (below_box hB _))).mono ?_
  rintro _ wx2 ⟨rfl, hb⟩
  clear cP_0 cP_1 cP_2 cP_3 lP cU_0 cU_1 cU_2 cU_3 lU
  replace P := (P.alloc _).next hb
  replace U := (U.alloc _).next hb
  have M := (Box.new wx1 26 #[.int .i64 (u1 + iw), .int .i64 u2, .int .i64 u3, .int .i64 (u4 + uw)]).next hb
  replace hB := below_step (below_box hB _) hb
  clear hb
  have cP_0 := P.cell 0 _ rfl
  have cP_1 := P.cell 1 _ rfl
  have cP_2 := P.cell 2 _ rfl
  have cP_3 := P.cell 3 _ rfl
  have lP := P.lt
  have cU_0 := U.cell 0 _ rfl
  have cU_1 := U.cell 1 _ rfl
  have cU_2 := U.cell 2 _ rfl
  have cU_3 := U.cell 3 _ rfl
  have lU := U.lt
  have cM_0 := M.cell 0 _ rfl
  have cM_1 := M.cell 1 _ rfl
  have cM_2 := M.cell 2 _ rfl
  have cM_3 := M.cell 3 _ rfl
  have lM := M.lt
  go_wp2_with fail
  refine (HL.out _ (hs.out.next hB)).mono ?_
  rintro _ wx3 ⟨rfl, hb⟩
  clear cP_0 cP_1 cP_2 cP_3 lP cU_0 cU_1 cU_2 cU_3 lU cM_0 cM_1 cM_2 cM_3 lM
  replace P := P.next hb
  replace U := U.next hb
  replace M := M.next hb
  replace hB := below_step hB hb
  clear hb
  have cP_0 := P.cell 0 _ rfl
  have cP_1 := P.cell 1 _ rfl
  have cP_2 := P.cell 2 _ rfl
  have cP_3 := P.cell 3 _ rfl
  have lP := P.lt
  have cU_0 := U.cell 0 _ rfl
  have cU_1 := U.cell 1 _ rfl
  have cU_2 := U.cell 2 _ rfl
  have cU_3 := U.cell 3 _ rfl
  have lU := U.lt
  have cM_0 := M.cell 0 _ rfl
  have cM_1 := M.cell 1 _ rfl
  have cM_2 := M.cell 2 _ rfl
  have cM_3 := M.cell 3 _ rfl
  have lM := M.lt
  have zP_O := P.lt
  have zU_O := U.lt
  have zM_O := M.lt
  have zB_O := hB.size
  go_wp2_with fail
  refine (HO.out _ (hs.out.next (below_box hB _))).mono ?_
  rintro _ wx4 ⟨rfl, hb⟩
  clear cP_0 cP_1 cP_2 cP_3 lP cU_0 cU_1 cU_2 cU_3 lU cM_0 cM_1 cM_2 cM_3 lM
  replace P := (P.alloc _).next hb
  replace U := (U.alloc _).next hb
  replace M := (M.alloc _).next hb
  have O := (Box.new wx3 26 #[.int .i64 u1, .int .i64 u2, .int .i64 u3, .int .i64 (u4 + 1)]).next hb
  replace hB := below_step (below_box hB _) hb
  clear hb
  have cP_0 := P.cell 0 _ rfl
  have cP_1 := P.cell 1 _ rfl
  have cP_2 := P.cell 2 _ rfl
  have cP_3 := P.cell 3 _ rfl
  have lP := P.lt
  have cU_0 := U.cell 0 _ rfl
  have cU_1 := U.cell 1 _ rfl
  have cU_2 := U.cell 2 _ rfl
  have cU_3 := U.cell 3 _ rfl
  have lU := U.lt
  have cM_0 := M.cell 0 _ rfl
  have cM_1 := M.cell 1 _ rfl
  have cM_2 := M.cell 2 _ rfl
  have cM_3 := M.cell 3 _ rfl
  have lM := M.lt
  have cO_0 := O.cell 0 _ rfl
  have cO_1 := O.cell 1 _ rfl
  have cO_2 := O.cell 2 _ rfl
  have cO_3 := O.cell 3 _ rfl
  have lO := O.lt
  go_wp2_with fail
  refine (HM.out _ (hs.out.next hB)).mono ?_
  rintro _ wx5 ⟨rfl, hb⟩
  clear cP_0 cP_1 cP_2 cP_3 lP cU_0 cU_1 cU_2 cU_3 lU cM_0 cM_1 cM_2 cM_3 lM cO_0 cO_1 cO_2 cO_3 lO
  replace P := P.next hb
  replace U := U.next hb
  replace M := M.next hb
  replace O := O.next hb
  replace hB := below_step hB hb
  clear hb
  have cP_0 := P.cell 0 _ rfl
  have cP_1 := P.cell 1 _ rfl
  have cP_2 := P.cell 2 _ rfl
  have cP_3 := P.cell 3 _ rfl
  have lP := P.lt
  have cU_0 := U.cell 0 _ rfl
  have cU_1 := U.cell 1 _ rfl
  have cU_2 := U.cell 2 _ rfl
  have cU_3 := U.cell 3 _ rfl
  have lU := U.lt
  have cM_0 := M.cell 0 _ rfl
  have cM_1 := M.cell 1 _ rfl
  have cM_2 := M.cell 2 _ rfl
  have cM_3 := M.cell 3 _ rfl
  have lM := M.lt
  have cO_0 := O.cell 0 _ rfl
  have cO_1 := O.cell 1 _ rfl
  have cO_2 := O.cell 2 _ rfl
  have cO_3 := O.cell 3 _ rfl
  have lO := O.lt
  go_wp2_with fail
  refine (awake_any _).mono ?_
  rintro _ wx6 ⟨rfl, hb⟩
  clear cP_0 cP_1 cP_2 cP_3 lP cU_0 cU_1 cU_2 cU_3 lU cM_0 cM_1 cM_2 cM_3 lM cO_0 cO_1 cO_2 cO_3 lO
  replace P := P.next hb
  replace U := U.next hb
  replace M := M.next hb
  replace O := O.next hb
  replace hB := below_step hB hb
  clear hb
  go_wp2
  go_ret
  exact ⟨rfl, hB⟩
set_option maxHeartbeats 2000000 in
set_option maxRecDepth 100000 in
theorem pm_20 (fi fu iv : Int) (A : Option Addr) (n cap : Nat) (ts : List T2) (u1 u2 u3 u4 iw uw a b b1 bb _c _y m : Int) (w : World) (hs : Hid (Seg w A (n * 2) (tCell ts))) (h : (n : Int) ≤ 100) (g1 : 0 ≤ iw) (g2 : 0 ≤ uw) (g3 : iw ≤ 1000000000000) (g4 : uw ≤ 1000000000000) (HA : Hid (∀ W, Seg W A (n * 2) (tCell ts) → Calls Try.prog 18 #[.agg #[.int .i64 fi, .int .i64 fu, .int .i64 iv, .slice A n cap], .agg #[.int .i64 u1, .int .i64 u2, .int .i64 u3, .int .i64 u4]] W fun e w' => e = .returned (.tuple #[.int .i64 a, .int .i64 0]) ∧ Below W.heap.size W w')) (HB : Hid (∀ W, Seg W A (n * 2) (tCell ts) → Calls Try.prog 18 #[.agg #[.int .i64 fi, .int .i64 fu, .int .i64 iv, .slice A n cap], .agg #[.int .i64 (u1 + iw), .int .i64 u2, .int .i64 u3, .int .i64 (u4 + uw)]] W fun e w' => e = .returned (.tuple #[.int .i64 b, .int .i64 2]) ∧ Below W.heap.size W w')) (HL : Hid (∀ W, Seg W A (n * 2) (tCell ts) → Calls Try.prog 9 #[.agg #[.int .i64 fi, .int .i64 fu, .int .i64 iv, .slice A n cap], .agg #[.int .i64 u1, .int .i64 u2, .int .i64 u3, .int .i64 u4]] W fun e w' => e = .returned (.tuple #[.int .i64 b1, .int .i64 bb, .int .i64 0]) ∧ Below W.heap.size W w')) (e1 : 0 ≤ u1) (e2 : u1 ≤ 1000000000000) (e3 : 0 ≤ u4) (e4 : u4 ≤ 1000000000000) (e5 : 0 ≤ a) (e6 : a ≤ 1000000000000) (e7 : 0 ≤ m) (e8 : m ≤ 1000000000) (g5 : u4 < fu) : Calls Try.prog 5 #[.agg #[.int .i64 fi, .int .i64 fu, .int .i64 iv, .slice A n cap], .agg #[.int .i64 u1, .int .i64 u2, .int .i64 u3, .int .i64 u4], .int .i64 iw, .int .i64 uw] w fun e w' => e = .returned (.bool true) ∧ Below w.heap.size w w' := by
  go_enter Try.func5, Try.ntmps5
  have z1 : IntKind.i64.wrap (u1 + iw) = u1 + iw := IntWalk.i64_in _ (by omega)
  have z2 : IntKind.i64.wrap (u4 + uw) = u4 + uw := IntWalk.i64_in _ (by omega)
  have z3 : IntKind.i64.wrap (u4 + 1) = u4 + 1 := IntWalk.i64_in _ (by omega)
  have z4 : IntKind.i64.wrap (a + m) = a + m := IntWalk.i64_in _ (by omega)
  go_wp2_with fail
  refine (HA.out _ (hs.out.next (below_box (below_box (Below.refl _ _) _) _))).mono ?_
  rintro _ wx1 ⟨rfl, hb⟩
  have P := ((Box.new w 24 #[.int .i64 fi, .int .i64 fu, .int .i64 iv, .slice A n cap]).alloc _).next hb
  have U := (Box.new ((w).alloc (.cells #[.int .i64 fi, .int .i64 fu, .int .i64 iv, .slice A n cap] 24)) 26 #[.int .i64 u1, .int .i64 u2, .int .i64 u3, .int .i64 u4]).next hb
  simp only [World.size_alloc] at U
  have hB := below_step (below_box (below_box (Below.refl _ w) _) _) hb
  clear hb
  have cP_0 := P.cell 0 _ rfl
  have cP_1 := P.cell 1 _ rfl
  have cP_2 := P.cell 2 _ rfl
  have cP_3 := P.cell 3 _ rfl
  have lP := P.lt
  have cU_0 := U.cell 0 _ rfl
  have cU_1 := U.cell 1 _ rfl
  have cU_2 := U.cell 2 _ rfl
  have cU_3 := U.cell 3 _ rfl
  have lU := U.lt
  have zP_M := P.lt
  have zU_M := U.lt
  have zB_M := hB.size
  go_wp2_with fail
  refine (HB.out _ (hs.out.next (below_box hB _))).mono ?_
  rintro _ wx2 ⟨rfl, hb⟩
  clear cP_0 cP_1 cP_2 cP_3 lP cU_0 cU_1 cU_2 cU_3 lU
  replace P := (P.alloc _).next hb
  replace U := (U.alloc _).next hb
  have M := (Box.new wx1 26 #[.int .i64 (u1 + iw), .int .i64 u2, .int .i64 u3, .int .i64 (u4 + uw)]).next hb
  replace hB := below_step (below_box hB _) hb
  clear hb
  have cP_0 := P.cell 0 _ rfl
  have cP_1 := P.cell 1 _ rfl
  have cP_2 := P.cell 2 _ rfl
  have cP_3 := P.cell 3 _ rfl
  have lP := P.lt
  have cU_0 := U.cell 0 _ rfl
  have cU_1 := U.cell 1 _ rfl
  have cU_2 := U.cell 2 _ rfl
  have cU_3 := U.cell 3 _ rfl
  have lU := U.lt
  have cM_0 := M.cell 0 _ rfl
  have cM_1 := M.cell 1 _ rfl
  have cM_2 := M.cell 2 _ rfl
  have cM_3 := M.cell 3 _ rfl
  have lM := M.lt
  go_wp2_with fail
  refine (HL.out _ (hs.out.next hB)).mono ?_
  rintro _ wx3 ⟨rfl, hb⟩
  clear cP_0 cP_1 cP_2 cP_3 lP cU_0 cU_1 cU_2 cU_3 lU cM_0 cM_1 cM_2 cM_3 lM
  replace P := P.next hb
  replace U := U.next hb
  replace M := M.next hb
  replace hB := below_step hB hb
  clear hb
  have cP_0 := P.cell 0 _ rfl
  have cP_1 := P.cell 1 _ rfl
  have cP_2 := P.cell 2 _ rfl
  have cP_3 := P.cell 3 _ rfl
  have lP := P.lt
  have cU_0 := U.cell 0 _ rfl
  have cU_1 := U.cell 1 _ rfl
  have cU_2 := U.cell 2 _ rfl
  have cU_3 := U.cell 3 _ rfl
  have lU := U.lt
  have cM_0 := M.cell 0 _ rfl
  have cM_1 := M.cell 1 _ rfl
  have cM_2 := M.cell 2 _ rfl
  have cM_3 := M.cell 3 _ rfl
  have lM := M.lt
  go_wp2_with fail
  refine (awake_any _).mono ?_
  rintro _ wx4 ⟨rfl, hb⟩
  clear cP_0 cP_1 cP_2 cP_3 lP cU_0 cU_1 cU_2 cU_3 lU cM_0 cM_1 cM_2 cM_3 lM
  replace P := P.next hb
  replace U := U.next hb
  replace M := M.next hb
  replace hB := below_step hB hb
  clear hb
  go_wp2
  go_ret
  exact ⟨rfl, hB⟩
set_option maxHeartbeats 2000000 in
set_option maxRecDepth 100000 in
theorem pm_21 (fi fu iv : Int) (A : Option Addr) (n cap : Nat) (ts : List T2) (u1 u2 u3 u4 iw uw a b b1 bb c y m : Int) (w : World) (hs : Hid (Seg w A (n * 2) (tCell ts))) (h : (n : Int) ≤ 100) (g1 : 0 ≤ iw) (g2 : 0 ≤ uw) (g3 : iw ≤ 1000000000000) (g4 : uw ≤ 1000000000000) (HA : Hid (∀ W, Seg W A (n * 2) (tCell ts) → Calls Try.prog 18 #[.agg #[.int .i64 fi, .int .i64 fu, .int .i64 iv, .slice A n cap], .agg #[.int .i64 u1, .int .i64 u2, .int .i64 u3, .int .i64 u4]] W fun e w' => e = .returned (.tuple #[.int .i64 a, .int .i64 0]) ∧ Below W.heap.size W w')) (HB : Hid (∀ W, Seg W A (n * 2) (tCell ts) → Calls Try.prog 18 #[.agg #[.int .i64 fi, .int .i64 fu, .int .i64 iv, .slice A n cap], .agg #[.int .i64 (u1 + iw), .int .i64 u2, .int .i64 u3, .int .i64 (u4 + uw)]] W fun e w' => e = .returned (.tuple #[.int .i64 b, .int .i64 2]) ∧ Below W.heap.size W w')) (HL : Hid (∀ W, Seg W A (n * 2) (tCell ts) → Calls Try.prog 9 #[.agg #[.int .i64 fi, .int .i64 fu, .int .i64 iv, .slice A n cap], .agg #[.int .i64 u1, .int .i64 u2, .int .i64 u3, .int .i64 u4]] W fun e w' => e = .returned (.tuple #[.int .i64 b1, .int .i64 bb, .int .i64 0]) ∧ Below W.heap.size W w')) (HO : Hid (∀ W, Seg W A (n * 2) (tCell ts) → Calls Try.prog 18 #[.agg #[.int .i64 fi, .int .i64 fu, .int .i64 iv, .slice A n cap], .agg #[.int .i64 u1, .int .i64 u2, .int .i64 u3, .int .i64 (u4 + 1)]] W fun e w' => e = .returned (.tuple #[.int .i64 c, .int .i64 y]) ∧ Below W.heap.size W w')) (HM : Hid (∀ W, Seg W A (n * 2) (tCell ts) → Calls Try.prog 13 #[.agg #[.int .i64 fi, .int .i64 fu, .int .i64 iv, .slice A n cap], .int .i64 bb] W fun e w' => e = .returned (.tuple #[.int .i64 m, .int .i64 0]) ∧ Below W.heap.size W w')) (e1 : 0 ≤ u1) (e2 : u1 ≤ 1000000000000) (e3 : 0 ≤ u4) (e4 : u4 ≤ 1000000000000) (e5 : 0 ≤ a) (e6 : a ≤ 1000000000000) (e7 : 0 ≤ m) (e8 : m ≤ 1000000000) (g5 : fu ≤ u4) (hy : (y != 0) = true) : Calls Try.prog 5 #[.agg #[.int .i64 fi, .int .i64 fu, .int .i64 iv, .slice A n cap], .agg #[.int .i64 u1, .int .i64 u2, .int .i64 u3, .int .i64 u4], .int .i64 iw, .int .i64 uw] w fun e w' => e = .returned (.bool true) ∧ Below w.heap.size w w' := by
  go_enter Try.func5, Try.ntmps5
  have z1 : IntKind.i64.wrap (u1 + iw) = u1 + iw := IntWalk.i64_in _ (by omega)
  have z2 : IntKind.i64.wrap (u4 + uw) = u4 + uw := IntWalk.i64_in _ (by omega)
  have z3 : IntKind.i64.wrap (u4 + 1) = u4 + 1 := IntWalk.i64_in _ (by omega)
  have z4 : IntKind.i64.wrap (a + m) = a + m := IntWalk.i64_in _ (by omega)
  go_wp2_with fail
  refine (HA.out _ (hs.out.next (below_box (below_box (Below.refl _ _) _) _))).mono ?_
  rintro _ wx1 ⟨rfl, hb⟩
  have P := ((Box.new w 24 #[.int .i64 fi, .int .i64 fu, .int .i64 iv, .slice A n cap]).alloc _).next hb
  have U := (Box.new ((w).alloc (.cells #[.int .i64 fi, .int .i64 fu, .int .i64 iv, .slice A n cap] 24)) 26 #[.int .i64 u1, .int .i64 u2, .int .i64 u3, .int .i64 u4]).next hb
  simp only [World.size_alloc] at U
  have hB := below_step (below_box (below_box (Below.refl _ w) _) _) hb
  clear hb
  have cP_0 := P.cell 0 _ rfl
  have cP_1 := P.cell 1 _ rfl
  have cP_2 := P.cell 2 _ rfl
  have cP_3 := P.cell 3 _ rfl
  have lP := P.lt
  have cU_0 := U.cell 0 _ rfl
  have cU_1 := U.cell 1 _ rfl
  have cU_2 := U.cell 2 _ rfl
  have cU_3 := U.cell 3 _ rfl
  have lU := U.lt
  have zP_M := P.lt
  have zU_M := U.lt
  have zB_M := hB.size
  go_wp2_with fail
  refine (HB.out _ (hs.out.next (below_box hB _))).mono ?_
  rintro _ wx2 ⟨rfl, hb⟩
  clear cP_0 cP_1 cP_2 cP_3 lP cU_0 cU_1 cU_2 cU_3 lU
  replace P := (P.alloc _).next hb
  replace U := (U.alloc _).next hb
  have M := (Box.new wx1 26 #[.int .i64 (u1 + iw), .int .i64 u2, .int .i64 u3, .int .i64 (u4 + uw)]).next hb
  replace hB := below_step (below_box hB _) hb
  clear hb
  have cP_0 := P.cell 0 _ rfl
  have cP_1 := P.cell 1 _ rfl
  have cP_2 := P.cell 2 _ rfl
  have cP_3 := P.cell 3 _ rfl
  have lP := P.lt
  have cU_0 := U.cell 0 _ rfl
  have cU_1 := U.cell 1 _ rfl
  have cU_2 := U.cell 2 _ rfl
  have cU_3 := U.cell 3 _ rfl
  have lU := U.lt
  have cM_0 := M.cell 0 _ rfl
  have cM_1 := M.cell 1 _ rfl
  have cM_2 := M.cell 2 _ rfl
  have cM_3 := M.cell 3 _ rfl
  have lM := M.lt
  go_wp2_with fail
  refine (HL.out _ (hs.out.next hB)).mono ?_
  rintro _ wx3 ⟨rfl, hb⟩
  clear cP_0 cP_1 cP_2 cP_3 lP cU_0 cU_1 cU_2 cU_3 lU cM_0 cM_1 cM_2 cM_3 lM
  replace P := P.next hb
  replace U := U.next hb
  replace M := M.next hb
  replace hB := below_step hB hb
  clear hb
  have cP_0 := P.cell 0 _ rfl
  have cP_1 := P.cell 1 _ rfl
  have cP_2 := P.cell 2 _ rfl
  have cP_3 := P.cell 3 _ rfl
  have lP := P.lt
  have cU_0 := U.cell 0 _ rfl
  have cU_1 := U.cell 1 _ rfl
  have cU_2 := U.cell 2 _ rfl
  have cU_3 := U.cell 3 _ rfl
  have lU := U.lt
  have cM_0 := M.cell 0 _ rfl
  have cM_1 := M.cell 1 _ rfl
  have cM_2 := M.cell 2 _ rfl
  have cM_3 := M.cell 3 _ rfl
  have lM := M.lt
  have zP_O := P.lt
  have zU_O := U.lt
  have zM_O := M.lt
  have zB_O := hB.size
  go_wp2_with fail
  refine (HO.out _ (hs.out.next (below_box hB _))).mono ?_
  rintro _ wx4 ⟨rfl, hb⟩
  clear cP_0 cP_1 cP_2 cP_3 lP cU_0 cU_1 cU_2 cU_3 lU cM_0 cM_1 cM_2 cM_3 lM
  replace P := (P.alloc _).next hb
  replace U := (U.alloc _).next hb
  replace M := (M.alloc _).next hb
  have O := (Box.new wx3 26 #[.int .i64 u1, .int .i64 u2, .int .i64 u3, .int .i64 (u4 + 1)]).next hb
  replace hB := below_step (below_box hB _) hb
  clear hb
  have cP_0 := P.cell 0 _ rfl
  have cP_1 := P.cell 1 _ rfl
  have cP_2 := P.cell 2 _ rfl
  have cP_3 := P.cell 3 _ rfl
  have lP := P.lt
  have cU_0 := U.cell 0 _ rfl
  have cU_1 := U.cell 1 _ rfl
  have cU_2 := U.cell 2 _ rfl
  have cU_3 := U.cell 3 _ rfl
  have lU := U.lt
  have cM_0 := M.cell 0 _ rfl
  have cM_1 := M.cell 1 _ rfl
  have cM_2 := M.cell 2 _ rfl
  have cM_3 := M.cell 3 _ rfl
  have lM := M.lt
  have cO_0 := O.cell 0 _ rfl
  have cO_1 := O.cell 1 _ rfl
  have cO_2 := O.cell 2 _ rfl
  have cO_3 := O.cell 3 _ rfl
  have lO := O.lt
  go_wp2_with fail
  refine (HM.out _ (hs.out.next hB)).mono ?_
  rintro _ wx5 ⟨rfl, hb⟩
  clear cP_0 cP_1 cP_2 cP_3 lP cU_0 cU_1 cU_2 cU_3 lU cM_0 cM_1 cM_2 cM_3 lM cO_0 cO_1 cO_2 cO_3 lO
  replace P := P.next hb
  replace U := U.next hb
  replace M := M.next hb
  replace O := O.next hb
  replace hB := below_step hB hb
  clear hb
  have cP_0 := P.cell 0 _ rfl
  have cP_1 := P.cell 1 _ rfl
  have cP_2 := P.cell 2 _ rfl
  have cP_3 := P.cell 3 _ rfl
  have lP := P.lt
  have cU_0 := U.cell 0 _ rfl
  have cU_1 := U.cell 1 _ rfl
  have cU_2 := U.cell 2 _ rfl
  have cU_3 := U.cell 3 _ rfl
  have lU := U.lt
  have cM_0 := M.cell 0 _ rfl
  have cM_1 := M.cell 1 _ rfl
  have cM_2 := M.cell 2 _ rfl
  have cM_3 := M.cell 3 _ rfl
  have lM := M.lt
  have cO_0 := O.cell 0 _ rfl
  have cO_1 := O.cell 1 _ rfl
  have cO_2 := O.cell 2 _ rfl
  have cO_3 := O.cell 3 _ rfl
  have lO := O.lt
  go_wp2_with fail
  refine (awake_any _).mono ?_
  rintro _ wx6 ⟨rfl, hb⟩
  clear cP_0 cP_1 cP_2 cP_3 lP cU_0 cU_1 cU_2 cU_3 lU cM_0 cM_1 cM_2 cM_3 lM cO_0 cO_1 cO_2 cO_3 lO
  replace P := P.next hb
  replace U := U.next hb
  replace M := M.next hb
  replace O := O.next hb
  replace hB := below_step hB hb
  clear hb
  go_wp2
  go_ret
  exact ⟨rfl, hB⟩
set_option maxHeartbeats 2000000 in
set_option maxRecDepth 100000 in
theorem pm_22 (fi fu iv : Int) (A : Option Addr) (n cap : Nat) (ts : List T2) (u1 u2 u3 u4 iw uw a b b1 bb _c _y m : Int) (w : World) (hs : Hid (Seg w A (n * 2) (tCell ts))) (h : (n : Int) ≤ 100) (g1 : 0 ≤ iw) (g2 : 0 ≤ uw) (g3 : iw ≤ 1000000000000) (g4 : uw ≤ 1000000000000) (HA : Hid (∀ W, Seg W A (n * 2) (tCell ts) → Calls Try.prog 18 #[.agg #[.int .i64 fi, .int .i64 fu, .int .i64 iv, .slice A n cap], .agg #[.int .i64 u1, .int .i64 u2, .int .i64 u3, .int .i64 u4]] W fun e w' => e = .returned (.tuple #[.int .i64 a, .int .i64 0]) ∧ Below W.heap.size W w')) (HB : Hid (∀ W, Seg W A (n * 2) (tCell ts) → Calls Try.prog 18 #[.agg #[.int .i64 fi, .int .i64 fu, .int .i64 iv, .slice A n cap], .agg #[.int .i64 (u1 + iw), .int .i64 u2, .int .i64 u3, .int .i64 (u4 + uw)]] W fun e w' => e = .returned (.tuple #[.int .i64 b, .int .i64 2]) ∧ Below W.heap.size W w')) (HL : Hid (∀ W, Seg W A (n * 2) (tCell ts) → Calls Try.prog 9 #[.agg #[.int .i64 fi, .int .i64 fu, .int .i64 iv, .slice A n cap], .agg #[.int .i64 u1, .int .i64 u2, .int .i64 u3, .int .i64 u4]] W fun e w' => e = .returned (.tuple #[.int .i64 b1, .int .i64 bb, .int .i64 0]) ∧ Below W.heap.size W w')) (HO : Hid (∀ W, Seg W A (n * 2) (tCell ts) → Calls Try.prog 18 #[.agg #[.int .i64 fi, .int .i64 fu, .int .i64 iv, .slice A n cap], .agg #[.int .i64 u1, .int .i64 u2, .int .i64 u3, .int .i64 (u4 + 1)]] W fun e w' => e = .returned (.tuple #[.int .i64 (a + m), .int .i64 0]) ∧ Below W.heap.size W w')) (HM : Hid (∀ W, Seg W A (n * 2) (tCell ts) → Calls Try.prog 13 #[.agg #[.int .i64 fi, .int .i64 fu, .int .i64 iv, .slice A n cap], .int .i64 bb] W fun e w' => e = .returned (.tuple #[.int .i64 m, .int .i64 0]) ∧ Below W.heap.size W w')) (e1 : 0 ≤ u1) (e2 : u1 ≤ 1000000000000) (e3 : 0 ≤ u4) (e4 : u4 ≤ 1000000000000) (e5 : 0 ≤ a) (e6 : a ≤ 1000000000000) (e7 : 0 ≤ m) (e8 : m ≤ 1000000000) (g5 : fu ≤ u4) : Calls Try.prog 5 #[.agg #[.int .i64 fi, .int .i64 fu, .int .i64 iv, .slice A n cap], .agg #[.int .i64 u1, .int .i64 u2, .int .i64 u3, .int .i64 u4], .int .i64 iw, .int .i64 uw] w fun e w' => e = .returned (.bool true) ∧ Below w.heap.size w w' := by
  go_enter Try.func5, Try.ntmps5
  have z1 : IntKind.i64.wrap (u1 + iw) = u1 + iw := IntWalk.i64_in _ (by omega)
  have z2 : IntKind.i64.wrap (u4 + uw) = u4 + uw := IntWalk.i64_in _ (by omega)
  have z3 : IntKind.i64.wrap (u4 + 1) = u4 + 1 := IntWalk.i64_in _ (by omega)
  have z4 : IntKind.i64.wrap (a + m) = a + m := IntWalk.i64_in _ (by omega)
  go_wp2_with fail
  refine (HA.out _ (hs.out.next (below_box (below_box (Below.refl _ _) _) _))).mono ?_
  rintro _ wx1 ⟨rfl, hb⟩
  have P := ((Box.new w 24 #[.int .i64 fi, .int .i64 fu, .int .i64 iv, .slice A n cap]).alloc _).next hb
  have U := (Box.new ((w).alloc (.cells #[.int .i64 fi, .int .i64 fu, .int .i64 iv, .slice A n cap] 24)) 26 #[.int .i64 u1, .int .i64 u2, .int .i64 u3, .int .i64 u4]).next hb
  simp only [World.size_alloc] at U
  have hB := below_step (below_box (below_box (Below.refl _ w) _) _) hb
  clear hb
  have cP_0 := P.cell 0 _ rfl
  have cP_1 := P.cell 1 _ rfl
  have cP_2 := P.cell 2 _ rfl
  have cP_3 := P.cell 3 _ rfl
  have lP := P.lt
  have cU_0 := U.cell 0 _ rfl
  have cU_1 := U.cell 1 _ rfl
  have cU_2 := U.cell 2 _ rfl
  have cU_3 := U.cell 3 _ rfl
  have lU := U.lt
  have zP_M := P.lt
  have zU_M := U.lt
  have zB_M := hB.size
  go_wp2_with fail
  refine (HB.out _ (hs.out.next (below_box hB _))).mono ?_
  rintro _ wx2 ⟨rfl, hb⟩
  clear cP_0 cP_1 cP_2 cP_3 lP cU_0 cU_1 cU_2 cU_3 lU
  replace P := (P.alloc _).next hb
  replace U := (U.alloc _).next hb
  have M := (Box.new wx1 26 #[.int .i64 (u1 + iw), .int .i64 u2, .int .i64 u3, .int .i64 (u4 + uw)]).next hb
  replace hB := below_step (below_box hB _) hb
  clear hb
  have cP_0 := P.cell 0 _ rfl
  have cP_1 := P.cell 1 _ rfl
  have cP_2 := P.cell 2 _ rfl
  have cP_3 := P.cell 3 _ rfl
  have lP := P.lt
  have cU_0 := U.cell 0 _ rfl
  have cU_1 := U.cell 1 _ rfl
  have cU_2 := U.cell 2 _ rfl
  have cU_3 := U.cell 3 _ rfl
  have lU := U.lt
  have cM_0 := M.cell 0 _ rfl
  have cM_1 := M.cell 1 _ rfl
  have cM_2 := M.cell 2 _ rfl
  have cM_3 := M.cell 3 _ rfl
  have lM := M.lt
  go_wp2_with fail
  refine (HL.out _ (hs.out.next hB)).mono ?_
  rintro _ wx3 ⟨rfl, hb⟩
  clear cP_0 cP_1 cP_2 cP_3 lP cU_0 cU_1 cU_2 cU_3 lU cM_0 cM_1 cM_2 cM_3 lM
  replace P := P.next hb
  replace U := U.next hb
  replace M := M.next hb
  replace hB := below_step hB hb
  clear hb
  have cP_0 := P.cell 0 _ rfl
  have cP_1 := P.cell 1 _ rfl
  have cP_2 := P.cell 2 _ rfl
  have cP_3 := P.cell 3 _ rfl
  have lP := P.lt
  have cU_0 := U.cell 0 _ rfl
  have cU_1 := U.cell 1 _ rfl
  have cU_2 := U.cell 2 _ rfl
  have cU_3 := U.cell 3 _ rfl
  have lU := U.lt
  have cM_0 := M.cell 0 _ rfl
  have cM_1 := M.cell 1 _ rfl
  have cM_2 := M.cell 2 _ rfl
  have cM_3 := M.cell 3 _ rfl
  have lM := M.lt
  have zP_O := P.lt
  have zU_O := U.lt
  have zM_O := M.lt
  have zB_O := hB.size
  go_wp2_with fail
  refine (HO.out _ (hs.out.next (below_box hB _))).mono ?_
  rintro _ wx4 ⟨rfl, hb⟩
  clear cP_0 cP_1 cP_2 cP_3 lP cU_0 cU_1 cU_2 cU_3 lU cM_0 cM_1 cM_2 cM_3 lM
  replace P := (P.alloc _).next hb
  replace U := (U.alloc _).next hb
  replace M := (M.alloc _).next hb
  have O := (Box.new wx3 26 #[.int .i64 u1, .int .i64 u2, .int .i64 u3, .int .i64 (u4 + 1)]).next hb
  replace hB := below_step (below_box hB _) hb
  clear hb
  have cP_0 := P.cell 0 _ rfl
  have cP_1 := P.cell 1 _ rfl
  have cP_2 := P.cell 2 _ rfl
  have cP_3 := P.cell 3 _ rfl
  have lP := P.lt
  have cU_0 := U.cell 0 _ rfl
  have cU_1 := U.cell 1 _ rfl
  have cU_2 := U.cell 2 _ rfl
  have cU_3 := U.cell 3 _ rfl
  have lU := U.lt
  have cM_0 := M.cell 0 _ rfl
  have cM_1 := M.cell 1 _ rfl
  have cM_2 := M.cell 2 _ rfl
  have cM_3 := M.cell 3 _ rfl
  have lM := M.lt
  have cO_0 := O.cell 0 _ rfl
  have cO_1 := O.cell 1 _ rfl
  have cO_2 := O.cell 2 _ rfl
  have cO_3 := O.cell 3 _ rfl
  have lO := O.lt
  go_wp2_with fail
  refine (HM.out _ (hs.out.next hB)).mono ?_
  rintro _ wx5 ⟨rfl, hb⟩
  clear cP_0 cP_1 cP_2 cP_3 lP cU_0 cU_1 cU_2 cU_3 lU cM_0 cM_1 cM_2 cM_3 lM cO_0 cO_1 cO_2 cO_3 lO
  replace P := P.next hb
  replace U := U.next hb
  replace M := M.next hb
  replace O := O.next hb
  replace hB := below_step hB hb
  clear hb
  have cP_0 := P.cell 0 _ rfl
  have cP_1 := P.cell 1 _ rfl
  have cP_2 := P.cell 2 _ rfl
  have cP_3 := P.cell 3 _ rfl
  have lP := P.lt
  have cU_0 := U.cell 0 _ rfl
  have cU_1 := U.cell 1 _ rfl
  have cU_2 := U.cell 2 _ rfl
  have cU_3 := U.cell 3 _ rfl
  have lU := U.lt
  have cM_0 := M.cell 0 _ rfl
  have cM_1 := M.cell 1 _ rfl
  have cM_2 := M.cell 2 _ rfl
  have cM_3 := M.cell 3 _ rfl
  have lM := M.lt
  have cO_0 := O.cell 0 _ rfl
  have cO_1 := O.cell 1 _ rfl
  have cO_2 := O.cell 2 _ rfl
  have cO_3 := O.cell 3 _ rfl
  have lO := O.lt
  go_wp2_with fail
  refine (awake_any _).mono ?_
  rintro _ wx6 ⟨rfl, hb⟩
  clear cP_0 cP_1 cP_2 cP_3 lP cU_0 cU_1 cU_2 cU_3 lU cM_0 cM_1 cM_2 cM_3 lM cO_0 cO_1 cO_2 cO_3 lO
  replace P := P.next hb
  replace U := U.next hb
  replace M := M.next hb
  replace O := O.next hb
  replace hB := below_step hB hb
  clear hb
  go_wp2
  go_ret
  exact ⟨rfl, hB⟩
theorem amt_err (fi fu iv : Int) (ts : List T2) (u1 u2 u3 u4 : Int) (h : (amtV fi fu iv ts u1 u2 u3 u4).e ≠ 0) : (amtV fi fu iv ts u1 u2 u3 u4).v = 0 := by
  unfold amtV at *
  split
  · next hb =>
    rw [if_pos hb] at h
    split
    · next hm => rw [if_pos hm] at h; exact absurd rfl h
    · rfl
  · rfl
structure AmtOk (fi fu iv : Int) (ts : List T2) (u1 u2 u3 u4 : Int) : Prop where
  e : (billV fi fu iv ts u1 u2 u3 u4).e = 0
  c : chkV fi fu iv ts = 0
  u : usB u1 u2 u3 u4 = true
  b : (billV fi fu iv ts u1 u2 u3 u4).b = max (u4 - fu) 0
  v : (amtV fi fu iv ts u1 u2 u3 u4).v = amtT iv ts (max (u1 - fi) 0) (max (u4 - fu) 0)
  v1 : (amtV fi fu iv ts u1 u2 u3 u4).v ≤ 1000000000000
theorem amt_ok (fi fu iv : Int) (ts : List T2) (u1 u2 u3 u4 : Int) (h : (amtV fi fu iv ts u1 u2 u3 u4).e = 0) : AmtOk fi fu iv ts u1 u2 u3 u4 := by
  have hb : (billV fi fu iv ts u1 u2 u3 u4).e = 0 := by
    unfold amtV at h
    split at h
    · assumption
    · exact h
  have hc := (bill_ok fi fu iv ts u1 u2 u3 u4 hb).1
  have hu : usB u1 u2 u3 u4 = true := by
    unfold billV at hb
    rw [if_pos hc] at hb
    split at hb
    · assumption
    · cases hb
  have he : billV fi fu iv ts u1 u2 u3 u4 = ⟨max (u1 - fi) 0, max (u4 - fu) 0, 0⟩ := by
    unfold billV
    rw [if_pos hc, if_pos hu]
  unfold amtV at h
  rw [if_pos hb, he] at h
  have hm : amtT iv ts (max (u1 - fi) 0) (max (u4 - fu) 0) ≤ 1000000000000 := by
    split at h
    · assumption
    · cases h
  have hv : amtV fi fu iv ts u1 u2 u3 u4 = ⟨amtT iv ts (max (u1 - fi) 0) (max (u4 - fu) 0), 0⟩ := by
    unfold amtV
    rw [if_pos hb, he]
    exact if_pos hm
  exact ⟨hb, hc, hu, by rw [he], by rw [hv], by rw [hv]; exact hm⟩
theorem amtT_nn (iv : Int) (ts : List T2) (hg : chkL ts 0 = 0) (a b : Int) (hi : 0 ≤ iv) (ha : 0 ≤ a) (hb : 0 ≤ b) : 0 ≤ amtT iv ts a b := by
  have h1 := Int.mul_nonneg ha hi
  have h2 := sumP_nn ts hg b hb ts.length (Nat.le_refl _)
  unfold amtT
  omega
theorem amt_codes (fi fu iv : Int) (ts : List T2) (u1 u2 u3 u4 : Int) (hc : chkV fi fu iv ts = 0) : (amtV fi fu iv ts u1 u2 u3 u4).e = 0 ∨ (amtV fi fu iv ts u1 u2 u3 u4).e = 8 ∨ (amtV fi fu iv ts u1 u2 u3 u4).e = 2 := by
  unfold amtV
  split
  · split
    · exact .inl rfl
    · exact .inr (.inl rfl)
  · next hb =>
    right; right
    unfold billV at *
    rw [if_pos hc] at hb ⊢
    split at hb
    · exact absurd rfl hb
    · next hu => rw [if_neg hu]
theorem marg_bd (ts : List T2) (hg : chkL ts 0 = 0) (h1 : 1 ≤ ts.length) (x : Int) : 0 ≤ margL ts x ∧ margL ts x ≤ 1000000000 := by
  have key : ∀ j k, ts.length = k + j → k < ts.length → 0 ≤ margL (ts.drop k) x ∧ margL (ts.drop k) x ≤ 1000000000 := by
    intro j
    induction j with
    | zero => intro k h1 h2; omega
    | succ j ih =>
      intro k h1 h2
      have t := tier_ok ts hg k h2
      have t0 := t.m0
      have t1 := t.m1
      rw [margL_step ts k h2]
      split
      · exact ⟨t0, t1⟩
      · split
        · exact ⟨t0, t1⟩
        · exact ih (k + 1) (by omega) (by omega)
  exact key ts.length 0 (by omega) (by omega)
theorem priceMonotone_walk (fi fu iv : Int) (A : Option Addr) (n cap : Nat) (ts : List T2) (u1 u2 u3 u4 iw uw : Int) (w : World) (_ : (Lit.int .i64 fi).wf = true) (_ : (Lit.int .i64 fu).wf = true) (_ : (Lit.int .i64 iv).wf = true) (_ : (Lit.int .i64 u1).wf = true) (_ : (Lit.int .i64 u2).wf = true) (_ : (Lit.int .i64 u3).wf = true) (_ : (Lit.int .i64 u4).wf = true) (_ : (Lit.int .i64 iw).wf = true) (_ : (Lit.int .i64 uw).wf = true) (HZ : ts.length = n ∧ Seg w A (n * 2) (tCell ts) ∧ n ≤ maxLen) : Calls Try.prog 5 #[.agg #[.int .i64 fi, .int .i64 fu, .int .i64 iv, .slice A n cap], .agg #[.int .i64 u1, .int .i64 u2, .int .i64 u3, .int .i64 u4], .int .i64 iw, .int .i64 uw] w fun e w' => e = .returned (.bool true) ∧ Below w.heap.size w w' := by
  obtain ⟨hn, hs0, _⟩ := HZ
  have hs := Lib.hid hs0
  by_cases h0 : 100 < n
  · exact pm_out0 fi fu iv A n cap ts u1 u2 u3 u4 iw uw w hs (by omega)
  by_cases h1 : iw < 0
  · exact pm_out1 fi fu iv A n cap ts u1 u2 u3 u4 iw uw w hs (by omega) h1
  by_cases h2 : uw < 0
  · exact pm_out2 fi fu iv A n cap ts u1 u2 u3 u4 iw uw w hs (by omega) (by omega) h2
  by_cases h3 : 1000000000000 < iw
  · exact pm_out3 fi fu iv A n cap ts u1 u2 u3 u4 iw uw w hs (by omega) (by omega) (by omega) h3
  by_cases h4 : 1000000000000 < uw
  · exact pm_out4 fi fu iv A n cap ts u1 u2 u3 u4 iw uw w hs (by omega) (by omega) (by omega) (by omega) h4
  have HA : Hid (∀ W, Seg W A (n * 2) (tCell ts) → _) := fun W k => amt_any fi fu iv A n cap ts u1 u2 u3 u4 W hn k
  by_cases he : (amtV fi fu iv ts u1 u2 u3 u4).e = 0
  · have K := amt_ok fi fu iv ts u1 u2 u3 u4 he
    obtain ⟨_, ⟨_, _⟩, ⟨i0, _⟩, ⟨l1, _⟩, hg⟩ := chkV_good fi fu iv ts K.c
    obtain ⟨⟨e1, e2⟩, _, _, ⟨e3, e4⟩⟩ := usB_bd u1 u2 u3 u4 K.u
    have HB : Hid (∀ W, Seg W A (n * 2) (tCell ts) → _) := fun W k => amt_any fi fu iv A n cap ts (u1 + iw) u2 u3 (u4 + uw) W hn k
    have HL : Hid (∀ W, Seg W A (n * 2) (tCell ts) → _) := fun W k => bill_any fi fu iv A n cap ts u1 u2 u3 u4 W hn k
    have HO : Hid (∀ W, Seg W A (n * 2) (tCell ts) → _) := fun W k => amt_any fi fu iv A n cap ts u1 u2 u3 (u4 + 1) W hn k
    have HM : Hid (∀ W, Seg W A (n * 2) (tCell ts) → _) := fun W k => marg_any fi fu iv A n cap ts (max (u4 - fu) 0) W hn k
    unfold margV at HM
    rw [if_pos K.c, if_pos (show 0 ≤ max (u4 - fu) 0 ∧ max (u4 - fu) 0 ≤ 1000000000000 by omega)] at HM
    rw [K.e, K.b] at HL
    rw [he] at HA
    have a0 : 0 ≤ (amtV fi fu iv ts u1 u2 u3 u4).v := by rw [K.v]; exact amtT_nn iv ts hg _ _ i0 (by omega) (by omega)
    have a1 := K.v1
    obtain ⟨m0, m1⟩ := marg_bd ts hg l1 (max (u4 - fu) 0)
    have hmono : (amtV fi fu iv ts (u1 + iw) u2 u3 (u4 + uw)).e = 0 → (amtV fi fu iv ts u1 u2 u3 u4).v ≤ (amtV fi fu iv ts (u1 + iw) u2 u3 (u4 + uw)).v := fun hh => by
      rw [K.v, (amt_ok fi fu iv ts _ _ _ _ hh).v]
      exact amtT_mono iv ts hg _ _ _ _ i0 (by omega) (by omega) (by omega)
    have hone : fu ≤ u4 → (amtV fi fu iv ts u1 u2 u3 (u4 + 1)).e = 0 → (amtV fi fu iv ts u1 u2 u3 (u4 + 1)).v = (amtV fi fu iv ts u1 u2 u3 u4).v + margL ts (max (u4 - fu) 0) := fun h5 hh => by
      rw [K.v, (amt_ok fi fu iv ts _ _ _ _ hh).v, show max (u4 + 1 - fu) 0 = max (u4 - fu) 0 + 1 by omega]
      exact amt_one iv ts hg l1 _ _
    have hcd := amt_codes fi fu iv ts (u1 + iw) u2 u3 (u4 + uw) K.c
    generalize amtV fi fu iv ts u1 u2 u3 u4 = va at *
    generalize amtV fi fu iv ts (u1 + iw) u2 u3 (u4 + uw) = vb at *
    generalize amtV fi fu iv ts u1 u2 u3 (u4 + 1) = vo at *
    obtain ⟨b, f⟩ := vb
    obtain ⟨c, y⟩ := vo
    dsimp only at *
    rcases hcd with rfl | rfl | rfl
    · by_cases g5 : u4 < fu
      · exact pm_00 fi fu iv A n cap ts u1 u2 u3 u4 iw uw _ b _ _ c y _ w hs (by omega) (by omega) (by omega) (by omega) (by omega) HA HB HL e1 e2 e3 e4 a0 a1 m0 m1 (hmono rfl) g5
      · by_cases hy : y = 0
        · subst hy
          obtain rfl := hone (by omega) rfl
          exact pm_02 fi fu iv A n cap ts u1 u2 u3 u4 iw uw _ b _ _ 0 0 _ w hs (by omega) (by omega) (by omega) (by omega) (by omega) HA HB HL HO HM e1 e2 e3 e4 a0 a1 m0 m1 (hmono rfl) (by omega)
        · exact pm_01 fi fu iv A n cap ts u1 u2 u3 u4 iw uw _ b _ _ c y _ w hs (by omega) (by omega) (by omega) (by omega) (by omega) HA HB HL HO HM e1 e2 e3 e4 a0 a1 m0 m1 (hmono rfl) (by omega) (bne_iff_ne.2 hy)
    · by_cases g5 : u4 < fu
      · exact pm_10 fi fu iv A n cap ts u1 u2 u3 u4 iw uw _ b _ _ c y _ w hs (by omega) (by omega) (by omega) (by omega) (by omega) HA HB HL e1 e2 e3 e4 a0 a1 m0 m1  g5
      · by_cases hy : y = 0
        · subst hy
          obtain rfl := hone (by omega) rfl
          exact pm_12 fi fu iv A n cap ts u1 u2 u3 u4 iw uw _ b _ _ 0 0 _ w hs (by omega) (by omega) (by omega) (by omega) (by omega) HA HB HL HO HM e1 e2 e3 e4 a0 a1 m0 m1  (by omega)
        · exact pm_11 fi fu iv A n cap ts u1 u2 u3 u4 iw uw _ b _ _ c y _ w hs (by omega) (by omega) (by omega) (by omega) (by omega) HA HB HL HO HM e1 e2 e3 e4 a0 a1 m0 m1  (by omega) (bne_iff_ne.2 hy)
    · by_cases g5 : u4 < fu
      · exact pm_20 fi fu iv A n cap ts u1 u2 u3 u4 iw uw _ b _ _ c y _ w hs (by omega) (by omega) (by omega) (by omega) (by omega) HA HB HL e1 e2 e3 e4 a0 a1 m0 m1  g5
      · by_cases hy : y = 0
        · subst hy
          obtain rfl := hone (by omega) rfl
          exact pm_22 fi fu iv A n cap ts u1 u2 u3 u4 iw uw _ b _ _ 0 0 _ w hs (by omega) (by omega) (by omega) (by omega) (by omega) HA HB HL HO HM e1 e2 e3 e4 a0 a1 m0 m1  (by omega)
        · exact pm_21 fi fu iv A n cap ts u1 u2 u3 u4 iw uw _ b _ _ c y _ w hs (by omega) (by omega) (by omega) (by omega) (by omega) HA HB HL HO HM e1 e2 e3 e4 a0 a1 m0 m1  (by omega) (bne_iff_ne.2 hy)
  · have hz := amt_err fi fu iv ts u1 u2 u3 u4 he
    rw [hz] at HA
    exact pm_err fi fu iv A n cap ts u1 u2 u3 u4 iw uw _ w hs (by omega) (by omega) (by omega) (by omega) (by omega) HA (bne_iff_ne.2 he)

end Go.Proofs.Ytdmffbbobagloaa
