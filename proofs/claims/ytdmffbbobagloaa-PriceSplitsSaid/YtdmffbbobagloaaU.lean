/- PriceAmounts and PriceFree: the walks. -/
import Derived.Test.YtdmffbbobagloaaT
import Derived.Deep.Slices
import Derived.Deep.Fields
import Derived.Lib.SmallJoins
namespace Go.Proofs.Ytdmffbbobagloaa
open Go.ChangeShapes Go.WideShapes Go.ChangeAt Go.RowKit
attribute [local go_sem] ownAt ownUpon mixAt mixUpon

set_option maxHeartbeats 2000000 in
set_option maxRecDepth 100000 in
theorem pa_out (fi fu iv : Int) (A : Option Addr) (n cap : Nat) (ts : List T2) (u1 u2 u3 u4 : Int) (w : World) (_hs : Hid (Seg w A (n * 2) (tCell ts))) (h : 100 < (n : Int)) : Calls Try.prog 4 #[.agg #[.int .i64 fi, .int .i64 fu, .int .i64 iv, .slice A n cap], .agg #[.int .i64 u1, .int .i64 u2, .int .i64 u3, .int .i64 u4]] w fun e w' => e = .returned (.bool true) ∧ Below w.heap.size w w' := by
  go_enter Try.func4, Try.ntmps4
  go_wp2_with fail
  refine (awake_any _).mono ?_
  rintro _ wx1 ⟨rfl, hb⟩
  have P := ((Box.new w 24 #[.int .i64 fi, .int .i64 fu, .int .i64 iv, .slice A n cap]).alloc _).next hb
  have U := (Box.new ((w).alloc (.cells #[.int .i64 fi, .int .i64 fu, .int .i64 iv, .slice A n cap] 24)) 26 #[.int .i64 u1, .int .i64 u2, .int .i64 u3, .int .i64 u4]).next hb
  simp only [World.size_alloc] at U
  have hB := below_step (below_box (below_box (Below.refl _ w) _) _) hb
  clear hb
  go_wp2
  go_ret
  exact ⟨rfl, hB⟩
set_option maxHeartbeats 2000000 in
set_option maxRecDepth 100000 in
theorem pa_main (fi fu iv : Int) (A : Option Addr) (n cap : Nat) (ts : List T2) (u1 u2 u3 u4 a x : Int) (w : World) (hs : Hid (Seg w A (n * 2) (tCell ts))) (HA : Hid (∀ W, Seg W A (n * 2) (tCell ts) → Calls Try.prog 18 #[.agg #[.int .i64 fi, .int .i64 fu, .int .i64 iv, .slice A n cap], .agg #[.int .i64 u1, .int .i64 u2, .int .i64 u3, .int .i64 u4]] W fun e w' => e = .returned (.tuple #[.int .i64 a, .int .i64 x]) ∧ Below W.heap.size W w')) (HR : Hid (∀ W, Seg W A (n * 2) (tCell ts) → Calls Try.prog 19 #[.agg #[.int .i64 fi, .int .i64 fu, .int .i64 iv, .slice A n cap], .agg #[.int .i64 u1, .int .i64 u2, .int .i64 u3, .int .i64 u4]] W fun e w' => e = .returned (.tuple #[.int .i64 a, .int .i64 x]) ∧ Below W.heap.size W w')) (h : (n : Int) ≤ 100) : Calls Try.prog 4 #[.agg #[.int .i64 fi, .int .i64 fu, .int .i64 iv, .slice A n cap], .agg #[.int .i64 u1, .int .i64 u2, .int .i64 u3, .int .i64 u4]] w fun e w' => e = .returned (.bool true) ∧ Below w.heap.size w w' := by
  go_enter Try.func4, Try.ntmps4
  go_wp2_with fail
  refine (HA.out _ (hs.out.next (below_box (below_box (Below.refl _ _) _) _))).mono ?_
  rintro _ wx1 ⟨rfl, hb⟩
  have P := ((Box.new w 24 #[.int .i64 fi, .int .i64 fu, .int .i64 iv, .slice A n cap]).alloc _).next hb
  have U := (Box.new ((w).alloc (.cells #[.int .i64 fi, .int .i64 fu, .int .i64 iv, .slice A n cap] 24)) 26 #[.int .i64 u1, .int .i64 u2, .int .i64 u3, .int .i64 u4]).next hb
  simp only [World.size_alloc] at U
  have hB := below_step (below_box (below_box (Below.refl _ w) _) _) hb
  clear hb
  have cP_0 := P.cell 0 _ rfl
  have cP_1 := P.cell 1 _ rfl
  have cP_2 := P.cell 2 _ rfl
  have cP_3 := P.cell 3 _ rfl
  have lP := P.lt
  have cU_0 := U.cell 0 _ rfl
  have cU_1 := U.cell 1 _ rfl
  have cU_2 := U.cell 2 _ rfl
  have cU_3 := U.cell 3 _ rfl
  have lU := U.lt
  go_wp2_with fail
  refine (HR.out _ (hs.out.next hB)).mono ?_
  rintro _ wx2 ⟨rfl, hb⟩
  clear cP_0 cP_1 cP_2 cP_3 lP cU_0 cU_1 cU_2 cU_3 lU
  replace P := P.next hb
  replace U := U.next hb
  replace hB := below_step hB hb
  clear hb
  have cP_0 := P.cell 0 _ rfl
  have cP_1 := P.cell 1 _ rfl
  have cP_2 := P.cell 2 _ rfl
  have cP_3 := P.cell 3 _ rfl
  have lP := P.lt
  have cU_0 := U.cell 0 _ rfl
  have cU_1 := U.cell 1 _ rfl
  have cU_2 := U.cell 2 _ rfl
  have cU_3 := U.cell 3 _ rfl
  have lU := U.lt
  go_wp2_with fail
  refine (awake_any _).mono ?_
  rintro _ wx3 ⟨rfl, hb⟩
  clear cP_0 cP_1 cP_2 cP_3 lP cU_0 cU_1 cU_2 cU_3 lU
  replace P := P.next hb
  replace U := U.next hb
  replace hB := below_step hB hb
  clear hb
  go_wp2
  go_ret
  exact ⟨rfl, hB⟩
theorem priceAmounts_walk (fi fu iv : Int) (A : Option Addr) (n cap : Nat) (ts : List T2) (u1 u2 u3 u4 : Int) (w : World) (_ : (Lit.int .i64 fi).wf = true) (_ : (Lit.int .i64 fu).wf = true) (_ : (Lit.int .i64 iv).wf = true) (_ : (Lit.int .i64 u1).wf = true) (_ : (Lit.int .i64 u2).wf = true) (_ : (Lit.int .i64 u3).wf = true) (_ : (Lit.int .i64 u4).wf = true) (HZ : ts.length = n ∧ Seg w A (n * 2) (tCell ts) ∧ n ≤ maxLen) : Calls Try.prog 4 #[.agg #[.int .i64 fi, .int .i64 fu, .int .i64 iv, .slice A n cap], .agg #[.int .i64 u1, .int .i64 u2, .int .i64 u3, .int .i64 u4]] w fun e w' => e = .returned (.bool true) ∧ Below w.heap.size w w' := by
  obtain ⟨hn, hs0, _⟩ := HZ
  have hs := Lib.hid hs0
  by_cases h : 100 < n
  · exact pa_out fi fu iv A n cap ts u1 u2 u3 u4 w hs (by omega)
  · exact pa_main fi fu iv A n cap ts u1 u2 u3 u4 _ _ w hs (fun W k => amt_any fi fu iv A n cap ts u1 u2 u3 u4 W hn k) (fun W k => ramt_any fi fu iv A n cap ts u1 u2 u3 u4 W hn k) (by omega)
set_option maxHeartbeats 2000000 in
set_option maxRecDepth 100000 in
theorem pf_out (fi fu iv : Int) (A : Option Addr) (n cap : Nat) (ts : List T2) (u1 u2 u3 u4 : Int) (w : World) (_hs : Hid (Seg w A (n * 2) (tCell ts))) (h : 100 < (n : Int)) : Calls Try.prog 7 #[.agg #[.int .i64 fi, .int .i64 fu, .int .i64 iv, .slice A n cap], .agg #[.int .i64 u1, .int .i64 u2, .int .i64 u3, .int .i64 u4]] w fun e w' => e = .returned (.bool true) ∧ Below w.heap.size w w' := by
  go_enter Try.func7, Try.ntmps7
  go_wp2_with fail
  refine (awake_any _).mono ?_
  rintro _ wx1 ⟨rfl, hb⟩
  have P := ((Box.new w 24 #[.int .i64 fi, .int .i64 fu, .int .i64 iv, .slice A n cap]).alloc _).next hb
  have U := (Box.new ((w).alloc (.cells #[.int .i64 fi, .int .i64 fu, .int .i64 iv, .slice A n cap] 24)) 26 #[.int .i64 u1, .int .i64 u2, .int .i64 u3, .int .i64 u4]).next hb
  simp only [World.size_alloc] at U
  have hB := below_step (below_box (below_box (Below.refl _ w) _) _) hb
  clear hb
  go_wp2
  go_ret
  exact ⟨rfl, hB⟩
set_option maxHeartbeats 2000000 in
set_option maxRecDepth 100000 in
theorem pf_bad (fi fu iv : Int) (A : Option Addr) (n cap : Nat) (ts : List T2) (u1 u2 u3 u4 x : Int) (w : World) (hs : Hid (Seg w A (n * 2) (tCell ts))) (HC : Hid (∀ W, Seg W A (n * 2) (tCell ts) → Calls Try.prog 15 #[.agg #[.int .i64 fi, .int .i64 fu, .int .i64 iv, .slice A n cap]] W fun e w' => e = .returned (.int .i64 x) ∧ Below W.heap.size W w')) (hx : (x != 0) = true) (h : (n : Int) ≤ 100) : Calls Try.prog 7 #[.agg #[.int .i64 fi, .int .i64 fu, .int .i64 iv, .slice A n cap], .agg #[.int .i64 u1, .int .i64 u2, .int .i64 u3, .int .i64 u4]] w fun e w' => e = .returned (.bool true) ∧ Below w.heap.size w w' := by
  go_enter Try.func7, Try.ntmps7
  go_wp2_with fail
  refine (HC.out _ (hs.out.next (below_box (below_box (Below.refl _ _) _) _))).mono ?_
  rintro _ wx1 ⟨rfl, hb⟩
  have P := ((Box.new w 24 #[.int .i64 fi, .int .i64 fu, .int .i64 iv, .slice A n cap]).alloc _).next hb
  have U := (Box.new ((w).alloc (.cells #[.int .i64 fi, .int .i64 fu, .int .i64 iv, .slice A n cap] 24)) 26 #[.int .i64 u1, .int .i64 u2, .int .i64 u3, .int .i64 u4]).next hb
  simp only [World.size_alloc] at U
  have hB := below_step (below_box (below_box (Below.refl _ w) _) _) hb
  clear hb
  have cP_0 := P.cell 0 _ rfl
  have cP_1 := P.cell 1 _ rfl
  have cP_2 := P.cell 2 _ rfl
  have cP_3 := P.cell 3 _ rfl
  have lP := P.lt
  have cU_0 := U.cell 0 _ rfl
  have cU_1 := U.cell 1 _ rfl
  have cU_2 := U.cell 2 _ rfl
  have cU_3 := U.cell 3 _ rfl
  have lU := U.lt
  go_wp2_with fail
  refine (awake_any _).mono ?_
  rintro _ wx2 ⟨rfl, hb⟩
  clear cP_0 cP_1 cP_2 cP_3 lP cU_0 cU_1 cU_2 cU_3 lU
  replace P := P.next hb
  replace U := U.next hb
  replace hB := below_step hB hb
  clear hb
  go_wp2
  go_ret
  exact ⟨rfl, hB⟩
set_option maxHeartbeats 2000000 in
set_option maxRecDepth 100000 in
theorem pf_err (fi fu iv : Int) (A : Option Addr) (n cap : Nat) (ts : List T2) (u1 u2 u3 u4 a x : Int) (w : World) (hs : Hid (Seg w A (n * 2) (tCell ts))) (HC : Hid (∀ W, Seg W A (n * 2) (tCell ts) → Calls Try.prog 15 #[.agg #[.int .i64 fi, .int .i64 fu, .int .i64 iv, .slice A n cap]] W fun e w' => e = .returned (.int .i64 0) ∧ Below W.heap.size W w')) (HA : Hid (∀ W, Seg W A (n * 2) (tCell ts) → Calls Try.prog 18 #[.agg #[.int .i64 fi, .int .i64 fu, .int .i64 iv, .slice A n cap], .agg #[.int .i64 u1, .int .i64 u2, .int .i64 u3, .int .i64 u4]] W fun e w' => e = .returned (.tuple #[.int .i64 a, .int .i64 x]) ∧ Below W.heap.size W w')) (hx : (x != 0) = true) (h : (n : Int) ≤ 100) : Calls Try.prog 7 #[.agg #[.int .i64 fi, .int .i64 fu, .int .i64 iv, .slice A n cap], .agg #[.int .i64 u1, .int .i64 u2, .int .i64 u3, .int .i64 u4]] w fun e w' => e = .returned (.bool true) ∧ Below w.heap.size w w' := by
  go_enter Try.func7, Try.ntmps7
  go_wp2_with fail
  refine (HC.out _ (hs.out.next (below_box (below_box (Below.refl _ _) _) _))).mono ?_
  rintro _ wx1 ⟨rfl, hb⟩
  have P := ((Box.new w 24 #[.int .i64 fi, .int .i64 fu, .int .i64 iv, .slice A n cap]).alloc _).next hb
  have U := (Box.new ((w).alloc (.cells #[.int .i64 fi, .int .i64 fu, .int .i64 iv, .slice A n cap] 24)) 26 #[.int .i64 u1, .int .i64 u2, .int .i64 u3, .int .i64 u4]).next hb
  simp only [World.size_alloc] at U
  have hB := below_step (below_box (below_box (Below.refl _ w) _) _) hb
  clear hb
  have cP_0 := P.cell 0 _ rfl
  have cP_1 := P.cell 1 _ rfl
  have cP_2 := P.cell 2 _ rfl
  have cP_3 := P.cell 3 _ rfl
  have lP := P.lt
  have cU_0 := U.cell 0 _ rfl
  have cU_1 := U.cell 1 _ rfl
  have cU_2 := U.cell 2 _ rfl
  have cU_3 := U.cell 3 _ rfl
  have lU := U.lt
  go_wp2_with fail
  refine (HA.out _ (hs.out.next hB)).mono ?_
  rintro _ wx2 ⟨rfl, hb⟩
  clear cP_0 cP_1 cP_2 cP_3 lP cU_0 cU_1 cU_2 cU_3 lU
  replace P := P.next hb
  replace U := U.next hb
  replace hB := below_step hB hb
  clear hb
  have cP_0 := P.cell 0 _ rfl
  have cP_1 := P.cell 1 _ rfl
  have cP_2 := P.cell 2 _ rfl
  have cP_3 := P.cell 3 _ rfl
  have lP := P.lt
  have cU_0 := U.cell 0 _ rfl
  have cU_1 := U.cell 1 _ rfl
  have cU_2 := U.cell 2 _ rfl
  have cU_3 := U.cell 3 _ rfl
  have lU := U.lt
  go_wp2_with fail
  refine (awake_any _).mono ?_
  rintro _ wx3 ⟨rfl, hb⟩
  clear cP_0 cP_1 cP_2 cP_3 lP cU_0 cU_1 cU_2 cU_3 lU
  replace P := P.next hb
  replace U := U.next hb
  replace hB := below_step hB hb
  clear hb
  go_wp2
  go_ret
  exact ⟨rfl, hB⟩
set_option maxHeartbeats 2000000 in
set_option maxRecDepth 100000 in
theorem pf_over0 (fi fu iv : Int) (A : Option Addr) (n cap : Nat) (ts : List T2) (u1 u2 u3 u4 a : Int) (w : World) (hs : Hid (Seg w A (n * 2) (tCell ts))) (HC : Hid (∀ W, Seg W A (n * 2) (tCell ts) → Calls Try.prog 15 #[.agg #[.int .i64 fi, .int .i64 fu, .int .i64 iv, .slice A n cap]] W fun e w' => e = .returned (.int .i64 0) ∧ Below W.heap.size W w')) (HA : Hid (∀ W, Seg W A (n * 2) (tCell ts) → Calls Try.prog 18 #[.agg #[.int .i64 fi, .int .i64 fu, .int .i64 iv, .slice A n cap], .agg #[.int .i64 u1, .int .i64 u2, .int .i64 u3, .int .i64 u4]] W fun e w' => e = .returned (.tuple #[.int .i64 a, .int .i64 0]) ∧ Below W.heap.size W w')) (h : (n : Int) ≤ 100) (g : fi < u1) : Calls Try.prog 7 #[.agg #[.int .i64 fi, .int .i64 fu, .int .i64 iv, .slice A n cap], .agg #[.int .i64 u1, .int .i64 u2, .int .i64 u3, .int .i64 u4]] w fun e w' => e = .returned (.bool true) ∧ Below w.heap.size w w' := by
  go_enter Try.func7, Try.ntmps7
  go_wp2_with fail
  refine (HC.out _ (hs.out.next (below_box (below_box (Below.refl _ _) _) _))).mono ?_
  rintro _ wx1 ⟨rfl, hb⟩
  have P := ((Box.new w 24 #[.int .i64 fi, .int .i64 fu, .int .i64 iv, .slice A n cap]).alloc _).next hb
  have U := (Box.new ((w).alloc (.cells #[.int .i64 fi, .int .i64 fu, .int .i64 iv, .slice A n cap] 24)) 26 #[.int .i64 u1, .int .i64 u2, .int .i64 u3, .int .i64 u4]).next hb
  simp only [World.size_alloc] at U
  have hB := below_step (below_box (below_box (Below.refl _ w) _) _) hb
  clear hb
  have cP_0 := P.cell 0 _ rfl
  have cP_1 := P.cell 1 _ rfl
  have cP_2 := P.cell 2 _ rfl
  have cP_3 := P.cell 3 _ rfl
  have lP := P.lt
  have cU_0 := U.cell 0 _ rfl
  have cU_1 := U.cell 1 _ rfl
  have cU_2 := U.cell 2 _ rfl
  have cU_3 := U.cell 3 _ rfl
  have lU := U.lt
  go_wp2_with fail
  refine (HA.out _ (hs.out.next hB)).mono ?_
  rintro _ wx2 ⟨rfl, hb⟩
  clear cP_0 cP_1 cP_2 cP_3 lP cU_0 cU_1 cU_2 cU_3 lU
  replace P := P.next hb
  replace U := U.next hb
  replace hB := below_step hB hb
  clear hb
  have cP_0 := P.cell 0 _ rfl
  have cP_1 := P.cell 1 _ rfl
  have cP_2 := P.cell 2 _ rfl
  have cP_3 := P.cell 3 _ rfl
  have lP := P.lt
  have cU_0 := U.cell 0 _ rfl
  have cU_1 := U.cell 1 _ rfl
  have cU_2 := U.cell 2 _ rfl
  have cU_3 := U.cell 3 _ rfl
  have lU := U.lt
  go_wp2_with fail
  refine (awake_any _).mono ?_
  rintro _ wx3 ⟨rfl, hb⟩
  clear cP_0 cP_1 cP_2 cP_3 lP cU_0 cU_1 cU_2 cU_3 lU
  replace P := P.next hb
  replace U := U.next hb
  replace hB := below_step hB hb
  clear hb
  go_wp2
  go_ret
  exact ⟨rfl, hB⟩
set_option maxHeartbeats 2000000 in
set_option maxRecDepth 100000 in
theorem pf_over1 (fi fu iv : Int) (A : Option Addr) (n cap : Nat) (ts : List T2) (u1 u2 u3 u4 a : Int) (w : World) (hs : Hid (Seg w A (n * 2) (tCell ts))) (HC : Hid (∀ W, Seg W A (n * 2) (tCell ts) → Calls Try.prog 15 #[.agg #[.int .i64 fi, .int .i64 fu, .int .i64 iv, .slice A n cap]] W fun e w' => e = .returned (.int .i64 0) ∧ Below W.heap.size W w')) (HA : Hid (∀ W, Seg W A (n * 2) (tCell ts) → Calls Try.prog 18 #[.agg #[.int .i64 fi, .int .i64 fu, .int .i64 iv, .slice A n cap], .agg #[.int .i64 u1, .int .i64 u2, .int .i64 u3, .int .i64 u4]] W fun e w' => e = .returned (.tuple #[.int .i64 a, .int .i64 0]) ∧ Below W.heap.size W w')) (h : (n : Int) ≤ 100) (g : u1 ≤ fi) (g2 : fu < u4) : Calls Try.prog 7 #[.agg #[.int .i64 fi, .int .i64 fu, .int .i64 iv, .slice A n cap], .agg #[.int .i64 u1, .int .i64 u2, .int .i64 u3, .int .i64 u4]] w fun e w' => e = .returned (.bool true) ∧ Below w.heap.size w w' := by
  go_enter Try.func7, Try.ntmps7
  go_wp2_with fail
  refine (HC.out _ (hs.out.next (below_box (below_box (Below.refl _ _) _) _))).mono ?_
  rintro _ wx1 ⟨rfl, hb⟩
  have P := ((Box.new w 24 #[.int .i64 fi, .int .i64 fu, .int .i64 iv, .slice A n cap]).alloc _).next hb
  have U := (Box.new ((w).alloc (.cells #[.int .i64 fi, .int .i64 fu, .int .i64 iv, .slice A n cap] 24)) 26 #[.int .i64 u1, .int .i64 u2, .int .i64 u3, .int .i64 u4]).next hb
  simp only [World.size_alloc] at U
  have hB := below_step (below_box (below_box (Below.refl _ w) _) _) hb
  clear hb
  have cP_0 := P.cell 0 _ rfl
  have cP_1 := P.cell 1 _ rfl
  have cP_2 := P.cell 2 _ rfl
  have cP_3 := P.cell 3 _ rfl
  have lP := P.lt
  have cU_0 := U.cell 0 _ rfl
  have cU_1 := U.cell 1 _ rfl
  have cU_2 := U.cell 2 _ rfl
  have cU_3 := U.cell 3 _ rfl
  have lU := U.lt
  go_wp2_with fail
  refine (HA.out _ (hs.out.next hB)).mono ?_
  rintro _ wx2 ⟨rfl, hb⟩
  clear cP_0 cP_1 cP_2 cP_3 lP cU_0 cU_1 cU_2 cU_3 lU
  replace P := P.next hb
  replace U := U.next hb
  replace hB := below_step hB hb
  clear hb
  have cP_0 := P.cell 0 _ rfl
  have cP_1 := P.cell 1 _ rfl
  have cP_2 := P.cell 2 _ rfl
  have cP_3 := P.cell 3 _ rfl
  have lP := P.lt
  have cU_0 := U.cell 0 _ rfl
  have cU_1 := U.cell 1 _ rfl
  have cU_2 := U.cell 2 _ rfl
  have cU_3 := U.cell 3 _ rfl
  have lU := U.lt
  go_wp2_with fail
  refine (awake_any _).mono ?_
  rintro _ wx3 ⟨rfl, hb⟩
  clear cP_0 cP_1 cP_2 cP_3 lP cU_0 cU_1 cU_2 cU_3 lU
  replace P := P.next hb
  replace U := U.next hb
  replace hB := below_step hB hb
  clear hb
  go_wp2
  go_ret
  exact ⟨rfl, hB⟩
set_option maxHeartbeats 2000000 in
set_option maxRecDepth 100000 in
theorem pf_free (fi fu iv : Int) (A : Option Addr) (n cap : Nat) (ts : List T2) (u1 u2 u3 u4 : Int) (w : World) (hs : Hid (Seg w A (n * 2) (tCell ts))) (HC : Hid (∀ W, Seg W A (n * 2) (tCell ts) → Calls Try.prog 15 #[.agg #[.int .i64 fi, .int .i64 fu, .int .i64 iv, .slice A n cap]] W fun e w' => e = .returned (.int .i64 0) ∧ Below W.heap.size W w')) (HA : Hid (∀ W, Seg W A (n * 2) (tCell ts) → Calls Try.prog 18 #[.agg #[.int .i64 fi, .int .i64 fu, .int .i64 iv, .slice A n cap], .agg #[.int .i64 u1, .int .i64 u2, .int .i64 u3, .int .i64 u4]] W fun e w' => e = .returned (.tuple #[.int .i64 0, .int .i64 0]) ∧ Below W.heap.size W w')) (h : (n : Int) ≤ 100) (g : u1 ≤ fi) (g2 : u4 ≤ fu) : Calls Try.prog 7 #[.agg #[.int .i64 fi, .int .i64 fu, .int .i64 iv, .slice A n cap], .agg #[.int .i64 u1, .int .i64 u2, .int .i64 u3, .int .i64 u4]] w fun e w' => e = .returned (.bool true) ∧ Below w.heap.size w w' := by
  go_enter Try.func7, Try.ntmps7
  go_wp2_with fail
  refine (HC.out _ (hs.out.next (below_box (below_box (Below.refl _ _) _) _))).mono ?_
  rintro _ wx1 ⟨rfl, hb⟩
  have P := ((Box.new w 24 #[.int .i64 fi, .int .i64 fu, .int .i64 iv, .slice A n cap]).alloc _).next hb
  have U := (Box.new ((w).alloc (.cells #[.int .i64 fi, .int .i64 fu, .int .i64 iv, .slice A n cap] 24)) 26 #[.int .i64 u1, .int .i64 u2, .int .i64 u3, .int .i64 u4]).next hb
  simp only [World.size_alloc] at U
  have hB := below_step (below_box (below_box (Below.refl _ w) _) _) hb
  clear hb
  have cP_0 := P.cell 0 _ rfl
  have cP_1 := P.cell 1 _ rfl
  have cP_2 := P.cell 2 _ rfl
  have cP_3 := P.cell 3 _ rfl
  have lP := P.lt
  have cU_0 := U.cell 0 _ rfl
  have cU_1 := U.cell 1 _ rfl
  have cU_2 := U.cell 2 _ rfl
  have cU_3 := U.cell 3 _ rfl
  have lU := U.lt
  go_wp2_with fail
  refine (HA.out _ (hs.out.next hB)).mono ?_
  rintro _ wx2 ⟨rfl, hb⟩
  clear cP_0 cP_1 cP_2 cP_3 lP cU_0 cU_1 cU_2 cU_3 lU
  replace P := P.next hb
  replace U := U.next hb
  replace hB := below_step hB hb
  clear hb
  have cP_0 := P.cell 0 _ rfl
  have cP_1 := P.cell 1 _ rfl
  have cP_2 := P.cell 2 _ rfl
  have cP_3 := P.cell 3 _ rfl
  have lP := P.lt
  have cU_0 := U.cell 0 _ rfl
  have cU_1 := U.cell 1 _ rfl
  have cU_2 := U.cell 2 _ rfl
  have cU_3 := U.cell 3 _ rfl
  have lU := U.lt
  go_wp2_with fail
  refine (awake_any _).mono ?_
  rintro _ wx3 ⟨rfl, hb⟩
  clear cP_0 cP_1 cP_2 cP_3 lP cU_0 cU_1 cU_2 cU_3 lU
  replace P := P.next hb
  replace U := U.next hb
  replace hB := below_step hB hb
  clear hb
  go_wp2
  go_ret
  exact ⟨rfl, hB⟩
theorem amt_free_of (fi fu iv : Int) (ts : List T2) (u1 u2 u3 u4 : Int) (_h : (amtV fi fu iv ts u1 u2 u3 u4).e = 0) (g : u1 ≤ fi) (g2 : u4 ≤ fu) : (amtV fi fu iv ts u1 u2 u3 u4).v = 0 := by
  unfold amtV at *
  split
  · next hb =>
    have hc := (bill_ok fi fu iv ts u1 u2 u3 u4 hb).1
    obtain ⟨_, _, _, _, hg⟩ := chkV_good fi fu iv ts hc
    have hab : (billV fi fu iv ts u1 u2 u3 u4).a = 0 ∧ (billV fi fu iv ts u1 u2 u3 u4).b = 0 := by
      unfold billV at *
      rw [if_pos hc] at *
      split at hb
      · next hu => rw [if_pos hu]; refine ⟨?_, ?_⟩ <;> dsimp only <;> omega
      · cases hb
    rw [hab.1, hab.2, amt_free iv ts hg]
    split <;> rfl
  · rfl
theorem priceFree_walk (fi fu iv : Int) (A : Option Addr) (n cap : Nat) (ts : List T2) (u1 u2 u3 u4 : Int) (w : World) (_ : (Lit.int .i64 fi).wf = true) (_ : (Lit.int .i64 fu).wf = true) (_ : (Lit.int .i64 iv).wf = true) (_ : (Lit.int .i64 u1).wf = true) (_ : (Lit.int .i64 u2).wf = true) (_ : (Lit.int .i64 u3).wf = true) (_ : (Lit.int .i64 u4).wf = true) (HZ : ts.length = n ∧ Seg w A (n * 2) (tCell ts) ∧ n ≤ maxLen) : Calls Try.prog 7 #[.agg #[.int .i64 fi, .int .i64 fu, .int .i64 iv, .slice A n cap], .agg #[.int .i64 u1, .int .i64 u2, .int .i64 u3, .int .i64 u4]] w fun e w' => e = .returned (.bool true) ∧ Below w.heap.size w w' := by
  obtain ⟨hn, hs0, _⟩ := HZ
  have hs := Lib.hid hs0
  by_cases h : 100 < n
  · exact pf_out fi fu iv A n cap ts u1 u2 u3 u4 w hs (by omega)
  · have HC : Hid (∀ W, Seg W A (n * 2) (tCell ts) → _) := fun W k => chk_any fi fu iv A n cap ts W hn k
    have HA : Hid (∀ W, Seg W A (n * 2) (tCell ts) → _) := fun W k => amt_any fi fu iv A n cap ts u1 u2 u3 u4 W hn k
    by_cases hc : chkV fi fu iv ts = 0
    · rw [hc] at HC
      by_cases he : (amtV fi fu iv ts u1 u2 u3 u4).e = 0
      · have hf := amt_free_of fi fu iv ts u1 u2 u3 u4 he
        rw [he] at HA
        by_cases g : fi < u1
        · exact pf_over0 fi fu iv A n cap ts u1 u2 u3 u4 _ w hs HC HA (by omega) g
        · by_cases g2 : fu < u4
          · exact pf_over1 fi fu iv A n cap ts u1 u2 u3 u4 _ w hs HC HA (by omega) (by omega) g2
          · rw [hf (by omega) (by omega)] at HA
            exact pf_free fi fu iv A n cap ts u1 u2 u3 u4 w hs HC HA (by omega) (by omega) (by omega)
      · exact pf_err fi fu iv A n cap ts u1 u2 u3 u4 _ _ w hs HC HA (bne_iff_ne.2 he) (by omega)
    · exact pf_bad fi fu iv A n cap ts u1 u2 u3 u4 _ w hs HC (bne_iff_ne.2 hc) (by omega)
theorem take_one {cs : List Value} {k : Nat} {n : Int} (h : (cs.drop k).take 1 = [.int .i64 n]) : cs[k]? = some (.int .i64 n) := by
  have h2 := congrArg (·[0]?) h
  simpa using h2
theorem seg_of_adds {w : World} {a : Addr} {n : Nat} {f : Nat → Value} (h : ∀ i, i < n → w.cell? (a.add i) = some (f i)) : Seg w (some a) n f := by
  intro k hk
  have h0 := h 0 (by omega)
  obtain ⟨b, off, spot⟩ := a
  have hspot : spot = none := by simpa [Addr.add] using World.cell?_spot h0
  subst hspot
  have hc : w.cell? ⟨b, off + k, none⟩ = some (f k) := by rw [← Go.WideShapes.add_plain]; exact h k hk
  exact ⟨b, off, rfl, World.block_lt_of_cell? w ⟨b, off + k, none⟩ hc, hc⟩
theorem choose_list {α : Type} (z : α) (P : Nat → α → Prop) : ∀ n : Nat, (∀ i, i < n → ∃ a, P i a) → ∃ l : List α, l.length = n ∧ ∀ i, i < n → P i (l.getD i z)
  | 0, _ => ⟨[], rfl, fun i hi => absurd hi (by omega)⟩
  | n + 1, h => by
    obtain ⟨l, hl, hp⟩ := choose_list z P n (fun i hi => h i (by omega))
    obtain ⟨a, ha⟩ := h n (by omega)
    refine ⟨l ++ [a], by simp [hl], fun i hi => ?_⟩
    rcases (show i < n ∨ i = n by omega) with g | rfl
    · have : (l ++ [a]).getD i z = l.getD i z := by simp [List.getD, List.getElem?_append_left (show i < l.length by omega)]
      rw [this]
      exact hp i g
    · have : (l ++ [a]).getD i z = a := by simp [List.getD, ← hl]
      rw [this]
      exact ha
section
open Go.Joins Go.Deep
theorem seg_of_t2 {H : Type} {enc : TypeId × Value → H} {P : Program} {w : World} {base : Nat} {spare : Nat → Bool} {held : Bool} {t e : TypeId} {f0 f1 : Field} {fuel : Nat} {v : Value} {x : DataW H × List MemPlace}
    (ht : P.underlying t = some (.slice e)) (he : P.underlying e = some (.struct #[f0, f1])) (hone : oneCellFields P #[f0, f1] = true) (hC : P.cellsOf e = 2)
    (t0 : P.underlying f0.type = some (.int .i64)) (t1 : P.underlying f1.type = some (.int .i64))
    (h : DataW.trod enc P w base spare held fuel t [v] = some x) :
    ∃ A len cap, v = .slice A len cap ∧ ∃ us : List T2, us.length = len ∧ Seg w A (len * 2) (tCell us) ∧ len ≤ maxLen := by
  obtain ⟨o0, k0⟩ := hone_of hone 0 f0 rfl
  obtain ⟨o1, k1⟩ := hone_of hone 1 f1 rfl
  rcases open_slice ht h with ⟨h1, _⟩ | ⟨a, len, cap, m, n, D, Pl, h1, _, hl, hm, hmm, _, hi⟩
  · exact ⟨none, 0, 0, by simpa using h1, [], rfl, fun k hk => absurd hk (by omega), by omega⟩
  · refine ⟨some a, len, cap, by simpa using h1, ?_⟩
    have hlm : len ≤ m := by rw [hmm]; split <;> omega
    obtain ⟨us, hu, hp⟩ := choose_list T2.z (fun i u => ∀ j, j < 2 → w.cell? (a.add (i * 2 + j)) = some (.int .i64 (u.at j))) len (fun i hil => by
      obtain ⟨cs', hc, ht'⟩ := hi i (by omega)
      rw [hC] at hc
      obtain ⟨y0, y1, n', _, _, g0, g1⟩ := trod_struct2 he ht'
      rw [o0, k0] at g0
      rw [o1, k1] at g1
      obtain ⟨v0, q0, _, _⟩ := DataW.trod_int t0 g0
      obtain ⟨v1, q1, _, _⟩ := DataW.trod_int t1 g1
      obtain ⟨_, _, hat⟩ := World.cells?_some hc
      refine ⟨⟨v0, v1⟩, fun j hj => ?_⟩
      have hj2 := hat j hj
      rw [add_add] at hj2
      rw [hj2]
      rcases j with _ | _ | j
      · exact take_one q0
      · exact take_one q1
      · omega)
    refine ⟨us, hu, seg_of_adds (fun q hq => ?_), by omega⟩
    have h4 := hp (q / 2) (by omega) (q % 2) (by omega)
    rw [show q / 2 * 2 + q % 2 = q by omega] at h4
    exact h4
end

end Go.Proofs.Ytdmffbbobagloaa
