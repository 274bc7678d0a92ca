/- Valid of usages and Billable of layer 53 (price), of the program and of the references. -/
import Derived.Test.YtdmffbbobagloaaC
namespace Go.Proofs.Ytdmffbbobagloaa
open Go.ChangeShapes Go.WideShapes Go.ChangeAt Go.RowKit
attribute [local go_sem] ownAt ownUpon mixAt mixUpon

theorem seg_of_box {w : World} {b : Nat} {t : TypeId} {zs : List Int} (h : Box w b t (zs.map (Value.int .i64)).toArray) : Seg w (some ⟨b, 0, none⟩) zs.length (ints zs) := fun k hk =>
  ⟨b, 0, rfl, h.lt, by rw [Nat.zero_add]; exact h.cell k _ (by simp [ints, List.getD, hk])⟩
def amtB (n : Int) : Bool := decide (0 ≤ n ∧ n ≤ 1000000000000)
theorem amtB_iff (n : Int) : amtB n = true ↔ (0 ≤ n ∧ n ≤ 1000000000000) := by simp [amtB]
theorem amtB_no (n : Int) (h : amtB n = false) : n < 0 ∨ (0 ≤ n ∧ 1000000000000 < n) := by
  have h2 : ¬ _ := fun hh => Bool.false_ne_true (h.symm.trans ((amtB_iff n).2 hh))
  omega
def usB (u1 u2 u3 u4 : Int) : Bool := amtB u1 && (amtB u2 && (amtB u3 && amtB u4))
theorem usB_iff (u1 u2 u3 u4 : Int) : usB u1 u2 u3 u4 = true ↔ (amtB u1 = true ∧ amtB u2 = true ∧ amtB u3 = true ∧ amtB u4 = true) := by simp [usB]
theorem usB_all (u1 u2 u3 u4 : Int) (h : ∀ j, j < 4 → amtB ([u1, u2, u3, u4].getD j 0) = true) : usB u1 u2 u3 u4 = true :=
  (usB_iff u1 u2 u3 u4).2 ⟨h 0 (by omega), h 1 (by omega), h 2 (by omega), h 3 (by omega)⟩
def VRel (zs : List Int) (i : Value) : Prop := ∃ k : Nat, k ≤ 4 ∧ i = .int .i64 k ∧ ∀ j, j < k → amtB (zs.getD j 0) = true
set_option maxHeartbeats 1000000 in
theorem us_yes (u1 u2 u3 u4 : Int) (w : World) (zs : List Int) (hz : Hid (zs = [u1, u2, u3, u4])) (hu : Hid (∀ j, j < 4 → amtB (zs.getD j 0) = true)) : Calls Try.prog 20 #[.agg #[.int .i64 u1, .int .i64 u2, .int .i64 u3, .int .i64 u4]] w fun e w' => e = .returned (.bool true) ∧ Below w.heap.size w w' := by
  go_enter Try.func20, Try.ntmps20
  go_wp2
  refine wp_forget (fun W => Seg W (some ⟨w.heap.size + 1, 0, none⟩) 4 (ints zs) ∧ Below w.heap.size w W)
    ⟨by have h := seg_of_box (zs := [u1, u2, u3, u4]) (Box.new (w.alloc (.cells #[.int .i64 u1, .int .i64 u2, .int .i64 u3, .int .i64 u4] 26)) 3 #[.int .i64 u1, .int .i64 u2, .int .i64 u3, .int .i64 u4]); rw [hz.out]; simp only [World.size_alloc] at h; exact h, ((Below.refl _ w).alloc (Nat.le_refl _) _).alloc (by simp) _⟩ ?_
  rintro w1 ⟨hs, hB⟩
  have HS := Lib.hid hs
  clear hs
  go_loop [15] (fun i => ∃ k : Nat, k ≤ 4 ∧ i = .int .i64 k) (fun i => 4 - (intOf i).toNat)
  case atStart => exact ⟨0, by omega, rfl⟩
  case round =>
    obtain ⟨k, hk, rfl⟩ := hrel
    by_cases hlt : k < 4
    · obtain ⟨b1, o1, he, _, hc1⟩ := HS.out k hlt
      simp only [Option.some.injEq, Addr.mk.injEq, and_true] at he
      obtain ⟨rfl, rfl⟩ := he
      replace hc1 : w1.cell? ⟨w.heap.size + 1, 0 + k, none⟩ = some (.int .i64 (zs.getD k 0)) := hc1
      rw [Nat.zero_add] at hc1
      obtain ⟨ha, hb⟩ := (amtB_iff _).1 (hu.out k hlt)
      generalize zs.getD k 0 = x at *
      go_wp2_with (go_at_call 31; refine (mbt_yes _ _ _ _ (by omega) (by omega)).mono ?_; rintro e w' ⟨rfl, rfl⟩)
      go_round
      case rel => exact ⟨k + 1, by omega, by go_num⟩
      case measure => simp [intOf]; omega
    · go_wp2
      go_ret
      exact ⟨rfl, hB⟩
set_option maxHeartbeats 1000000 in
theorem us_no (u1 u2 u3 u4 : Int) (w : World) (zs : List Int) (hz : Hid (zs = [u1, u2, u3, u4])) (hu : Hid (¬ ∀ j, j < 4 → amtB (zs.getD j 0) = true)) : Calls Try.prog 20 #[.agg #[.int .i64 u1, .int .i64 u2, .int .i64 u3, .int .i64 u4]] w fun e w' => e = .returned (.bool false) ∧ Below w.heap.size w w' := by
  go_enter Try.func20, Try.ntmps20
  go_wp2
  refine wp_forget (fun W => Seg W (some ⟨w.heap.size + 1, 0, none⟩) 4 (ints zs) ∧ Below w.heap.size w W)
    ⟨by have h := seg_of_box (zs := [u1, u2, u3, u4]) (Box.new (w.alloc (.cells #[.int .i64 u1, .int .i64 u2, .int .i64 u3, .int .i64 u4] 26)) 3 #[.int .i64 u1, .int .i64 u2, .int .i64 u3, .int .i64 u4]); rw [hz.out]; simp only [World.size_alloc] at h; exact h, ((Below.refl _ w).alloc (Nat.le_refl _) _).alloc (by simp) _⟩ ?_
  rintro w1 ⟨hs, hB⟩
  have HS := Lib.hid hs
  clear hs
  go_loop [15] (VRel zs) (fun i => 4 - (intOf i).toNat)
  case atStart => exact ⟨0, by omega, rfl, fun j hj => absurd hj (by omega)⟩
  case round =>
    obtain ⟨k, hk, rfl, hall⟩ := hrel
    have HA := Lib.hid hall
    clear hall
    by_cases hlt : k < 4
    · obtain ⟨b1, o1, he, _, hc1⟩ := HS.out k hlt
      simp only [Option.some.injEq, Addr.mk.injEq, and_true] at he
      obtain ⟨rfl, rfl⟩ := he
      replace hc1 : w1.cell? ⟨w.heap.size + 1, 0 + k, none⟩ = some (.int .i64 (zs.getD k 0)) := hc1
      rw [Nat.zero_add] at hc1
      cases hx : amtB (zs.getD k 0)
      · have hx2 := amtB_no _ hx
        clear hx
        generalize zs.getD k 0 = x at *
        go_wp2_with (go_at_call 31; refine (mbt_no _ _ _ _ hx2).mono ?_; rintro e w' ⟨rfl, rfl⟩)
        go_ret
        exact ⟨rfl, hB⟩
      · have HX := Lib.hid hx
        obtain ⟨ha, hb⟩ := (amtB_iff _).1 hx
        clear hx
        generalize hxx : zs.getD k 0 = x at *
        have HXX := Lib.hid hxx
        clear hxx
        go_wp2_with (go_at_call 31; refine (mbt_yes _ _ _ _ (by omega) (by omega)).mono ?_; rintro e w' ⟨rfl, rfl⟩)
        go_round
        case rel => exact ⟨k + 1, by omega, by go_num, fun j hj => by
          rcases (show j < k ∨ j = k by omega) with h | rfl
          · exact HA.out j h
          · rw [HXX.out]; exact HX.out⟩
        case measure => simp [intOf]; omega
    · exact absurd (fun j hj => HA.out j (by omega)) hu.out
theorem us_any (u1 u2 u3 u4 : Int) (w : World) : Calls Try.prog 20 #[.agg #[.int .i64 u1, .int .i64 u2, .int .i64 u3, .int .i64 u4]] w fun e w' => e = .returned (.bool (usB u1 u2 u3 u4)) ∧ Below w.heap.size w w' := by
  cases h : usB u1 u2 u3 u4
  · exact us_no u1 u2 u3 u4 w _ rfl (fun hh => Bool.false_ne_true (h.symm.trans (usB_all u1 u2 u3 u4 hh)))
  · obtain ⟨a, b, c, d⟩ := (usB_iff u1 u2 u3 u4).1 h
    refine us_yes u1 u2 u3 u4 w _ rfl (fun j hj => ?_)
    rcases j with _ | _ | _ | _ | j
    · exact a
    · exact b
    · exact c
    · exact d
    · omega
set_option maxHeartbeats 1000000 in
theorem rus_0 (u1 u2 u3 u4 : Int) (w : World)  (hn : amtB u1 = false) : Calls Try.prog 21 #[.agg #[.int .i64 u1, .int .i64 u2, .int .i64 u3, .int .i64 u4]] w fun e w' => e = .returned (.bool false) ∧ Below w.heap.size w w' := by
  have hn2 := amtB_no _ hn
  clear hn
  go_enter Try.func21, Try.ntmps21
  go_wp2_with fail
  refine (amt_no _ _ hn2).mono ?_
  rintro _ wy1 ⟨rfl, rfl⟩
  go_wp2
  go_ret
  exact ⟨rfl, (below_box (Below.refl _ _) _)⟩
set_option maxHeartbeats 1000000 in
theorem rus_1 (u1 u2 u3 u4 : Int) (w : World) (h1 : amtB u1 = true) (hn : amtB u2 = false) : Calls Try.prog 21 #[.agg #[.int .i64 u1, .int .i64 u2, .int .i64 u3, .int .i64 u4]] w fun e w' => e = .returned (.bool false) ∧ Below w.heap.size w w' := by
  obtain ⟨a1, b1⟩ := (amtB_iff _).1 h1
  have hn2 := amtB_no _ hn
  clear h1 hn
  go_enter Try.func21, Try.ntmps21
  go_wp2_with fail
  refine (amt_yes _ _ (by omega) (by omega)).mono ?_
  rintro _ wy1 ⟨rfl, rfl⟩
  go_wp2_with fail
  refine (amt_no _ _ hn2).mono ?_
  rintro _ wy2 ⟨rfl, rfl⟩
  go_wp2
  go_ret
  exact ⟨rfl, (below_box (Below.refl _ _) _)⟩
set_option maxHeartbeats 1000000 in
theorem rus_2 (u1 u2 u3 u4 : Int) (w : World) (h1 : amtB u1 = true) (h2 : amtB u2 = true) (hn : amtB u3 = false) : Calls Try.prog 21 #[.agg #[.int .i64 u1, .int .i64 u2, .int .i64 u3, .int .i64 u4]] w fun e w' => e = .returned (.bool false) ∧ Below w.heap.size w w' := by
  obtain ⟨a1, b1⟩ := (amtB_iff _).1 h1
  obtain ⟨a2, b2⟩ := (amtB_iff _).1 h2
  have hn2 := amtB_no _ hn
  clear h1 h2 hn
  go_enter Try.func21, Try.ntmps21
  go_wp2_with fail
  refine (amt_yes _ _ (by omega) (by omega)).mono ?_
  rintro _ wy1 ⟨rfl, rfl⟩
  go_wp2_with fail
  refine (amt_yes _ _ (by omega) (by omega)).mono ?_
  rintro _ wy2 ⟨rfl, rfl⟩
  go_wp2_with fail
  refine (amt_no _ _ hn2).mono ?_
  rintro _ wy3 ⟨rfl, rfl⟩
  go_wp2
  go_ret
  exact ⟨rfl, (below_box (Below.refl _ _) _)⟩
set_option maxHeartbeats 1000000 in
theorem rus_3 (u1 u2 u3 u4 : Int) (w : World) (h1 : amtB u1 = true) (h2 : amtB u2 = true) (h3 : amtB u3 = true) (hn : amtB u4 = false) : Calls Try.prog 21 #[.agg #[.int .i64 u1, .int .i64 u2, .int .i64 u3, .int .i64 u4]] w fun e w' => e = .returned (.bool false) ∧ Below w.heap.size w w' := by
  obtain ⟨a1, b1⟩ := (amtB_iff _).1 h1
  obtain ⟨a2, b2⟩ := (amtB_iff _).1 h2
  obtain ⟨a3, b3⟩ := (amtB_iff _).1 h3
  have hn2 := amtB_no _ hn
  clear h1 h2 h3 hn
  go_enter Try.func21, Try.ntmps21
  go_wp2_with fail
  refine (amt_yes _ _ (by omega) (by omega)).mono ?_
  rintro _ wy1 ⟨rfl, rfl⟩
  go_wp2_with fail
  refine (amt_yes _ _ (by omega) (by omega)).mono ?_
  rintro _ wy2 ⟨rfl, rfl⟩
  go_wp2_with fail
  refine (amt_yes _ _ (by omega) (by omega)).mono ?_
  rintro _ wy3 ⟨rfl, rfl⟩
  go_wp2_with fail
  refine (amt_no _ _ hn2).mono ?_
  rintro _ wy4 ⟨rfl, rfl⟩
  go_wp2
  go_ret
  exact ⟨rfl, (below_box (Below.refl _ _) _)⟩
set_option maxHeartbeats 1000000 in
theorem rus_4 (u1 u2 u3 u4 : Int) (w : World) (h1 : amtB u1 = true) (h2 : amtB u2 = true) (h3 : amtB u3 = true) (h4 : amtB u4 = true) : Calls Try.prog 21 #[.agg #[.int .i64 u1, .int .i64 u2, .int .i64 u3, .int .i64 u4]] w fun e w' => e = .returned (.bool true) ∧ Below w.heap.size w w' := by
  obtain ⟨a1, b1⟩ := (amtB_iff _).1 h1
  obtain ⟨a2, b2⟩ := (amtB_iff _).1 h2
  obtain ⟨a3, b3⟩ := (amtB_iff _).1 h3
  obtain ⟨a4, b4⟩ := (amtB_iff _).1 h4
  clear h1 h2 h3 h4
  go_enter Try.func21, Try.ntmps21
  go_wp2_with fail
  refine (amt_yes _ _ (by omega) (by omega)).mono ?_
  rintro _ wy1 ⟨rfl, rfl⟩
  go_wp2_with fail
  refine (amt_yes _ _ (by omega) (by omega)).mono ?_
  rintro _ wy2 ⟨rfl, rfl⟩
  go_wp2_with fail
  refine (amt_yes _ _ (by omega) (by omega)).mono ?_
  rintro _ wy3 ⟨rfl, rfl⟩
  go_wp2_with fail
  refine (amt_yes _ _ (by omega) (by omega)).mono ?_
  rintro _ wy4 ⟨rfl, rfl⟩
  go_wp2
  go_ret
  exact ⟨rfl, (below_box (Below.refl _ _) _)⟩
theorem rus_any (u1 u2 u3 u4 : Int) (w : World) : Calls Try.prog 21 #[.agg #[.int .i64 u1, .int .i64 u2, .int .i64 u3, .int .i64 u4]] w fun e w' => e = .returned (.bool (usB u1 u2 u3 u4)) ∧ Below w.heap.size w w' := by
  unfold usB
  cases h1 : amtB u1
  · exact rus_0 u1 u2 u3 u4 w h1
  · cases h2 : amtB u2
    · exact rus_1 u1 u2 u3 u4 w h1 h2
    · cases h3 : amtB u3
      · exact rus_2 u1 u2 u3 u4 w h1 h2 h3
      · cases h4 : amtB u4
        · exact rus_3 u1 u2 u3 u4 w h1 h2 h3 h4
        · exact rus_4 u1 u2 u3 u4 w h1 h2 h3 h4

structure N3 where
  a : Int
  b : Int
  e : Int
def usW (u1 u4 fi fu : Int) : N3 := ⟨max (u1 - fi) 0, max (u4 - fu) 0, 0⟩
def billV (fi fu iv : Int) (ts : List T2) (u1 u2 u3 u4 : Int) : N3 := if chkV fi fu iv ts = 0 then (if usB u1 u2 u3 u4 = true then ⟨max (u1 - fi) 0, max (u4 - fu) 0, 0⟩ else ⟨0, 0, 2⟩) else ⟨0, 0, chkV fi fu iv ts⟩
theorem chkV_good (fi fu iv : Int) (ts : List T2) (h : chkV fi fu iv ts = 0) : (0 ≤ fi ∧ fi ≤ 1000000000) ∧ (0 ≤ fu ∧ fu ≤ 1000000000) ∧ (0 ≤ iv ∧ iv ≤ 1000000000) ∧ (1 ≤ ts.length ∧ ts.length ≤ 8) ∧ chkL ts 0 = 0 := by
  unfold chkV at h
  split at h
  · next h1 =>
    rw [Bool.and_eq_true, Bool.and_eq_true, numB_iff, numB_iff, numB_iff] at h1
    split at h
    · next h2 => exact ⟨h1.1, h1.2.1, h1.2.2, h2, h⟩
    · omega
  · omega
theorem usB_bd (u1 u2 u3 u4 : Int) (h : usB u1 u2 u3 u4 = true) : (0 ≤ u1 ∧ u1 ≤ 1000000000000) ∧ (0 ≤ u2 ∧ u2 ≤ 1000000000000) ∧ (0 ≤ u3 ∧ u3 ≤ 1000000000000) ∧ (0 ≤ u4 ∧ u4 ≤ 1000000000000) := by
  obtain ⟨a, b, c, d⟩ := (usB_iff _ _ _ _).1 h
  exact ⟨(amtB_iff _).1 a, (amtB_iff _).1 b, (amtB_iff _).1 c, (amtB_iff _).1 d⟩
set_option maxHeartbeats 1000000 in
theorem bill_0 (fi fu iv : Int) (A : Option Addr) (n cap : Nat) (ts : List T2) (u1 u2 u3 u4 x : Int) (w : World) (hs : Hid (Seg w A (n * 2) (tCell ts))) (HC : Hid (∀ W, Seg W A (n * 2) (tCell ts) → Calls Try.prog 15 #[.agg #[.int .i64 fi, .int .i64 fu, .int .i64 iv, .slice A n cap]] W fun e w' => e = .returned (.int .i64 x) ∧ Below W.heap.size W w')) (hx : (x != 0) = true) : Calls Try.prog 9 #[.agg #[.int .i64 fi, .int .i64 fu, .int .i64 iv, .slice A n cap], .agg #[.int .i64 u1, .int .i64 u2, .int .i64 u3, .int .i64 u4]] w fun e w' => e = .returned (.tuple #[.int .i64 0, .int .i64 0, .int .i64 x]) ∧ Below w.heap.size w w' := by
  go_enter Try.func9, Try.ntmps9
  go_wp2_with fail
  refine (HC.out _ (hs.out.next (below_box (below_box (Below.refl _ _) _) _))).mono ?_
  rintro _ wx1 ⟨rfl, hb⟩
  have P := ((Box.new w 24 #[.int .i64 fi, .int .i64 fu, .int .i64 iv, .slice A n cap]).alloc _).next hb
  have U := (Box.new ((w).alloc (.cells #[.int .i64 fi, .int .i64 fu, .int .i64 iv, .slice A n cap] 24)) 26 #[.int .i64 u1, .int .i64 u2, .int .i64 u3, .int .i64 u4]).next hb
  simp only [World.size_alloc] at U
  have hB := below_step (below_box (below_box (Below.refl _ w) _) _) hb
  clear hb
  have cP_0 := P.cell 0 _ rfl
  have cP_1 := P.cell 1 _ rfl
  have cP_2 := P.cell 2 _ rfl
  have cP_3 := P.cell 3 _ rfl
  have lP := P.lt
  have cU_0 := U.cell 0 _ rfl
  have cU_1 := U.cell 1 _ rfl
  have cU_2 := U.cell 2 _ rfl
  have cU_3 := U.cell 3 _ rfl
  have lU := U.lt
  go_wp2
  refine bodyPost_ret (v := .tuple #[.int .i64 0, .int .i64 0, .int .i64 x]) ?_ rfl ⟨rfl, hB⟩
  simp [results, Try.results9, go_sem]
set_option maxHeartbeats 1000000 in
theorem bill_1 (fi fu iv : Int) (A : Option Addr) (n cap : Nat) (ts : List T2) (u1 u2 u3 u4 : Int) (w : World) (hs : Hid (Seg w A (n * 2) (tCell ts))) (HC : Hid (∀ W, Seg W A (n * 2) (tCell ts) → Calls Try.prog 15 #[.agg #[.int .i64 fi, .int .i64 fu, .int .i64 iv, .slice A n cap]] W fun e w' => e = .returned (.int .i64 0) ∧ Below W.heap.size W w')) (HU : Hid (∀ W, Calls Try.prog 20 #[.agg #[.int .i64 u1, .int .i64 u2, .int .i64 u3, .int .i64 u4]] W fun e w' => e = .returned (.bool false) ∧ Below W.heap.size W w')) : Calls Try.prog 9 #[.agg #[.int .i64 fi, .int .i64 fu, .int .i64 iv, .slice A n cap], .agg #[.int .i64 u1, .int .i64 u2, .int .i64 u3, .int .i64 u4]] w fun e w' => e = .returned (.tuple #[.int .i64 0, .int .i64 0, .int .i64 2]) ∧ Below w.heap.size w w' := by
  go_enter Try.func9, Try.ntmps9
  go_wp2_with fail
  refine (HC.out _ (hs.out.next (below_box (below_box (Below.refl _ _) _) _))).mono ?_
  rintro _ wx1 ⟨rfl, hb⟩
  have P := ((Box.new w 24 #[.int .i64 fi, .int .i64 fu, .int .i64 iv, .slice A n cap]).alloc _).next hb
  have U := (Box.new ((w).alloc (.cells #[.int .i64 fi, .int .i64 fu, .int .i64 iv, .slice A n cap] 24)) 26 #[.int .i64 u1, .int .i64 u2, .int .i64 u3, .int .i64 u4]).next hb
  simp only [World.size_alloc] at U
  have hB := below_step (below_box (below_box (Below.refl _ w) _) _) hb
  clear hb
  have cP_0 := P.cell 0 _ rfl
  have cP_1 := P.cell 1 _ rfl
  have cP_2 := P.cell 2 _ rfl
  have cP_3 := P.cell 3 _ rfl
  have lP := P.lt
  have cU_0 := U.cell 0 _ rfl
  have cU_1 := U.cell 1 _ rfl
  have cU_2 := U.cell 2 _ rfl
  have cU_3 := U.cell 3 _ rfl
  have lU := U.lt
  go_wp2_with fail
  refine (HU.out _).mono ?_
  rintro _ wx2 ⟨rfl, hb⟩
  clear cP_0 cP_1 cP_2 cP_3 lP cU_0 cU_1 cU_2 cU_3 lU
  replace P := P.next hb
  replace U := U.next hb
  replace hB := below_step hB hb
  clear hb
  have cP_0 := P.cell 0 _ rfl
  have cP_1 := P.cell 1 _ rfl
  have cP_2 := P.cell 2 _ rfl
  have cP_3 := P.cell 3 _ rfl
  have lP := P.lt
  have cU_0 := U.cell 0 _ rfl
  have cU_1 := U.cell 1 _ rfl
  have cU_2 := U.cell 2 _ rfl
  have cU_3 := U.cell 3 _ rfl
  have lU := U.lt
  go_wp2
  refine bodyPost_ret (v := .tuple #[.int .i64 0, .int .i64 0, .int .i64 2]) ?_ rfl ⟨rfl, hB⟩
  simp [results, Try.results9, go_sem]
set_option maxHeartbeats 1000000 in
theorem bill_2 (fi fu iv : Int) (A : Option Addr) (n cap : Nat) (ts : List T2) (u1 u2 u3 u4 : Int) (w : World) (hs : Hid (Seg w A (n * 2) (tCell ts))) (HC : Hid (∀ W, Seg W A (n * 2) (tCell ts) → Calls Try.prog 15 #[.agg #[.int .i64 fi, .int .i64 fu, .int .i64 iv, .slice A n cap]] W fun e w' => e = .returned (.int .i64 0) ∧ Below W.heap.size W w')) (HU : Hid (∀ W, Calls Try.prog 20 #[.agg #[.int .i64 u1, .int .i64 u2, .int .i64 u3, .int .i64 u4]] W fun e w' => e = .returned (.bool true) ∧ Below W.heap.size W w')) (a1 : 0 ≤ fi) (b1 : fi ≤ 1000000000) (a2 : 0 ≤ fu) (b2 : fu ≤ 1000000000) (a3 : 0 ≤ u1) (b3 : u1 ≤ 1000000000000) (a4 : 0 ≤ u4) (b4 : u4 ≤ 1000000000000) : Calls Try.prog 9 #[.agg #[.int .i64 fi, .int .i64 fu, .int .i64 iv, .slice A n cap], .agg #[.int .i64 u1, .int .i64 u2, .int .i64 u3, .int .i64 u4]] w fun e w' => e = .returned (.tuple #[.int .i64 (max (u1 - fi) 0), .int .i64 (max (u4 - fu) 0), .int .i64 0]) ∧ Below w.heap.size w w' := by
  go_enter Try.func9, Try.ntmps9
  go_wp2_with fail
  refine (HC.out _ (hs.out.next (below_box (below_box (Below.refl _ _) _) _))).mono ?_
  rintro _ wx1 ⟨rfl, hb⟩
  have P := ((Box.new w 24 #[.int .i64 fi, .int .i64 fu, .int .i64 iv, .slice A n cap]).alloc _).next hb
  have U := (Box.new ((w).alloc (.cells #[.int .i64 fi, .int .i64 fu, .int .i64 iv, .slice A n cap] 24)) 26 #[.int .i64 u1, .int .i64 u2, .int .i64 u3, .int .i64 u4]).next hb
  simp only [World.size_alloc] at U
  have hB := below_step (below_box (below_box (Below.refl _ w) _) _) hb
  clear hb
  have cP_0 := P.cell 0 _ rfl
  have cP_1 := P.cell 1 _ rfl
  have cP_2 := P.cell 2 _ rfl
  have cP_3 := P.cell 3 _ rfl
  have lP := P.lt
  have cU_0 := U.cell 0 _ rfl
  have cU_1 := U.cell 1 _ rfl
  have cU_2 := U.cell 2 _ rfl
  have cU_3 := U.cell 3 _ rfl
  have lU := U.lt
  go_wp2_with fail
  refine (HU.out _).mono ?_
  rintro _ wx2 ⟨rfl, hb⟩
  clear cP_0 cP_1 cP_2 cP_3 lP cU_0 cU_1 cU_2 cU_3 lU
  replace P := P.next hb
  replace U := U.next hb
  replace hB := below_step hB hb
  clear hb
  have cP_0 := P.cell 0 _ rfl
  have cP_1 := P.cell 1 _ rfl
  have cP_2 := P.cell 2 _ rfl
  have cP_3 := P.cell 3 _ rfl
  have lP := P.lt
  have cU_0 := U.cell 0 _ rfl
  have cU_1 := U.cell 1 _ rfl
  have cU_2 := U.cell 2 _ rfl
  have cU_3 := U.cell 3 _ rfl
  have lU := U.lt
  have hw1 : IntKind.i64.wrap (u1 - fi) = u1 - fi := IntWalk.i64_in _ (by omega)
  have hw2 : IntKind.i64.wrap (u4 - fu) = u4 - fu := IntWalk.i64_in _ (by omega)
  go_upto_region 6 with fail
  clear cP_0 cP_1 cP_2 cP_3 lP cU_0 cU_1 cU_2 cU_3 lU
  have iP_0 : ∀ i : Idx wx2, _ := fun i => (P.idx i).cell 0 _ rfl
  have iP_1 : ∀ i : Idx wx2, _ := fun i => (P.idx i).cell 1 _ rfl
  have iP_2 : ∀ i : Idx wx2, _ := fun i => (P.idx i).cell 2 _ rfl
  have iP_3 : ∀ i : Idx wx2, _ := fun i => (P.idx i).cell 3 _ rfl
  have iU_0 : ∀ i : Idx wx2, _ := fun i => (U.idx i).cell 0 _ rfl
  have iU_1 : ∀ i : Idx wx2, _ := fun i => (U.idx i).cell 1 _ rfl
  have iU_2 : ∀ i : Idx wx2, _ := fun i => (U.idx i).cell 2 _ rfl
  have iU_3 : ∀ i : Idx wx2, _ := fun i => (U.idx i).cell 3 _ rfl
  refine wp_region_mix [0, 0, 0, 0, 0, 0, 0, 0, 0, 0, 0, 0, 1, 1, 1] (by kernel_rfl) (by kernel_rfl) ?_
  iterate 12 (refine wpMix_calm (fun K hK => ?_); go_simp; refine hK _ ?_; clear hK K)
  iterate 3 (refine wpMix_pure (fun K hK => ?_); go_simp; refine hK _ ?_; clear hK K)
  refine wpMix_nil (fun wx3 hb => ?_)
  clear iP_0 iP_1 iP_2 iP_3 iU_0 iU_1 iU_2 iU_3
  replace P := P.next hb
  replace U := U.next hb
  replace hB := below_step hB hb
  clear hb
  clear hw1 hw2
  go_wp2
  all_goals
    refine bodyPost_ret (v := .tuple #[.int .i64 (max (u1 - fi) 0), .int .i64 (max (u4 - fu) 0), .int .i64 0]) ?_ rfl ⟨rfl, hB⟩
    simp [results, Try.results9, go_sem]
    omega
theorem bill_any (fi fu iv : Int) (A : Option Addr) (n cap : Nat) (ts : List T2) (u1 u2 u3 u4 : Int) (w : World) (hn : ts.length = n) (hs : Seg w A (n * 2) (tCell ts)) : Calls Try.prog 9 #[.agg #[.int .i64 fi, .int .i64 fu, .int .i64 iv, .slice A n cap], .agg #[.int .i64 u1, .int .i64 u2, .int .i64 u3, .int .i64 u4]] w fun e w' => e = .returned (.tuple #[.int .i64 (billV fi fu iv ts u1 u2 u3 u4).a, .int .i64 (billV fi fu iv ts u1 u2 u3 u4).b, .int .i64 (billV fi fu iv ts u1 u2 u3 u4).e]) ∧ Below w.heap.size w w' := by
  have HC : Hid (∀ W, Seg W A (n * 2) (tCell ts) → _) := fun W k => chk_any fi fu iv A n cap ts W hn k
  have HU : Hid (∀ W, _) := fun W => us_any u1 u2 u3 u4 W
  unfold billV
  by_cases h : chkV fi fu iv ts = 0
  · rw [if_pos h]
    obtain ⟨⟨a1, b1⟩, ⟨a2, b2⟩, _⟩ := chkV_good fi fu iv ts h
    rw [h] at HC
    cases h2 : usB u1 u2 u3 u4
    · rw [h2] at HU
      exact bill_1 fi fu iv A n cap ts u1 u2 u3 u4 w hs HC HU
    · rw [h2] at HU
      obtain ⟨⟨a3, b3⟩, _, _, ⟨a4, b4⟩⟩ := usB_bd u1 u2 u3 u4 h2
      exact bill_2 fi fu iv A n cap ts u1 u2 u3 u4 w hs HC HU a1 b1 a2 b2 a3 b3 a4 b4
  · rw [if_neg h]
    exact bill_0 fi fu iv A n cap ts u1 u2 u3 u4 _ w hs HC (bne_iff_ne.2 h)
set_option maxHeartbeats 1000000 in
theorem rbill_0 (fi fu iv : Int) (A : Option Addr) (n cap : Nat) (ts : List T2) (u1 u2 u3 u4 x : Int) (w : World) (hs : Hid (Seg w A (n * 2) (tCell ts))) (HC : Hid (∀ W, Seg W A (n * 2) (tCell ts) → Calls Try.prog 16 #[.agg #[.int .i64 fi, .int .i64 fu, .int .i64 iv, .slice A n cap]] W fun e w' => e = .returned (.int .i64 x) ∧ Below W.heap.size W w')) (hx : (x != 0) = true) : Calls Try.prog 10 #[.agg #[.int .i64 fi, .int .i64 fu, .int .i64 iv, .slice A n cap], .agg #[.int .i64 u1, .int .i64 u2, .int .i64 u3, .int .i64 u4]] w fun e w' => e = .returned (.tuple #[.int .i64 0, .int .i64 0, .int .i64 x]) ∧ Below w.heap.size w w' := by
  go_enter Try.func10, Try.ntmps10
  go_wp2_with fail
  refine (HC.out _ (hs.out.next (below_box (below_box (Below.refl _ _) _) _))).mono ?_
  rintro _ wx1 ⟨rfl, hb⟩
  have P := ((Box.new w 24 #[.int .i64 fi, .int .i64 fu, .int .i64 iv, .slice A n cap]).alloc _).next hb
  have U := (Box.new ((w).alloc (.cells #[.int .i64 fi, .int .i64 fu, .int .i64 iv, .slice A n cap] 24)) 26 #[.int .i64 u1, .int .i64 u2, .int .i64 u3, .int .i64 u4]).next hb
  simp only [World.size_alloc] at U
  have hB := below_step (below_box (below_box (Below.refl _ w) _) _) hb
  clear hb
  have cP_0 := P.cell 0 _ rfl
  have cP_1 := P.cell 1 _ rfl
  have cP_2 := P.cell 2 _ rfl
  have cP_3 := P.cell 3 _ rfl
  have lP := P.lt
  have cU_0 := U.cell 0 _ rfl
  have cU_1 := U.cell 1 _ rfl
  have cU_2 := U.cell 2 _ rfl
  have cU_3 := U.cell 3 _ rfl
  have lU := U.lt
  go_wp2
  refine bodyPost_ret (v := .tuple #[.int .i64 0, .int .i64 0, .int .i64 x]) ?_ rfl ⟨rfl, hB⟩
  simp [results, Try.results10, go_sem]
set_option maxHeartbeats 1000000 in
theorem rbill_1 (fi fu iv : Int) (A : Option Addr) (n cap : Nat) (ts : List T2) (u1 u2 u3 u4 : Int) (w : World) (hs : Hid (Seg w A (n * 2) (tCell ts))) (HC : Hid (∀ W, Seg W A (n * 2) (tCell ts) → Calls Try.prog 16 #[.agg #[.int .i64 fi, .int .i64 fu, .int .i64 iv, .slice A n cap]] W fun e w' => e = .returned (.int .i64 0) ∧ Below W.heap.size W w')) (HU : Hid (∀ W, Calls Try.prog 21 #[.agg #[.int .i64 u1, .int .i64 u2, .int .i64 u3, .int .i64 u4]] W fun e w' => e = .returned (.bool false) ∧ Below W.heap.size W w')) : Calls Try.prog 10 #[.agg #[.int .i64 fi, .int .i64 fu, .int .i64 iv, .slice A n cap], .agg #[.int .i64 u1, .int .i64 u2, .int .i64 u3, .int .i64 u4]] w fun e w' => e = .returned (.tuple #[.int .i64 0, .int .i64 0, .int .i64 2]) ∧ Below w.heap.size w w' := by
  go_enter Try.func10, Try.ntmps10
  go_wp2_with fail
  refine (HC.out _ (hs.out.next (below_box (below_box (Below.refl _ _) _) _))).mono ?_
  rintro _ wx1 ⟨rfl, hb⟩
  have P := ((Box.new w 24 #[.int .i64 fi, .int .i64 fu, .int .i64 iv, .slice A n cap]).alloc _).next hb
  have U := (Box.new ((w).alloc (.cells #[.int .i64 fi, .int .i64 fu, .int .i64 iv, .slice A n cap] 24)) 26 #[.int .i64 u1, .int .i64 u2, .int .i64 u3, .int .i64 u4]).next hb
  simp only [World.size_alloc] at U
  have hB := below_step (below_box (below_box (Below.refl _ w) _) _) hb
  clear hb
  have cP_0 := P.cell 0 _ rfl
  have cP_1 := P.cell 1 _ rfl
  have cP_2 := P.cell 2 _ rfl
  have cP_3 := P.cell 3 _ rfl
  have lP := P.lt
  have cU_0 := U.cell 0 _ rfl
  have cU_1 := U.cell 1 _ rfl
  have cU_2 := U.cell 2 _ rfl
  have cU_3 := U.cell 3 _ rfl
  have lU := U.lt
  go_wp2_with fail
  refine (HU.out _).mono ?_
  rintro _ wx2 ⟨rfl, hb⟩
  clear cP_0 cP_1 cP_2 cP_3 lP cU_0 cU_1 cU_2 cU_3 lU
  replace P := P.next hb
  replace U := U.next hb
  replace hB := below_step hB hb
  clear hb
  have cP_0 := P.cell 0 _ rfl
  have cP_1 := P.cell 1 _ rfl
  have cP_2 := P.cell 2 _ rfl
  have cP_3 := P.cell 3 _ rfl
  have lP := P.lt
  have cU_0 := U.cell 0 _ rfl
  have cU_1 := U.cell 1 _ rfl
  have cU_2 := U.cell 2 _ rfl
  have cU_3 := U.cell 3 _ rfl
  have lU := U.lt
  go_wp2
  refine bodyPost_ret (v := .tuple #[.int .i64 0, .int .i64 0, .int .i64 2]) ?_ rfl ⟨rfl, hB⟩
  simp [results, Try.results10, go_sem]
set_option maxHeartbeats 1000000 in
theorem rbill_2 (fi fu iv : Int) (A : Option Addr) (n cap : Nat) (ts : List T2) (u1 u2 u3 u4 : Int) (w : World) (hs : Hid (Seg w A (n * 2) (tCell ts))) (HC : Hid (∀ W, Seg W A (n * 2) (tCell ts) → Calls Try.prog 16 #[.agg #[.int .i64 fi, .int .i64 fu, .int .i64 iv, .slice A n cap]] W fun e w' => e = .returned (.int .i64 0) ∧ Below W.heap.size W w')) (HU : Hid (∀ W, Calls Try.prog 21 #[.agg #[.int .i64 u1, .int .i64 u2, .int .i64 u3, .int .i64 u4]] W fun e w' => e = .returned (.bool true) ∧ Below W.heap.size W w')) (a1 : 0 ≤ fi) (b1 : fi ≤ 1000000000) (a2 : 0 ≤ fu) (b2 : fu ≤ 1000000000) (a3 : 0 ≤ u1) (b3 : u1 ≤ 1000000000000) (a4 : 0 ≤ u4) (b4 : u4 ≤ 1000000000000) : Calls Try.prog 10 #[.agg #[.int .i64 fi, .int .i64 fu, .int .i64 iv, .slice A n cap], .agg #[.int .i64 u1, .int .i64 u2, .int .i64 u3, .int .i64 u4]] w fun e w' => e = .returned (.tuple #[.int .i64 (max 0 (u1 - fi)), .int .i64 (max 0 (u4 - fu)), .int .i64 0]) ∧ Below w.heap.size w w' := by
  go_enter Try.func10, Try.ntmps10
  go_wp2_with fail
  refine (HC.out _ (hs.out.next (below_box (below_box (Below.refl _ _) _) _))).mono ?_
  rintro _ wx1 ⟨rfl, hb⟩
  have P := ((Box.new w 24 #[.int .i64 fi, .int .i64 fu, .int .i64 iv, .slice A n cap]).alloc _).next hb
  have U := (Box.new ((w).alloc (.cells #[.int .i64 fi, .int .i64 fu, .int .i64 iv, .slice A n cap] 24)) 26 #[.int .i64 u1, .int .i64 u2, .int .i64 u3, .int .i64 u4]).next hb
  simp only [World.size_alloc] at U
  have hB := below_step (below_box (below_box (Below.refl _ w) _) _) hb
  clear hb
  have cP_0 := P.cell 0 _ rfl
  have cP_1 := P.cell 1 _ rfl
  have cP_2 := P.cell 2 _ rfl
  have cP_3 := P.cell 3 _ rfl
  have lP := P.lt
  have cU_0 := U.cell 0 _ rfl
  have cU_1 := U.cell 1 _ rfl
  have cU_2 := U.cell 2 _ rfl
  have cU_3 := U.cell 3 _ rfl
  have lU := U.lt
  go_wp2_with fail
  refine (HU.out _).mono ?_
  rintro _ wx2 ⟨rfl, hb⟩
  clear cP_0 cP_1 cP_2 cP_3 lP cU_0 cU_1 cU_2 cU_3 lU
  replace P := P.next hb
  replace U := U.next hb
  replace hB := below_step hB hb
  clear hb
  have cP_0 := P.cell 0 _ rfl
  have cP_1 := P.cell 1 _ rfl
  have cP_2 := P.cell 2 _ rfl
  have cP_3 := P.cell 3 _ rfl
  have lP := P.lt
  have cU_0 := U.cell 0 _ rfl
  have cU_1 := U.cell 1 _ rfl
  have cU_2 := U.cell 2 _ rfl
  have cU_3 := U.cell 3 _ rfl
  have lU := U.lt
  have hw1 : IntKind.i64.wrap (u1 - fi) = u1 - fi := IntWalk.i64_in _ (by omega)
  have hw2 : IntKind.i64.wrap (u4 - fu) = u4 - fu := IntWalk.i64_in _ (by omega)
  go_upto_region 6 with fail
  clear cP_0 cP_1 cP_2 cP_3 lP cU_0 cU_1 cU_2 cU_3 lU
  have iP_0 : ∀ i : Idx wx2, _ := fun i => (P.idx i).cell 0 _ rfl
  have iP_1 : ∀ i : Idx wx2, _ := fun i => (P.idx i).cell 1 _ rfl
  have iP_2 : ∀ i : Idx wx2, _ := fun i => (P.idx i).cell 2 _ rfl
  have iP_3 : ∀ i : Idx wx2, _ := fun i => (P.idx i).cell 3 _ rfl
  have iU_0 : ∀ i : Idx wx2, _ := fun i => (U.idx i).cell 0 _ rfl
  have iU_1 : ∀ i : Idx wx2, _ := fun i => (U.idx i).cell 1 _ rfl
  have iU_2 : ∀ i : Idx wx2, _ := fun i => (U.idx i).cell 2 _ rfl
  have iU_3 : ∀ i : Idx wx2, _ := fun i => (U.idx i).cell 3 _ rfl
  refine wp_region_mix [0, 0, 0, 0, 0, 0, 0, 0, 0, 0, 0, 0, 1, 1, 1] (by kernel_rfl) (by kernel_rfl) ?_
  iterate 12 (refine wpMix_calm (fun K hK => ?_); go_simp; refine hK _ ?_; clear hK K)
  iterate 3 (refine wpMix_pure (fun K hK => ?_); go_simp; refine hK _ ?_; clear hK K)
  refine wpMix_nil (fun wx3 hb => ?_)
  clear iP_0 iP_1 iP_2 iP_3 iU_0 iU_1 iU_2 iU_3
  replace P := P.next hb
  replace U := U.next hb
  replace hB := below_step hB hb
  clear hb
  clear hw1 hw2
  go_wp2
  all_goals
    refine bodyPost_ret (v := .tuple #[.int .i64 (max 0 (u1 - fi)), .int .i64 (max 0 (u4 - fu)), .int .i64 0]) ?_ rfl ⟨rfl, hB⟩
    simp [results, Try.results10, go_sem]
    omega
theorem rbill_any (fi fu iv : Int) (A : Option Addr) (n cap : Nat) (ts : List T2) (u1 u2 u3 u4 : Int) (w : World) (hn : ts.length = n) (hs : Seg w A (n * 2) (tCell ts)) : Calls Try.prog 10 #[.agg #[.int .i64 fi, .int .i64 fu, .int .i64 iv, .slice A n cap], .agg #[.int .i64 u1, .int .i64 u2, .int .i64 u3, .int .i64 u4]] w fun e w' => e = .returned (.tuple #[.int .i64 (billV fi fu iv ts u1 u2 u3 u4).a, .int .i64 (billV fi fu iv ts u1 u2 u3 u4).b, .int .i64 (billV fi fu iv ts u1 u2 u3 u4).e]) ∧ Below w.heap.size w w' := by
  have HC : Hid (∀ W, Seg W A (n * 2) (tCell ts) → _) := fun W k => rchk_any fi fu iv A n cap ts W hn k
  have HU : Hid (∀ W, _) := fun W => rus_any u1 u2 u3 u4 W
  unfold billV
  by_cases h : chkV fi fu iv ts = 0
  · rw [if_pos h]
    obtain ⟨⟨a1, b1⟩, ⟨a2, b2⟩, _⟩ := chkV_good fi fu iv ts h
    rw [h] at HC
    cases h2 : usB u1 u2 u3 u4
    · rw [h2] at HU
      exact rbill_1 fi fu iv A n cap ts u1 u2 u3 u4 w hs HC HU
    · rw [h2] at HU
      obtain ⟨⟨a3, b3⟩, _, _, ⟨a4, b4⟩⟩ := usB_bd u1 u2 u3 u4 h2
      have h9 := rbill_2 fi fu iv A n cap ts u1 u2 u3 u4 w hs HC HU a1 b1 a2 b2 a3 b3 a4 b4
      rw [Int.max_comm 0, Int.max_comm 0] at h9
      exact h9
  · rw [if_neg h]
    exact rbill_0 fi fu iv A n cap ts u1 u2 u3 u4 _ w hs HC (bne_iff_ne.2 h)

end Go.Proofs.Ytdmffbbobagloaa
