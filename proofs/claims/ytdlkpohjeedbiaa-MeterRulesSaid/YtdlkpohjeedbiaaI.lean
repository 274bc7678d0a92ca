/- Contracts of Valid, Of and Add of layer 34 (meter) and of its reference. -/
import Derived.Test.YtdlkpohjeedbiaaF
namespace Go.Proofs.Ytdlkpohjeedbiaa
open Go.ChangeShapes Go.WideShapes Go.ChangeAt Go.RowKit

def amtB (n : Int) : Bool := decide (0 ≤ n ∧ n ≤ 1000000000000)
theorem amtB_iff (n : Int) : amtB n = true ↔ (0 ≤ n ∧ n ≤ 1000000000000) := by simp [amtB]
theorem amtB_no (n : Int) (h : amtB n = false) : n < 0 ∨ (0 ≤ n ∧ 1000000000000 < n) := by
  have h2 : ¬ _ := fun hh => Bool.false_ne_true (h.symm.trans ((amtB_iff n).2 hh))
  omega
def usB (u1 u2 u3 u4 : Int) : Bool := amtB u1 && (amtB u2 && (amtB u3 && amtB u4))
theorem usB_iff (u1 u2 u3 u4 : Int) : usB u1 u2 u3 u4 = true ↔ (amtB u1 = true ∧ amtB u2 = true ∧ amtB u3 = true ∧ amtB u4 = true) := by simp [usB]
theorem usB_all (u1 u2 u3 u4 : Int) (h : ∀ j, j < 4 → amtB ([u1, u2, u3, u4].getD j 0) = true) : usB u1 u2 u3 u4 = true :=
  (usB_iff u1 u2 u3 u4).2 ⟨h 0 (by omega), h 1 (by omega), h 2 (by omega), h 3 (by omega)⟩
def VRel (zs : List Int) (i : Value) : Prop := ∃ k : Nat, k ≤ 4 ∧ i = .int .i64 k ∧ ∀ j, j < k → amtB (zs.getD j 0) = true
set_option maxHeartbeats 1000000 in
theorem us_yes (u1 u2 u3 u4 : Int) (w : World) (zs : List Int) (hz : Hid (zs = [u1, u2, u3, u4])) (hu : Hid (∀ j, j < 4 → amtB (zs.getD j 0) = true)) : Calls Try.prog 17 #[.agg #[.int .i64 u1, .int .i64 u2, .int .i64 u3, .int .i64 u4]] w fun e w' => e = .returned (.bool true) ∧ Below w.heap.size w w' := by
  go_enter Try.func17, Try.ntmps17
  go_wp2
  refine wp_forget (fun W => Seg W (some ⟨w.heap.size + 1, 0, none⟩) 4 (ints zs) ∧ Below w.heap.size w W)
    ⟨by have h := seg_of_box (zs := [u1, u2, u3, u4]) (Box.new (w.alloc (.cells #[.int .i64 u1, .int .i64 u2, .int .i64 u3, .int .i64 u4] 33)) 3 #[.int .i64 u1, .int .i64 u2, .int .i64 u3, .int .i64 u4]); rw [hz.out]; simp only [World.size_alloc] at h; exact h, ((Below.refl _ w).alloc (Nat.le_refl _) _).alloc (by simp) _⟩ ?_
  rintro w1 ⟨hs, hB⟩
  have HS := Lib.hid hs
  clear hs
  go_loop [15] (fun i => ∃ k : Nat, k ≤ 4 ∧ i = .int .i64 k) (fun i => 4 - (intOf i).toNat)
  case atStart => exact ⟨0, by omega, rfl⟩
  case round =>
    obtain ⟨k, hk, rfl⟩ := hrel
    by_cases hlt : k < 4
    · obtain ⟨b1, o1, he, _, hc1⟩ := HS.out k hlt
      simp only [Option.some.injEq, Addr.mk.injEq, and_true] at he
      obtain ⟨rfl, rfl⟩ := he
      replace hc1 : w1.cell? ⟨w.heap.size + 1, 0 + k, none⟩ = some (.int .i64 (zs.getD k 0)) := hc1
      rw [Nat.zero_add] at hc1
      obtain ⟨ha, hb⟩ := (amtB_iff _).1 (hu.out k hlt)
      generalize zs.getD k 0 = x at *
      go_wp2_with (go_at_call 23; refine (btw_yes _ _ _ _ (by omega) (by omega)).mono ?_; rintro e w' ⟨rfl, rfl⟩)
      go_round
      case rel => exact ⟨k + 1, by omega, by go_num⟩
      case measure => simp [intOf]; omega
    · go_wp2
      go_ret
      exact ⟨rfl, hB⟩
set_option maxHeartbeats 1000000 in
theorem us_no (u1 u2 u3 u4 : Int) (w : World) (zs : List Int) (hz : Hid (zs = [u1, u2, u3, u4])) (hu : Hid (¬ ∀ j, j < 4 → amtB (zs.getD j 0) = true)) : Calls Try.prog 17 #[.agg #[.int .i64 u1, .int .i64 u2, .int .i64 u3, .int .i64 u4]] w fun e w' => e = .returned (.bool false) ∧ Below w.heap.size w w' := by
  go_enter Try.func17, Try.ntmps17
  go_wp2
  refine wp_forget (fun W => Seg W (some ⟨w.heap.size + 1, 0, none⟩) 4 (ints zs) ∧ Below w.heap.size w W)
    ⟨by have h := seg_of_box (zs := [u1, u2, u3, u4]) (Box.new (w.alloc (.cells #[.int .i64 u1, .int .i64 u2, .int .i64 u3, .int .i64 u4] 33)) 3 #[.int .i64 u1, .int .i64 u2, .int .i64 u3, .int .i64 u4]); rw [hz.out]; simp only [World.size_alloc] at h; exact h, ((Below.refl _ w).alloc (Nat.le_refl _) _).alloc (by simp) _⟩ ?_
  rintro w1 ⟨hs, hB⟩
  have HS := Lib.hid hs
  clear hs
  go_loop [15] (VRel zs) (fun i => 4 - (intOf i).toNat)
  case atStart => exact ⟨0, by omega, rfl, fun j hj => absurd hj (by omega)⟩
  case round =>
    obtain ⟨k, hk, rfl, hall⟩ := hrel
    have HA := Lib.hid hall
    clear hall
    by_cases hlt : k < 4
    · obtain ⟨b1, o1, he, _, hc1⟩ := HS.out k hlt
      simp only [Option.some.injEq, Addr.mk.injEq, and_true] at he
      obtain ⟨rfl, rfl⟩ := he
      replace hc1 : w1.cell? ⟨w.heap.size + 1, 0 + k, none⟩ = some (.int .i64 (zs.getD k 0)) := hc1
      rw [Nat.zero_add] at hc1
      cases hx : amtB (zs.getD k 0)
      · have hx2 := amtB_no _ hx
        clear hx
        generalize zs.getD k 0 = x at *
        go_wp2_with (go_at_call 23; refine (btw_no _ _ _ _ hx2).mono ?_; rintro e w' ⟨rfl, rfl⟩)
        go_ret
        exact ⟨rfl, hB⟩
      · have HX := Lib.hid hx
        obtain ⟨ha, hb⟩ := (amtB_iff _).1 hx
        clear hx
        generalize hxx : zs.getD k 0 = x at *
        have HXX := Lib.hid hxx
        clear hxx
        go_wp2_with (go_at_call 23; refine (btw_yes _ _ _ _ (by omega) (by omega)).mono ?_; rintro e w' ⟨rfl, rfl⟩)
        go_round
        case rel => exact ⟨k + 1, by omega, by go_num, fun j hj => by
          rcases (show j < k ∨ j = k by omega) with h | rfl
          · exact HA.out j h
          · rw [HXX.out]; exact HX.out⟩
        case measure => simp [intOf]; omega
    · exact absurd (fun j hj => HA.out j (by omega)) hu.out
theorem us_any (u1 u2 u3 u4 : Int) (w : World) : Calls Try.prog 17 #[.agg #[.int .i64 u1, .int .i64 u2, .int .i64 u3, .int .i64 u4]] w fun e w' => e = .returned (.bool (usB u1 u2 u3 u4)) ∧ Below w.heap.size w w' := by
  cases h : usB u1 u2 u3 u4
  · exact us_no u1 u2 u3 u4 w _ rfl (fun hh => Bool.false_ne_true (h.symm.trans (usB_all u1 u2 u3 u4 hh)))
  · obtain ⟨a, b, c, d⟩ := (usB_iff u1 u2 u3 u4).1 h
    refine us_yes u1 u2 u3 u4 w _ rfl (fun j hj => ?_)
    rcases j with _ | _ | _ | _ | j
    · exact a
    · exact b
    · exact c
    · exact d
    · omega
set_option maxHeartbeats 1000000 in
theorem rus_0 (u1 u2 u3 u4 : Int) (w : World)  (hn : amtB u1 = false) : Calls Try.prog 18 #[.agg #[.int .i64 u1, .int .i64 u2, .int .i64 u3, .int .i64 u4]] w fun e w' => e = .returned (.bool false) ∧ Below w.heap.size w w' := by
  have hn2 := amtB_no _ hn
  clear hn
  go_enter Try.func18, Try.ntmps18
  go_wp2_with fail
  refine (amt_no _ _ hn2).mono ?_
  rintro _ wy1 ⟨rfl, rfl⟩
  go_wp2
  go_ret
  exact ⟨rfl, (below_box (Below.refl _ _) _)⟩
set_option maxHeartbeats 1000000 in
theorem rus_1 (u1 u2 u3 u4 : Int) (w : World) (h1 : amtB u1 = true) (hn : amtB u2 = false) : Calls Try.prog 18 #[.agg #[.int .i64 u1, .int .i64 u2, .int .i64 u3, .int .i64 u4]] w fun e w' => e = .returned (.bool false) ∧ Below w.heap.size w w' := by
  obtain ⟨a1, b1⟩ := (amtB_iff _).1 h1
  have hn2 := amtB_no _ hn
  clear h1 hn
  go_enter Try.func18, Try.ntmps18
  go_wp2_with fail
  refine (amt_yes _ _ (by omega) (by omega)).mono ?_
  rintro _ wy1 ⟨rfl, rfl⟩
  go_wp2_with fail
  refine (amt_no _ _ hn2).mono ?_
  rintro _ wy2 ⟨rfl, rfl⟩
  go_wp2
  go_ret
  exact ⟨rfl, (below_box (Below.refl _ _) _)⟩
set_option maxHeartbeats 1000000 in
theorem rus_2 (u1 u2 u3 u4 : Int) (w : World) (h1 : amtB u1 = true) (h2 : amtB u2 = true) (hn : amtB u3 = false) : Calls Try.prog 18 #[.agg #[.int .i64 u1, .int .i64 u2, .int .i64 u3, .int .i64 u4]] w fun e w' => e = .returned (.bool false) ∧ Below w.heap.size w w' := by
  obtain ⟨a1, b1⟩ := (amtB_iff _).1 h1
  obtain ⟨a2, b2⟩ := (amtB_iff _).1 h2
  have hn2 := amtB_no _ hn
  clear h1 h2 hn
  go_enter Try.func18, Try.ntmps18
  go_wp2_with fail
  refine (amt_yes _ _ (by omega) (by omega)).mono ?_
  rintro _ wy1 ⟨rfl, rfl⟩
  go_wp2_with fail
  refine (amt_yes _ _ (by omega) (by omega)).mono ?_
  rintro _ wy2 ⟨rfl, rfl⟩
  go_wp2_with fail
  refine (amt_no _ _ hn2).mono ?_
  rintro _ wy3 ⟨rfl, rfl⟩
  go_wp2
  go_ret
  exact ⟨rfl, (below_box (Below.refl _ _) _)⟩
set_option maxHeartbeats 1000000 in
theorem rus_3 (u1 u2 u3 u4 : Int) (w : World) (h1 : amtB u1 = true) (h2 : amtB u2 = true) (h3 : amtB u3 = true) (hn : amtB u4 = false) : Calls Try.prog 18 #[.agg #[.int .i64 u1, .int .i64 u2, .int .i64 u3, .int .i64 u4]] w fun e w' => e = .returned (.bool false) ∧ Below w.heap.size w w' := by
  obtain ⟨a1, b1⟩ := (amtB_iff _).1 h1
  obtain ⟨a2, b2⟩ := (amtB_iff _).1 h2
  obtain ⟨a3, b3⟩ := (amtB_iff _).1 h3
  have hn2 := amtB_no _ hn
  clear h1 h2 h3 hn
  go_enter Try.func18, Try.ntmps18
  go_wp2_with fail
  refine (amt_yes _ _ (by omega) (by omega)).mono ?_
  rintro _ wy1 ⟨rfl, rfl⟩
  go_wp2_with fail
  refine (amt_yes _ _ (by omega) (by omega)).mono ?_
  rintro _ wy2 ⟨rfl, rfl⟩
  go_wp2_with fail
  refine (amt_yes _ _ (by omega) (by omega)).mono ?_
  rintro _ wy3 ⟨rfl, rfl⟩
  go_wp2_with fail
  refine (amt_no _ _ hn2).mono ?_
  rintro _ wy4 ⟨rfl, rfl⟩
  go_wp2
  go_ret
  exact ⟨rfl, (below_box (Below.refl _ _) _)⟩
set_option maxHeartbeats 1000000 in
theorem rus_4 (u1 u2 u3 u4 : Int) (w : World) (h1 : amtB u1 = true) (h2 : amtB u2 = true) (h3 : amtB u3 = true) (h4 : amtB u4 = true) : Calls Try.prog 18 #[.agg #[.int .i64 u1, .int .i64 u2, .int .i64 u3, .int .i64 u4]] w fun e w' => e = .returned (.bool true) ∧ Below w.heap.size w w' := by
  obtain ⟨a1, b1⟩ := (amtB_iff _).1 h1
  obtain ⟨a2, b2⟩ := (amtB_iff _).1 h2
  obtain ⟨a3, b3⟩ := (amtB_iff _).1 h3
  obtain ⟨a4, b4⟩ := (amtB_iff _).1 h4
  clear h1 h2 h3 h4
  go_enter Try.func18, Try.ntmps18
  go_wp2_with fail
  refine (amt_yes _ _ (by omega) (by omega)).mono ?_
  rintro _ wy1 ⟨rfl, rfl⟩
  go_wp2_with fail
  refine (amt_yes _ _ (by omega) (by omega)).mono ?_
  rintro _ wy2 ⟨rfl, rfl⟩
  go_wp2_with fail
  refine (amt_yes _ _ (by omega) (by omega)).mono ?_
  rintro _ wy3 ⟨rfl, rfl⟩
  go_wp2_with fail
  refine (amt_yes _ _ (by omega) (by omega)).mono ?_
  rintro _ wy4 ⟨rfl, rfl⟩
  go_wp2
  go_ret
  exact ⟨rfl, (below_box (Below.refl _ _) _)⟩
theorem rus_any (u1 u2 u3 u4 : Int) (w : World) : Calls Try.prog 18 #[.agg #[.int .i64 u1, .int .i64 u2, .int .i64 u3, .int .i64 u4]] w fun e w' => e = .returned (.bool (usB u1 u2 u3 u4)) ∧ Below w.heap.size w w' := by
  unfold usB
  cases h1 : amtB u1
  · exact rus_0 u1 u2 u3 u4 w h1
  · cases h2 : amtB u2
    · exact rus_1 u1 u2 u3 u4 w h1 h2
    · cases h3 : amtB u3
      · exact rus_2 u1 u2 u3 u4 w h1 h2 h3
      · cases h4 : amtB u4
        · exact rus_3 u1 u2 u3 u4 w h1 h2 h3 h4
        · exact rus_4 u1 u2 u3 u4 w h1 h2 h3 h4
structure N5 where
  a : Int
  b : Int
  c : Int
  d : Int
  e : Int
def ofV (sp gr m n : Int) : N5 := if (tickV sp gr n).e = 0 then (if (unitV sp gr m (tickV sp gr n).v).e = 0 then ⟨1, n, (tickV sp gr n).v, (unitV sp gr m (tickV sp gr n).v).v, 0⟩ else ⟨0, 0, 0, 0, (unitV sp gr m (tickV sp gr n).v).e⟩) else ⟨0, 0, 0, 0, (tickV sp gr n).e⟩
set_option maxHeartbeats 1000000 in
theorem of_t (sp gr m n t x : Int) (w : World) (HT : Hid (∀ W, Calls Try.prog 10 #[.agg #[.int .i64 sp, .int .i64 gr], .int .i64 n] W fun e w' => e = .returned (.tuple #[.int .i64 t, .int .i64 x]) ∧ Below W.heap.size W w')) (h : (x != 0) = true) : Calls Try.prog 14 #[.agg #[.int .i64 sp, .int .i64 gr], .int .i64 m, .int .i64 n] w fun e w' => e = .returned (.tuple #[.agg #[.int .i64 0, .int .i64 0, .int .i64 0, .int .i64 0], .int .i64 x]) ∧ Below w.heap.size w w' := by
  go_enter Try.func14, Try.ntmps14
  go_wp2_with fail
  refine (HT.out _).mono ?_
  rintro _ wx1 ⟨rfl, hb⟩
  have P := ((Box.new w 23 #[.int .i64 sp, .int .i64 gr]).alloc _).next hb
  have R := ((Box.new ((w).alloc (.cells #[.int .i64 sp, .int .i64 gr] 23)) 33 #[.int .i64 0, .int .i64 0, .int .i64 0, .int .i64 0])).next hb
  simp only [World.size_alloc] at R
  have hB := below_step (below_box (below_box (Below.refl _ w) _) _) hb
  clear hb
  have cP_0 := P.cell 0 _ rfl
  have cP_1 := P.cell 1 _ rfl
  have lP := P.lt
  have cR_0 := R.cell 0 _ rfl
  have cR_1 := R.cell 1 _ rfl
  have cR_2 := R.cell 2 _ rfl
  have cR_3 := R.cell 3 _ rfl
  have fR_0 := R.frozen 0
  have fR_1 := R.frozen 1
  have fR_2 := R.frozen 2
  have fR_3 := R.frozen 3
  have lR := R.lt
  go_wp2
  refine bodyPost_ret (v := .tuple #[.agg #[.int .i64 0, .int .i64 0, .int .i64 0, .int .i64 0], .int .i64 x]) ?_ rfl ⟨rfl, below_set4 hB (by omega) _ _ _ _⟩
  simp [results, Try.results14, go_sem, cR_0, cR_1, cR_2, cR_3]
set_option maxHeartbeats 1000000 in
theorem of_u (sp gr m n t u x : Int) (w : World) (HT : Hid (∀ W, Calls Try.prog 10 #[.agg #[.int .i64 sp, .int .i64 gr], .int .i64 n] W fun e w' => e = .returned (.tuple #[.int .i64 t, .int .i64 0]) ∧ Below W.heap.size W w')) (HU : Hid (∀ W, Calls Try.prog 11 #[.agg #[.int .i64 sp, .int .i64 gr], .int .i64 m, .int .i64 t] W fun e w' => e = .returned (.tuple #[.int .i64 u, .int .i64 x]) ∧ Below W.heap.size W w')) (h : (x != 0) = true) : Calls Try.prog 14 #[.agg #[.int .i64 sp, .int .i64 gr], .int .i64 m, .int .i64 n] w fun e w' => e = .returned (.tuple #[.agg #[.int .i64 0, .int .i64 0, .int .i64 0, .int .i64 0], .int .i64 x]) ∧ Below w.heap.size w w' := by
  go_enter Try.func14, Try.ntmps14
  go_wp2_with fail
  refine (HT.out _).mono ?_
  rintro _ wx1 ⟨rfl, hb⟩
  have P := ((Box.new w 23 #[.int .i64 sp, .int .i64 gr]).alloc _).next hb
  have R := ((Box.new ((w).alloc (.cells #[.int .i64 sp, .int .i64 gr] 23)) 33 #[.int .i64 0, .int .i64 0, .int .i64 0, .int .i64 0])).next hb
  simp only [World.size_alloc] at R
  have hB := below_step (below_box (below_box (Below.refl _ w) _) _) hb
  clear hb
  have cP_0 := P.cell 0 _ rfl
  have cP_1 := P.cell 1 _ rfl
  have lP := P.lt
  have cR_0 := R.cell 0 _ rfl
  have cR_1 := R.cell 1 _ rfl
  have cR_2 := R.cell 2 _ rfl
  have cR_3 := R.cell 3 _ rfl
  have fR_0 := R.frozen 0
  have fR_1 := R.frozen 1
  have fR_2 := R.frozen 2
  have fR_3 := R.frozen 3
  have lR := R.lt
  go_wp2_with fail
  refine (HU.out _).mono ?_
  rintro _ wx2 ⟨rfl, hb⟩
  clear cP_0 cP_1 lP cR_0 cR_1 cR_2 cR_3 fR_0 fR_1 fR_2 fR_3 lR
  replace P := (P).next hb
  replace R := (R).next hb
  replace hB := below_step hB hb
  clear hb
  have cP_0 := P.cell 0 _ rfl
  have cP_1 := P.cell 1 _ rfl
  have lP := P.lt
  have cR_0 := R.cell 0 _ rfl
  have cR_1 := R.cell 1 _ rfl
  have cR_2 := R.cell 2 _ rfl
  have cR_3 := R.cell 3 _ rfl
  have fR_0 := R.frozen 0
  have fR_1 := R.frozen 1
  have fR_2 := R.frozen 2
  have fR_3 := R.frozen 3
  have lR := R.lt
  go_wp2
  refine bodyPost_ret (v := .tuple #[.agg #[.int .i64 0, .int .i64 0, .int .i64 0, .int .i64 0], .int .i64 x]) ?_ rfl ⟨rfl, below_set4 hB (by omega) _ _ _ _⟩
  simp [results, Try.results14, go_sem, cR_0, cR_1, cR_2, cR_3]
set_option maxHeartbeats 1000000 in
theorem of_k (sp gr m n t u : Int) (w : World) (HT : Hid (∀ W, Calls Try.prog 10 #[.agg #[.int .i64 sp, .int .i64 gr], .int .i64 n] W fun e w' => e = .returned (.tuple #[.int .i64 t, .int .i64 0]) ∧ Below W.heap.size W w')) (HU : Hid (∀ W, Calls Try.prog 11 #[.agg #[.int .i64 sp, .int .i64 gr], .int .i64 m, .int .i64 t] W fun e w' => e = .returned (.tuple #[.int .i64 u, .int .i64 0]) ∧ Below W.heap.size W w')) : Calls Try.prog 14 #[.agg #[.int .i64 sp, .int .i64 gr], .int .i64 m, .int .i64 n] w fun e w' => e = .returned (.tuple #[.agg #[.int .i64 1, .int .i64 n, .int .i64 t, .int .i64 u], .int .i64 0]) ∧ Below w.heap.size w w' := by
  go_enter Try.func14, Try.ntmps14
  go_wp2_with fail
  refine (HT.out _).mono ?_
  rintro _ wx1 ⟨rfl, hb⟩
  have P := ((Box.new w 23 #[.int .i64 sp, .int .i64 gr]).alloc _).next hb
  have R := ((Box.new ((w).alloc (.cells #[.int .i64 sp, .int .i64 gr] 23)) 33 #[.int .i64 0, .int .i64 0, .int .i64 0, .int .i64 0])).next hb
  simp only [World.size_alloc] at R
  have hB := below_step (below_box (below_box (Below.refl _ w) _) _) hb
  clear hb
  have cP_0 := P.cell 0 _ rfl
  have cP_1 := P.cell 1 _ rfl
  have lP := P.lt
  have cR_0 := R.cell 0 _ rfl
  have cR_1 := R.cell 1 _ rfl
  have cR_2 := R.cell 2 _ rfl
  have cR_3 := R.cell 3 _ rfl
  have fR_0 := R.frozen 0
  have fR_1 := R.frozen 1
  have fR_2 := R.frozen 2
  have fR_3 := R.frozen 3
  have lR := R.lt
  go_wp2_with fail
  refine (HU.out _).mono ?_
  rintro _ wx2 ⟨rfl, hb⟩
  clear cP_0 cP_1 lP cR_0 cR_1 cR_2 cR_3 fR_0 fR_1 fR_2 fR_3 lR
  replace P := (P).next hb
  replace R := (R).next hb
  replace hB := below_step hB hb
  clear hb
  have cP_0 := P.cell 0 _ rfl
  have cP_1 := P.cell 1 _ rfl
  have lP := P.lt
  have cR_0 := R.cell 0 _ rfl
  have cR_1 := R.cell 1 _ rfl
  have cR_2 := R.cell 2 _ rfl
  have cR_3 := R.cell 3 _ rfl
  have fR_0 := R.frozen 0
  have fR_1 := R.frozen 1
  have fR_2 := R.frozen 2
  have fR_3 := R.frozen 3
  have lR := R.lt
  go_wp2
  refine bodyPost_ret (v := .tuple #[.agg #[.int .i64 1, .int .i64 n, .int .i64 t, .int .i64 u], .int .i64 0]) ?_ rfl ⟨rfl, below_set4 hB (by omega) _ _ _ _⟩
  simp [results, Try.results14, go_sem, cR_0, cR_1, cR_2, cR_3]
theorem of_any (sp gr m n : Int) (w : World) : Calls Try.prog 14 #[.agg #[.int .i64 sp, .int .i64 gr], .int .i64 m, .int .i64 n] w fun e w' => e = .returned (.tuple #[.agg #[.int .i64 (ofV sp gr m n).a, .int .i64 (ofV sp gr m n).b, .int .i64 (ofV sp gr m n).c, .int .i64 (ofV sp gr m n).d], .int .i64 (ofV sp gr m n).e]) ∧ Below w.heap.size w w' := by
  have HT : Hid (∀ W, _) := fun W => tick_any sp gr n W
  have HU : Hid (∀ W, _) := fun W => unit_any sp gr m (tickV sp gr n).v W
  unfold ofV
  generalize tickV sp gr n = x at *
  obtain ⟨t, x⟩ := x
  simp only at HT HU ⊢
  generalize unitV sp gr m t = y at *
  obtain ⟨u, y⟩ := y
  simp only at HU ⊢
  by_cases h1 : x = 0
  · subst h1
    rw [if_pos rfl]
    by_cases h2 : y = 0
    · subst h2
      rw [if_pos rfl]
      exact of_k sp gr m n t u w HT HU
    · rw [if_neg h2]
      exact of_u sp gr m n t u y w HT HU (bne_iff_ne.2 h2)
  · rw [if_neg h1]
    exact of_t sp gr m n t x w HT (bne_iff_ne.2 h1)
set_option maxHeartbeats 1000000 in
theorem rof_t (sp gr m n t x : Int) (w : World) (HT : Hid (∀ W, Calls Try.prog 12 #[.agg #[.int .i64 sp, .int .i64 gr], .int .i64 n] W fun e w' => e = .returned (.tuple #[.int .i64 t, .int .i64 x]) ∧ Below W.heap.size W w')) (h : (x != 0) = true) : Calls Try.prog 15 #[.agg #[.int .i64 sp, .int .i64 gr], .int .i64 m, .int .i64 n] w fun e w' => e = .returned (.tuple #[.agg #[.int .i64 0, .int .i64 0, .int .i64 0, .int .i64 0], .int .i64 x]) ∧ Below w.heap.size w w' := by
  go_enter Try.func15, Try.ntmps15
  go_wp2_with fail
  refine (HT.out _).mono ?_
  rintro _ wx1 ⟨rfl, hb⟩
  have P := ((Box.new w 23 #[.int .i64 sp, .int .i64 gr]).alloc _).next hb
  have R := ((Box.new ((w).alloc (.cells #[.int .i64 sp, .int .i64 gr] 23)) 33 #[.int .i64 0, .int .i64 0, .int .i64 0, .int .i64 0])).next hb
  simp only [World.size_alloc] at R
  have hB := below_step (below_box (below_box (Below.refl _ w) _) _) hb
  clear hb
  have cP_0 := P.cell 0 _ rfl
  have cP_1 := P.cell 1 _ rfl
  have lP := P.lt
  have cR_0 := R.cell 0 _ rfl
  have cR_1 := R.cell 1 _ rfl
  have cR_2 := R.cell 2 _ rfl
  have cR_3 := R.cell 3 _ rfl
  have fR_0 := R.frozen 0
  have fR_1 := R.frozen 1
  have fR_2 := R.frozen 2
  have fR_3 := R.frozen 3
  have lR := R.lt
  go_wp2
  refine bodyPost_ret (v := .tuple #[.agg #[.int .i64 0, .int .i64 0, .int .i64 0, .int .i64 0], .int .i64 x]) ?_ rfl ⟨rfl, below_set4 hB (by omega) _ _ _ _⟩
  simp [results, Try.results15, go_sem, cR_0, cR_1, cR_2, cR_3]
set_option maxHeartbeats 1000000 in
theorem rof_u (sp gr m n t u x : Int) (w : World) (HT : Hid (∀ W, Calls Try.prog 12 #[.agg #[.int .i64 sp, .int .i64 gr], .int .i64 n] W fun e w' => e = .returned (.tuple #[.int .i64 t, .int .i64 0]) ∧ Below W.heap.size W w')) (HU : Hid (∀ W, Calls Try.prog 13 #[.agg #[.int .i64 sp, .int .i64 gr], .int .i64 m, .int .i64 t] W fun e w' => e = .returned (.tuple #[.int .i64 u, .int .i64 x]) ∧ Below W.heap.size W w')) (h : (x != 0) = true) : Calls Try.prog 15 #[.agg #[.int .i64 sp, .int .i64 gr], .int .i64 m, .int .i64 n] w fun e w' => e = .returned (.tuple #[.agg #[.int .i64 0, .int .i64 0, .int .i64 0, .int .i64 0], .int .i64 x]) ∧ Below w.heap.size w w' := by
  go_enter Try.func15, Try.ntmps15
  go_wp2_with fail
  refine (HT.out _).mono ?_
  rintro _ wx1 ⟨rfl, hb⟩
  have P := ((Box.new w 23 #[.int .i64 sp, .int .i64 gr]).alloc _).next hb
  have R := ((Box.new ((w).alloc (.cells #[.int .i64 sp, .int .i64 gr] 23)) 33 #[.int .i64 0, .int .i64 0, .int .i64 0, .int .i64 0])).next hb
  simp only [World.size_alloc] at R
  have hB := below_step (below_box (below_box (Below.refl _ w) _) _) hb
  clear hb
  have cP_0 := P.cell 0 _ rfl
  have cP_1 := P.cell 1 _ rfl
  have lP := P.lt
  have cR_0 := R.cell 0 _ rfl
  have cR_1 := R.cell 1 _ rfl
  have cR_2 := R.cell 2 _ rfl
  have cR_3 := R.cell 3 _ rfl
  have fR_0 := R.frozen 0
  have fR_1 := R.frozen 1
  have fR_2 := R.frozen 2
  have fR_3 := R.frozen 3
  have lR := R.lt
  go_wp2_with fail
  refine (HU.out _).mono ?_
  rintro _ wx2 ⟨rfl, hb⟩
  clear cP_0 cP_1 lP cR_0 cR_1 cR_2 cR_3 fR_0 fR_1 fR_2 fR_3 lR
  replace P := (P).next hb
  replace R := (R).next hb
  replace hB := below_step hB hb
  clear hb
  have cP_0 := P.cell 0 _ rfl
  have cP_1 := P.cell 1 _ rfl
  have lP := P.lt
  have cR_0 := R.cell 0 _ rfl
  have cR_1 := R.cell 1 _ rfl
  have cR_2 := R.cell 2 _ rfl
  have cR_3 := R.cell 3 _ rfl
  have fR_0 := R.frozen 0
  have fR_1 := R.frozen 1
  have fR_2 := R.frozen 2
  have fR_3 := R.frozen 3
  have lR := R.lt
  go_wp2
  refine bodyPost_ret (v := .tuple #[.agg #[.int .i64 0, .int .i64 0, .int .i64 0, .int .i64 0], .int .i64 x]) ?_ rfl ⟨rfl, below_set4 hB (by omega) _ _ _ _⟩
  simp [results, Try.results15, go_sem, cR_0, cR_1, cR_2, cR_3]
set_option maxHeartbeats 1000000 in
theorem rof_k (sp gr m n t u : Int) (w : World) (HT : Hid (∀ W, Calls Try.prog 12 #[.agg #[.int .i64 sp, .int .i64 gr], .int .i64 n] W fun e w' => e = .returned (.tuple #[.int .i64 t, .int .i64 0]) ∧ Below W.heap.size W w')) (HU : Hid (∀ W, Calls Try.prog 13 #[.agg #[.int .i64 sp, .int .i64 gr], .int .i64 m, .int .i64 t] W fun e w' => e = .returned (.tuple #[.int .i64 u, .int .i64 0]) ∧ Below W.heap.size W w')) : Calls Try.prog 15 #[.agg #[.int .i64 sp, .int .i64 gr], .int .i64 m, .int .i64 n] w fun e w' => e = .returned (.tuple #[.agg #[.int .i64 1, .int .i64 n, .int .i64 t, .int .i64 u], .int .i64 0]) ∧ Below w.heap.size w w' := by
  go_enter Try.func15, Try.ntmps15
  go_wp2_with fail
  refine (HT.out _).mono ?_
  rintro _ wx1 ⟨rfl, hb⟩
  have P := ((Box.new w 23 #[.int .i64 sp, .int .i64 gr]).alloc _).next hb
  have R := ((Box.new ((w).alloc (.cells #[.int .i64 sp, .int .i64 gr] 23)) 33 #[.int .i64 0, .int .i64 0, .int .i64 0, .int .i64 0])).next hb
  simp only [World.size_alloc] at R
  have hB := below_step (below_box (below_box (Below.refl _ w) _) _) hb
  clear hb
  have cP_0 := P.cell 0 _ rfl
  have cP_1 := P.cell 1 _ rfl
  have lP := P.lt
  have cR_0 := R.cell 0 _ rfl
  have cR_1 := R.cell 1 _ rfl
  have cR_2 := R.cell 2 _ rfl
  have cR_3 := R.cell 3 _ rfl
  have fR_0 := R.frozen 0
  have fR_1 := R.frozen 1
  have fR_2 := R.frozen 2
  have fR_3 := R.frozen 3
  have lR := R.lt
  go_wp2_with fail
  refine (HU.out _).mono ?_
  rintro _ wx2 ⟨rfl, hb⟩
  clear cP_0 cP_1 lP cR_0 cR_1 cR_2 cR_3 fR_0 fR_1 fR_2 fR_3 lR
  replace P := (P).next hb
  replace R := (R).next hb
  replace hB := below_step hB hb
  clear hb
  have cP_0 := P.cell 0 _ rfl
  have cP_1 := P.cell 1 _ rfl
  have lP := P.lt
  have cR_0 := R.cell 0 _ rfl
  have cR_1 := R.cell 1 _ rfl
  have cR_2 := R.cell 2 _ rfl
  have cR_3 := R.cell 3 _ rfl
  have fR_0 := R.frozen 0
  have fR_1 := R.frozen 1
  have fR_2 := R.frozen 2
  have fR_3 := R.frozen 3
  have lR := R.lt
  go_wp2
  refine bodyPost_ret (v := .tuple #[.agg #[.int .i64 1, .int .i64 n, .int .i64 t, .int .i64 u], .int .i64 0]) ?_ rfl ⟨rfl, below_set4 hB (by omega) _ _ _ _⟩
  simp [results, Try.results15, go_sem, cR_0, cR_1, cR_2, cR_3]
theorem rof_any (sp gr m n : Int) (w : World) : Calls Try.prog 15 #[.agg #[.int .i64 sp, .int .i64 gr], .int .i64 m, .int .i64 n] w fun e w' => e = .returned (.tuple #[.agg #[.int .i64 (ofV sp gr m n).a, .int .i64 (ofV sp gr m n).b, .int .i64 (ofV sp gr m n).c, .int .i64 (ofV sp gr m n).d], .int .i64 (ofV sp gr m n).e]) ∧ Below w.heap.size w w' := by
  have HT : Hid (∀ W, _) := fun W => rtick_any sp gr n W
  have HU : Hid (∀ W, _) := fun W => runit_any sp gr m (tickV sp gr n).v W
  unfold ofV
  generalize tickV sp gr n = x at *
  obtain ⟨t, x⟩ := x
  simp only at HT HU ⊢
  generalize unitV sp gr m t = y at *
  obtain ⟨u, y⟩ := y
  simp only at HU ⊢
  by_cases h1 : x = 0
  · subst h1
    rw [if_pos rfl]
    by_cases h2 : y = 0
    · subst h2
      rw [if_pos rfl]
      exact rof_k sp gr m n t u w HT HU
    · rw [if_neg h2]
      exact rof_u sp gr m n t u y w HT HU (bne_iff_ne.2 h2)
  · rw [if_neg h1]
    exact rof_t sp gr m n t x w HT (bne_iff_ne.2 h1)

end Go.Proofs.Ytdlkpohjeedbiaa
