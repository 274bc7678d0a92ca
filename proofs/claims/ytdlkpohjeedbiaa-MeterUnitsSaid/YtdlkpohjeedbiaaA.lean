/- Contracts of the callees of layer 34 (meter): of num and of faasref01. -/
import Derived.Test.YtdlkpohjeedbiaaDX
import Derived.Test.YtdlkpohjeedbiaaY
import Derived.Test.YtdlkpohjeedbiaaX
import Derived.WalkLawsBesides
namespace Go.Proofs.Ytdlkpohjeedbiaa
open Go.ChangeShapes Go.WideShapes Go.ChangeAt Go.RowKit

theorem ret_bool {a b : Bool} (h : a = b) : Ending.returned (.bool a) = .returned (.bool b) := by rw [h]
theorem ret_int {a b : Int} (h : a = b) : Ending.returned (.int .i64 a) = .returned (.int .i64 b) := by rw [h]

theorem btw_yes (n lo hi : Int) (w : World) (h1 : lo ≤ n) (h2 : n ≤ hi) : Calls Try.prog 23 #[.int .i64 n, .int .i64 lo, .int .i64 hi] w fun e w' => e = .returned (.bool true) ∧ w = w' := by
  go_enter Try.func23, Try.ntmps23
  go_wp2
  go_ret
  exact ⟨rfl, rfl⟩
theorem btw_no (n lo hi : Int) (w : World) (h : n < lo ∨ (lo ≤ n ∧ hi < n)) : Calls Try.prog 23 #[.int .i64 n, .int .i64 lo, .int .i64 hi] w fun e w' => e = .returned (.bool false) ∧ w = w' := by
  rcases h with h | ⟨h, h2⟩
  all_goals
    go_enter Try.func23, Try.ntmps23
    go_wp2
    go_ret
    exact ⟨ret_bool (by first | rfl | (simp; done) | (simp; omega)), rfl⟩
theorem v01_yes (n : Int) (w : World) (h1 : -1000000000000 ≤ n) (h2 : n ≤ 1000000000000) : Calls Try.prog 34 #[.int .i64 n] w fun e w' => e = .returned (.bool true) ∧ w = w' := by
  go_enter Try.func34, Try.ntmps34
  go_wp2
  go_ret
  exact ⟨rfl, rfl⟩
theorem v01_no (n : Int) (w : World) (h : n < -1000000000000 ∨ (-1000000000000 ≤ n ∧ 1000000000000 < n)) : Calls Try.prog 34 #[.int .i64 n] w fun e w' => e = .returned (.bool false) ∧ w = w' := by
  rcases h with h | ⟨h, h2⟩
  all_goals
    go_enter Try.func34, Try.ntmps34
    go_wp2
    go_ret
    exact ⟨ret_bool (by first | rfl | (simp; done) | (simp; omega)), rfl⟩
theorem amt_yes (n : Int) (w : World) (h1 : 0 ≤ n) (h2 : n ≤ 1000000000000) : Calls Try.prog 26 #[.int .i64 n] w fun e w' => e = .returned (.bool true) ∧ w = w' := by
  go_enter Try.func26, Try.ntmps26
  go_wp2_with (go_at_call 34; refine (v01_yes _ _ (by omega) (by omega)).mono ?_; rintro e w' ⟨rfl, rfl⟩)
  go_ret
  exact ⟨rfl, rfl⟩
theorem amt_no (n : Int) (w : World) (h : n < 0 ∨ (0 ≤ n ∧ 1000000000000 < n)) : Calls Try.prog 26 #[.int .i64 n] w fun e w' => e = .returned (.bool false) ∧ w = w' := by
  rcases h with h | ⟨h, h2⟩
  all_goals
    go_enter Try.func26, Try.ntmps26
    go_wp2_with (go_at_call 34; refine (v01_no _ _ (by omega)).mono ?_; rintro e w' ⟨rfl, rfl⟩)
    go_ret
    exact ⟨ret_bool (by first | rfl | (simp; omega)), rfl⟩
theorem v_yes (n : Int) (w : World) (h1 : -1000000000000 ≤ n) (h2 : n ≤ 1000000000000) : Calls Try.prog 38 #[.int .i64 n] w fun e w' => e = .returned (.bool true) ∧ w = w' := by
  go_enter Try.func38, Try.ntmps38
  go_wp2
  go_ret
  exact ⟨rfl, rfl⟩
theorem abs_nn (n : Int) (w : World) (h1 : 0 ≤ n) : Calls Try.prog 35 #[.int .i64 n] w fun e w' => e = .returned (.int .i64 n) ∧ w = w' := by
  go_enter Try.func35, Try.ntmps35
  go_wp2
  go_ret
  exact ⟨rfl, rfl⟩
theorem res_yes (n : Int) (w : World) (h1 : -1000000000000 ≤ n) (h2 : n ≤ 1000000000000) : Calls Try.prog 36 #[.int .i64 n] w fun e w' => e = .returned (.tuple #[.int .i64 n, .int .i64 0]) ∧ w = w' := by
  go_enter Try.func36, Try.ntmps36
  go_wp2_with (go_at_call 34; refine (v01_yes _ _ (by omega) (by omega)).mono ?_; rintro e w' ⟨rfl, rfl⟩)
  go_ret2
  exact ⟨rfl, rfl⟩
theorem carry_any (q r c : Int) (w : World) (h1 : 0 ≤ r) (h2 : r < 2 * c) (h3 : 1 ≤ c) (h4 : c ≤ 1000000000000) (h5 : 0 ≤ q) (h6 : q ≤ 1000000000000000) : Calls Try.prog 37 #[.int .i64 q, .int .i64 r, .int .i64 c] w fun e w' => e = .returned (.tuple #[.int .i64 (q + r / c), .int .i64 (r % c)]) ∧ w = w' := by
  by_cases h : c ≤ r
  · have e1 : r / c = 1 := by
      rw [show r = (r - c) + c * 1 by omega, Int.add_mul_ediv_left _ _ (by omega), Int.ediv_eq_zero_of_lt (by omega) (by omega)]; rfl
    have e2 : r % c = r - c := by
      have := Int.mul_ediv_add_emod r c
      rw [e1] at this
      omega
    rw [e1, e2]
    clear e1 e2
    go_enter Try.func37, Try.ntmps37
    go_wp2
    go_ret2
    exact ⟨rfl, rfl⟩
  · have e1 : r / c = 0 := Int.ediv_eq_zero_of_lt (by omega) (by omega)
    have e2 : r % c = r := Int.emod_eq_of_lt (by omega) (by omega)
    rw [e1, e2, Int.add_zero]
    clear e1 e2
    go_enter Try.func37, Try.ntmps37
    go_wp2
    go_ret2
    exact ⟨rfl, rfl⟩
theorem left_any (a b c : Int) (w : World) (h1 : 0 ≤ a) (h2 : a ≤ 1000000000) (h3 : 0 ≤ b) (h4 : b ≤ 1000000000) (h5 : 1 ≤ c) : Calls Try.prog 29 #[.int .i64 a, .int .i64 b, .int .i64 c] w fun e w' => e = .returned (.bool (a * b % c != 0)) ∧ w = w' := by
  have k1 := Int.mul_nonneg h1 h3
  have k2 : a * b ≤ 1000000000 * 1000000000 := Int.mul_le_mul h2 h4 h3 (by omega)
  have z : (c == 0) = false := beq_eq_false_iff_ne.2 (by omega)
  go_enter Try.func29, Try.ntmps29
  go_wp2
  go_ret
  exact ⟨rfl, rfl⟩

set_option maxHeartbeats 400000 in
theorem valid_yes (A : Option Addr) (n cap : Nat) (zs : List Int) (w : World) (hn : zs.length = n) (hs : Seg w A n (ints zs)) (hall : ∀ x ∈ zs, -1000000000000 ≤ x ∧ x ≤ 1000000000000) (hb : n ≤ 1000) :
    Calls Try.prog 31 #[.slice A n cap] w fun e w' => e = .returned (.bool true) ∧ w = w' := by
  have HN := Lib.hid hn
  have HS := Lib.hid hs
  have HA := Lib.hid hall
  clear hn hs hall
  go_enter Try.func31, Try.ntmps31
  go_wp2
  go_loop [7] (fun i => ∃ k : Nat, k ≤ n ∧ i = .int .i64 k) (fun i => n - (intOf i).toNat)
  case atStart => exact ⟨0, Nat.zero_le _, rfl⟩
  case round =>
    obtain ⟨k, hk, rfl⟩ := hrel
    by_cases hlt : k < n
    · obtain ⟨b1, o1, rfl, _, hc1⟩ := HS.out k hlt
      have hx := HA.out (zs.getD k 0) (by rw [List.getD_eq_getElem?_getD, List.getElem?_eq_getElem (by rw [HN.out]; exact hlt)]; exact List.getElem_mem _)
      replace hc1 : w.cell? ⟨b1, o1 + k, none⟩ = some (.int .i64 (zs.getD k 0)) := hc1
      generalize zs.getD k 0 = x at *
      obtain ⟨hx1, hx2⟩ := hx
      go_wp2_with (go_at_call 38; refine (v_yes _ _ (by omega) (by omega)).mono ?_; rintro e w' ⟨rfl, rfl⟩)
      go_round
      case rel => exact ⟨k + 1, by omega, by go_num⟩
      case measure => simp [intOf]; omega
    · go_wp2
      go_ret
      exact ⟨rfl, rfl⟩
theorem seg_of_box {w : World} {b : Nat} {t : TypeId} {zs : List Int} (h : Box w b t (zs.map (Value.int .i64)).toArray) : Seg w (some ⟨b, 0, none⟩) zs.length (ints zs) := fun k hk =>
  ⟨b, 0, rfl, h.lt, by rw [Nat.zero_add]; exact h.cell k _ (by simp [ints, List.getD, hk])⟩
theorem valid2 (a b : Int) (w : World) (g : Nat) (h : Box w g 3 #[.int .i64 a, .int .i64 b]) (h1 : -1000000000000 ≤ a) (h2 : a ≤ 1000000000000) (h3 : -1000000000000 ≤ b) (h4 : b ≤ 1000000000000) :
    Calls Try.prog 31 #[.slice (some ⟨g, 0, none⟩) 2 2] w fun e w' => e = .returned (.bool true) ∧ w = w' :=
  valid_yes _ 2 2 [a, b] w rfl (seg_of_box (zs := [a, b]) h) (by simp; omega) (by omega)
theorem valid3 (a b c : Int) (w : World) (g : Nat) (h : Box w g 3 #[.int .i64 a, .int .i64 b, .int .i64 c]) (h1 : -1000000000000 ≤ a) (h2 : a ≤ 1000000000000) (h3 : -1000000000000 ≤ b) (h4 : b ≤ 1000000000000) (h5 : -1000000000000 ≤ c) (h6 : c ≤ 1000000000000) :
    Calls Try.prog 31 #[.slice (some ⟨g, 0, none⟩) 3 3] w fun e w' => e = .returned (.bool true) ∧ w = w' :=
  valid_yes _ 3 3 [a, b, c] w rfl (seg_of_box (zs := [a, b, c]) h) (by simp; omega) (by omega)

/-- The quotient, rounded up. -/
def ceilI (a b : Int) : Int := (a + b - 1) / b
theorem ceil_eq0 (a b : Int) (hb : 1 ≤ b) (h : a % b = 0) : a / b = ceilI a b := by
  unfold ceilI
  have e1 := Int.mul_ediv_add_emod a b
  rw [h, Int.add_zero] at e1
  have e0 : (b - 1) / b = 0 := Int.ediv_eq_zero_of_lt (by omega) (by omega)
  have e2 : (a + b - 1) / b = ((b - 1) + b * (a / b)) / b := by congr 1; omega
  rw [e2, Int.add_mul_ediv_left _ _ (by omega), e0]
  omega
theorem ceil_eq1 (a b : Int) (hb : 1 ≤ b) (h : a % b ≠ 0) : a / b + 1 = ceilI a b := by
  unfold ceilI
  have e1 := Int.mul_ediv_add_emod a b
  have e3 := Int.emod_nonneg a (b := b) (by omega)
  have e4 := Int.emod_lt_of_pos a (b := b) (by omega)
  have e0 : (a % b - 1) / b = 0 := Int.ediv_eq_zero_of_lt (by omega) (by omega)
  have e2 : (a + b - 1) / b = ((a % b - 1) + b * (a / b + 1)) / b := by congr 1; rw [Int.mul_add, Int.mul_one]; omega
  rw [e2, Int.add_mul_ediv_left _ _ (by omega), e0]
  omega

set_option maxHeartbeats 1000000 in
theorem divmod_any (a b : Int) (w : World) (h1 : 0 ≤ a) (h2 : a ≤ 1000000000000) (h3 : 1 ≤ b) (h4 : b ≤ 1000000000000) :
    Calls Try.prog 30 #[.int .i64 a, .int .i64 b] w fun e w' => e = .returned (.tuple #[.int .i64 (a / b), .int .i64 (a % b), .int .i64 0]) ∧ Below w.heap.size w w' := by
  have q1 : 0 ≤ a / b := Int.ediv_nonneg h1 (by omega)
  have q2 : a / b ≤ a := Int.ediv_le_self _ h1
  have r1 : 0 ≤ a % b := Int.emod_nonneg _ (by omega)
  have r2 : a % b < b := Int.emod_lt_of_pos _ (by omega)
  have z : (b == 0) = false := beq_eq_false_iff_ne.2 (by omega)
  have z2 : decide (b < 0) = false := by simp; omega
  have z3 : decide (a % b < 0) = false := by simp; omega
  have hq : a.tdiv b = a / b := Int.tdiv_eq_ediv_of_nonneg h1
  have hr : a.tmod b = a % b := Int.tmod_eq_emod_of_nonneg h1
  have z4 : (a % b != 0) = true ∨ (a % b != 0) = false := by cases (a % b != 0) <;> simp
  have hv := valid2 a b (w.alloc (.cells #[.int .i64 a, .int .i64 b] 3)) w.heap.size (Box.new _ _ _) (by omega) (by omega) (by omega) (by omega)
  have HV := Lib.hid hv
  clear hv
  rcases z4 with z4 | z4
  all_goals
    go_enter Try.func30, Try.ntmps30
    go_wp2_with (go_at_call 31; refine HV.out.mono ?_; rintro e w' ⟨rfl, rfl⟩)
    go_region
    all_goals
      go_wp2
      refine bodyPost_ret (v := .tuple #[.int .i64 (a / b), .int .i64 (a % b), .int .i64 0]) (by simp [results, Try.results30, go_sem]) rfl ⟨rfl, ?_⟩
      repeat' (first | (with_reducible exact Below.refl _ _) | (with_reducible refine Below.alloc ?_ ?_ _) | (with_reducible refine Below.drew ?_) | (simp; done))

set_option maxHeartbeats 1000000 in
theorem ceil_any (a b : Int) (w : World) (h1 : 0 ≤ a) (h2 : a ≤ 1000000000000) (h3 : 1 ≤ b) (h4 : b ≤ 1000000000000) :
    Calls Try.prog 24 #[.int .i64 a, .int .i64 b] w fun e w' => e = .returned (.tuple #[.int .i64 (ceilI a b), .int .i64 0]) ∧ Below w.heap.size w w' := by
  have H : Hid _ := fun W => divmod_any a b W h1 h2 h3 h4
  have q1 : 0 ≤ a / b := Int.ediv_nonneg h1 (by omega)
  have q2 : a / b ≤ a := Int.ediv_le_self _ h1
  by_cases r0 : a % b = 0
  · rw [← ceil_eq0 a b h3 r0]
    rw [r0] at H
    generalize a / b = q at *
    clear r0
    go_enter Try.func24, Try.ntmps24
    go_wp2_with (go_at_call 30; refine (H.out _).mono ?_; rintro e w' ⟨rfl, hb⟩)
    go_ret2
    exact ⟨rfl, hb⟩
  · rw [← ceil_eq1 a b h3 r0]
    generalize a / b = q at *
    generalize a % b = r at *
    have r1 : (r != 0) = true := by rw [bne_iff_ne]; exact r0
    clear r0
    go_enter Try.func24, Try.ntmps24
    go_wp2_with (go_at_call 30; refine (H.out _).mono ?_; rintro e w' ⟨rfl, hb⟩)
    go_ret2
    exact ⟨rfl, hb⟩
end Go.Proofs.Ytdlkpohjeedbiaa
