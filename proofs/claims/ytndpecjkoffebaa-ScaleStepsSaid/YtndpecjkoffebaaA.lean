/- Contracts of the callees of layer 42 (scale): num.CeilDiv, num.Clamp, Check and the reference's Check. -/
import Derived.Test.YtndpecjkoffebaaG
import Derived.IntWalk
namespace Go.Proofs.Ytndpecjkoffebaa
open Go.ChangeShapes Go.WideShapes Go.ChangeAt Go.RowKit

theorem ret_int {a b : Int} (h : a = b) : Ending.returned (.int .i64 a) = .returned (.int .i64 b) := by rw [h]
theorem ret_bool {a b : Bool} (h : a = b) : Ending.returned (.bool a) = .returned (.bool b) := by rw [h]

def clampI (n lo hi : Int) : Int := if n < lo then lo else if hi < n then hi else n
theorem clamp_any (n lo hi : Int) (w : World) :
    Calls Try.prog 23 #[.int .i64 n, .int .i64 lo, .int .i64 hi] w fun e w' => e = .returned (.int .i64 (clampI n lo hi)) ∧ w = w' := by
  by_cases h1 : n < lo
  · have e : clampI n lo hi = lo := by simp [clampI, h1]
    rw [e]; clear e
    go_enter Try.func23, Try.ntmps23
    go_wp2
    go_ret
    exact ⟨rfl, rfl⟩
  · by_cases h2 : hi < n
    · have e : clampI n lo hi = hi := by simp [clampI, h1, h2]
      rw [e]; clear e
      go_enter Try.func23, Try.ntmps23
      go_wp2
      go_ret
      exact ⟨rfl, rfl⟩
    · have e : clampI n lo hi = n := by simp [clampI, h1, h2]
      rw [e]; clear e
      go_enter Try.func23, Try.ntmps23
      go_wp2
      go_ret
      exact ⟨rfl, rfl⟩

theorem cin_yes (n lo hi : Int) (w : World) (h1 : lo ≤ n) (h2 : n ≤ hi) :
    Calls Try.prog 29 #[.int .i64 n, .int .i64 lo, .int .i64 hi] w fun e w' => e = .returned (.bool true) ∧ w = w' := by
  go_enter Try.func29, Try.ntmps29
  go_wp2
  go_ret
  exact ⟨rfl, rfl⟩
theorem cin_no (n lo hi : Int) (w : World) (h : n < lo ∨ hi < n) :
    Calls Try.prog 29 #[.int .i64 n, .int .i64 lo, .int .i64 hi] w fun e w' => e = .returned (.bool false) ∧ w = w' := by
  by_cases h1 : n < lo
  · clear h
    go_enter Try.func29, Try.ntmps29
    go_wp2
    go_ret
    exact ⟨rfl, rfl⟩
  · have h2 : hi < n := by omega
    have h3 : lo ≤ n := by omega
    clear h h1
    go_enter Try.func29, Try.ntmps29
    go_wp2
    go_ret
    exact ⟨ret_bool (by simp; omega), rfl⟩
theorem rin_yes (n lo hi : Int) (w : World) (h1 : lo ≤ n) (h2 : n ≤ hi) :
    Calls Try.prog 24 #[.int .i64 n, .int .i64 lo, .int .i64 hi] w fun e w' => e = .returned (.bool true) ∧ w = w' := by
  go_enter Try.func24, Try.ntmps24
  go_wp2
  go_ret
  exact ⟨rfl, rfl⟩
theorem rin_no (n lo hi : Int) (w : World) (h : n < lo ∨ hi < n) :
    Calls Try.prog 24 #[.int .i64 n, .int .i64 lo, .int .i64 hi] w fun e w' => e = .returned (.bool false) ∧ w = w' := by
  by_cases h1 : n < lo
  · clear h
    go_enter Try.func24, Try.ntmps24
    go_wp2
    go_ret
    exact ⟨rfl, rfl⟩
  · have h2 : hi < n := by omega
    have h3 : lo ≤ n := by omega
    clear h h1
    go_enter Try.func24, Try.ntmps24
    go_wp2
    go_ret
    exact ⟨ret_bool (by simp; omega), rfl⟩
theorem lesser_any (a b : Int) (w : World) :
    Calls Try.prog 28 #[.int .i64 a, .int .i64 b] w fun e w' => e = .returned (.int .i64 (min a b)) ∧ w = w' := by
  by_cases h : a < b
  · rw [show min a b = a by omega]
    go_enter Try.func28, Try.ntmps28
    go_wp2
    go_ret
    exact ⟨rfl, rfl⟩
  · rw [show min a b = b by omega]
    go_enter Try.func28, Try.ntmps28
    go_wp2
    go_ret
    exact ⟨rfl, rfl⟩

theorem valid1 (n : Int) (w : World) (h1 : -1000000000000 ≤ n) (h2 : n ≤ 1000000000000) :
    Calls Try.prog 33 #[.int .i64 n] w fun e w' => e = .returned (.bool true) ∧ w = w' := by
  go_enter Try.func33, Try.ntmps33
  go_wp2
  go_ret
  exact ⟨rfl, rfl⟩

def two (x y : Int) (k : Nat) : Int := if k = 0 then x else y
set_option maxHeartbeats 400000 in
theorem valid2 (b : Nat) (x y : Int) (w : World) (hx : w.cell? ⟨b, 0, none⟩ = some (.int .i64 x)) (hy : w.cell? ⟨b, 1, none⟩ = some (.int .i64 y))
    (h1 : -1000000000000 ≤ x) (h2 : x ≤ 1000000000000) (h3 : -1000000000000 ≤ y) (h4 : y ≤ 1000000000000) :
    Calls Try.prog 32 #[.slice (some ⟨b, 0, none⟩) 2 2] w fun e w' => e = .returned (.bool true) ∧ w = w' := by
  have hc : Hid (∀ k : Nat, k < 2 → w.cell? ⟨b, k, none⟩ = some (.int .i64 (two x y k))) := fun k hk => by
    rcases k with _ | _ | k
    · exact hx
    · exact hy
    · omega
  clear hx hy
  go_enter Try.func32, Try.ntmps32
  go_wp2
  go_loop [7] (fun i => ∃ k : Nat, k ≤ 2 ∧ i = .int .i64 k) (fun i => 2 - (intOf i).toNat)
  case atStart => exact ⟨0, Nat.zero_le _, rfl⟩
  case round =>
    obtain ⟨k, hk, rfl⟩ := hrel
    by_cases hlt : k < 2
    · have hck := hc.out k hlt
      have b1 : -1000000000000 ≤ two x y k := by unfold two; split <;> omega
      have b2 : two x y k ≤ 1000000000000 := by unfold two; split <;> omega
      go_wp2_with (go_at_call 33; refine (valid1 _ _ (by omega) (by omega)).mono ?_; rintro e w' ⟨rfl, rfl⟩)
      go_round
      case rel => exact ⟨k + 1, by omega, by go_num⟩
      case measure => simp [intOf]; omega
    · go_wp2
      go_ret
      exact ⟨rfl, rfl⟩

/-- The quotient, rounded up. -/
def ceilI (a b : Int) : Int := (a + b - 1) / b
theorem ceil_eq0 (a b : Int) (hb : 1 ≤ b) (h : a % b = 0) : a / b = ceilI a b := by
  unfold ceilI
  have e1 := Int.mul_ediv_add_emod a b
  rw [h, Int.add_zero] at e1
  have e0 : (b - 1) / b = 0 := Int.ediv_eq_zero_of_lt (by omega) (by omega)
  have e2 : (a + b - 1) / b = ((b - 1) + b * (a / b)) / b := by congr 1; omega
  rw [e2, Int.add_mul_ediv_left _ _ (by omega), e0]
  omega
theorem ceil_eq1 (a b : Int) (hb : 1 ≤ b) (h : a % b ≠ 0) : a / b + 1 = ceilI a b := by
  unfold ceilI
  have e1 := Int.mul_ediv_add_emod a b
  have e3 := Int.emod_nonneg a (b := b) (by omega)
  have e4 := Int.emod_lt_of_pos a (b := b) (by omega)
  have e0 : (a % b - 1) / b = 0 := Int.ediv_eq_zero_of_lt (by omega) (by omega)
  have e2 : (a + b - 1) / b = ((a % b - 1) + b * (a / b + 1)) / b := by congr 1; rw [Int.mul_add, Int.mul_one]; omega
  rw [e2, Int.add_mul_ediv_left _ _ (by omega), e0]
  omega

set_option maxHeartbeats 1000000 in
theorem divmod_any (a b : Int) (w : World) (h1 : 0 ≤ a) (h2 : a ≤ 1000000000000) (h3 : 1 ≤ b) (h4 : b ≤ 1000000000000) :
    Calls Try.prog 31 #[.int .i64 a, .int .i64 b] w fun e w' => e = .returned (.tuple #[.int .i64 (a / b), .int .i64 (a % b), .int .i64 0]) ∧ Below w.heap.size w w' := by
  have q1 : 0 ≤ a / b := Int.ediv_nonneg h1 (by omega)
  have q2 : a / b ≤ a := Int.ediv_le_self _ h1
  have r1 : 0 ≤ a % b := Int.emod_nonneg _ (by omega)
  have r2 : a % b < b := Int.emod_lt_of_pos _ (by omega)
  have z : (b == 0) = false := beq_eq_false_iff_ne.2 (by omega)
  have z2 : decide (b < 0) = false := by simp; omega
  have z3 : decide (a % b < 0) = false := by simp; omega
  have hq : a.tdiv b = a / b := Int.tdiv_eq_ediv_of_nonneg h1
  have hr : a.tmod b = a % b := Int.tmod_eq_emod_of_nonneg h1
  have z4 : (a % b != 0) = true ∨ (a % b != 0) = false := by cases (a % b != 0) <;> simp
  rcases z4 with z4 | z4
  all_goals
    go_enter Try.func31, Try.ntmps31
    go_wp2_with (go_at_call 32; refine (valid2 _ a b _ (by simp [go_sem]) (by simp [go_sem]) (by omega) (by omega) (by omega) (by omega)).mono ?_; rintro e w' ⟨rfl, rfl⟩)
    go_region
    all_goals
      go_wp2
      refine bodyPost_ret (v := .tuple #[.int .i64 (a / b), .int .i64 (a % b), .int .i64 0]) (by simp [results, Try.results31, go_sem]) rfl ⟨rfl, ?_⟩
      repeat' (first | (with_reducible exact Below.refl _ _) | (with_reducible refine Below.alloc ?_ ?_ _) | (with_reducible refine Below.drew ?_) | (simp; done))

set_option maxHeartbeats 1000000 in
theorem ceil_any (a b : Int) (w : World) (h1 : 0 ≤ a) (h2 : a ≤ 1000000000000) (h3 : 1 ≤ b) (h4 : b ≤ 1000000000000) :
    Calls Try.prog 22 #[.int .i64 a, .int .i64 b] w fun e w' => e = .returned (.tuple #[.int .i64 (ceilI a b), .int .i64 0]) ∧ Below w.heap.size w w' := by
  have H : Hid _ := fun W => divmod_any a b W h1 h2 h3 h4
  have q1 : 0 ≤ a / b := Int.ediv_nonneg h1 (by omega)
  have q2 : a / b ≤ a := Int.ediv_le_self _ h1
  by_cases r0 : a % b = 0
  · rw [← ceil_eq0 a b h3 r0]
    rw [r0] at H
    generalize a / b = q at *
    clear r0
    go_enter Try.func22, Try.ntmps22
    go_wp2_with (go_at_call 31; refine (H.out _).mono ?_; rintro e w' ⟨rfl, hb⟩)
    go_ret2
    exact ⟨rfl, hb⟩
  · rw [← ceil_eq1 a b h3 r0]
    generalize a / b = q at *
    generalize a % b = r at *
    have r1 : (r != 0) = true := by rw [bne_iff_ne]; exact r0
    clear r0
    go_enter Try.func22, Try.ntmps22
    go_wp2_with (go_at_call 31; refine (H.out _).mono ?_; rintro e w' ⟨rfl, hb⟩)
    go_ret2
    exact ⟨rfl, hb⟩
end Go.Proofs.Ytndpecjkoffebaa
