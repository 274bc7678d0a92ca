/- Contracts of MulDiv of layer 34 (meter): of num's, and of Mul and MulDiv of faasref01. -/
import Derived.Test.YtdlkpohjeedbiaaA
namespace Go.Proofs.Ytdlkpohjeedbiaa
open Go.ChangeShapes Go.WideShapes Go.ChangeAt Go.RowKit

structure N2 where
  v : Int
  e : Int
def mdV (a b c : Int) : N2 := if a * b / c ≤ 1000000000000 then ⟨a * b / c, 0⟩ else ⟨0, 8⟩

theorem mul64_int (a b : Int) (w : World) (h1 : 0 ≤ a) (h2 : a < 18446744073709551616) (h3 : 0 ≤ b) (h4 : b < 18446744073709551616) :
    Calls Try.prog 32 #[.int .u64 a, .int .u64 b] w fun e w' => e = .returned (.tuple #[.int .u64 (a * b / 18446744073709551616), .int .u64 (a * b % 18446744073709551616)]) ∧ w = w' := by
  obtain ⟨x, rfl⟩ := Int.eq_ofNat_of_zero_le h1
  obtain ⟨y, rfl⟩ := Int.eq_ofNat_of_zero_le h3
  exact (Try.bits_Mul64 x y (by omega) (by omega) w).mono fun e w' ⟨he, hw⟩ => ⟨by rw [he, Int.natCast_ediv, Int.natCast_emod, Int.natCast_mul]; rfl, hw.symm⟩

set_option maxHeartbeats 1000000 in
theorem md_over (a b c : Int) (w : World) (h1 : 0 ≤ a) (h2 : a ≤ 1000000000000) (h3 : 0 ≤ b) (h4 : b ≤ 1000000000000) (h5 : 1 ≤ c) (h6 : c ≤ 1000000000000) (h : c ≤ a * b / 18446744073709551616) :
    Calls Try.prog 25 #[.int .i64 a, .int .i64 b, .int .i64 c] w fun e w' => e = .returned (.tuple #[.int .i64 0, .int .i64 8]) ∧ Below w.heap.size w w' := by
  have z : (c == 0) = false := beq_eq_false_iff_ne.2 (by omega)
  have hv := Lib.hid (valid3 a b c (w.alloc (.cells #[.int .i64 a, .int .i64 b, .int .i64 c] 3)) w.heap.size (Box.new _ _ _) (by omega) (by omega) (by omega) (by omega) (by omega) (by omega))
  have HM : Hid (∀ W, _) := fun W => mul64_int a b W h1 (by omega) h3 (by omega)
  generalize a * b / 18446744073709551616 = hi at *
  generalize a * b % 18446744073709551616 = lo at *
  go_enter Try.func25, Try.ntmps25
  go_wp2_with (first | (go_at_call 31; refine hv.out.mono ?_; rintro e w' ⟨rfl, rfl⟩) | (go_at_call 32; refine (HM.out _).mono ?_; rintro e w' ⟨rfl, rfl⟩))
  all_goals
    go_ret2
    exact ⟨rfl, (Below.refl _ w).alloc (Nat.le_refl _) _⟩

set_option maxHeartbeats 1000000 in
theorem md_core (a b c hi lo q r : Int) (w : World) (h1 : 0 ≤ a) (h2 : a ≤ 1000000000000) (h3 : 0 ≤ b) (h4 : b ≤ 1000000000000) (h5 : 1 ≤ c) (h6 : c ≤ 1000000000000) (h : hi < c) (h7 : 0 ≤ q)
    (HM : Hid (∀ W, Calls Try.prog 32 #[.int .u64 a, .int .u64 b] W fun e w' => e = .returned (.tuple #[.int .u64 hi, .int .u64 lo]) ∧ W = w')) (HD : Hid (∀ W, Calls Try.prog 33 #[.int .u64 hi, .int .u64 lo, .int .u64 c] W fun e w' => e = .returned (.tuple #[.int .u64 q, .int .u64 r]) ∧ Below W.heap.size W w')) :
    Calls Try.prog 25 #[.int .i64 a, .int .i64 b, .int .i64 c] w fun e w' => e = .returned (.tuple #[.int .i64 (if q ≤ 1000000000000 then q else 0), .int .i64 (if q ≤ 1000000000000 then 0 else 8)]) ∧ Below w.heap.size w w' := by
  have z : (c == 0) = false := beq_eq_false_iff_ne.2 (by omega)
  have hv := Lib.hid (valid3 a b c (w.alloc (.cells #[.int .i64 a, .int .i64 b, .int .i64 c] 3)) w.heap.size (Box.new _ _ _) (by omega) (by omega) (by omega) (by omega) (by omega) (by omega))
  by_cases hq : q ≤ 1000000000000
  · rw [if_pos hq, if_pos hq]
    go_enter Try.func25, Try.ntmps25
    go_wp2_with (first | (go_at_call 31; refine hv.out.mono ?_; rintro e w' ⟨rfl, rfl⟩) | (go_at_call 32; refine (HM.out _).mono ?_; rintro e w' ⟨rfl, rfl⟩) | (go_at_call 33; refine (HD.out _).mono ?_; rintro e w' ⟨rfl, hb⟩))
    all_goals
      go_ret2
      exact ⟨rfl, below_step ((Below.refl _ w).alloc (Nat.le_refl _) _) hb⟩
  · rw [if_neg hq, if_neg hq]
    have hq2 : 1000000000000 < q := by omega
    clear hq
    go_enter Try.func25, Try.ntmps25
    go_wp2_with (first | (go_at_call 31; refine hv.out.mono ?_; rintro e w' ⟨rfl, rfl⟩) | (go_at_call 32; refine (HM.out _).mono ?_; rintro e w' ⟨rfl, rfl⟩) | (go_at_call 33; refine (HD.out _).mono ?_; rintro e w' ⟨rfl, hb⟩))
    all_goals
      go_ret2
      exact ⟨rfl, below_step ((Below.refl _ w).alloc (Nat.le_refl _) _) hb⟩

theorem md_any (a b c : Int) (w : World) (h1 : 0 ≤ a) (h2 : a ≤ 1000000000000) (h3 : 0 ≤ b) (h4 : b ≤ 1000000000000) (h5 : 1 ≤ c) (h6 : c ≤ 1000000000000) :
    Calls Try.prog 25 #[.int .i64 a, .int .i64 b, .int .i64 c] w fun e w' => e = .returned (.tuple #[.int .i64 (mdV a b c).v, .int .i64 (mdV a b c).e]) ∧ Below w.heap.size w w' := by
  have k0 : 0 ≤ a * b := Int.mul_nonneg h1 h3
  have e1 := Int.mul_ediv_add_emod (a * b) 18446744073709551616
  have e2 := Int.emod_nonneg (a * b) (b := 18446744073709551616) (by omega)
  have e3 := Int.emod_lt_of_pos (a * b) (b := 18446744073709551616) (by omega)
  have e4 : 0 ≤ a * b / 18446744073709551616 := Int.ediv_nonneg k0 (by omega)
  have e5 : 0 ≤ a * b / c := Int.ediv_nonneg k0 (by omega)
  by_cases h : c ≤ a * b / 18446744073709551616
  · have e : mdV a b c = ⟨0, 8⟩ := by
      unfold mdV
      rw [if_neg]
      have : 18446744073709551616 ≤ a * b / c := by
        rw [Int.le_ediv_iff_mul_le (by omega)]
        omega
      omega
    rw [e]
    exact md_over a b c w h1 h2 h3 h4 h5 h6 h
  · have HD : Hid (∀ W, Calls Try.prog 33 #[.int .u64 (a * b / 18446744073709551616), .int .u64 (a * b % 18446744073709551616), .int .u64 c] W fun e w' => e = .returned (.tuple #[.int .u64 (a * b / c), .int .u64 (a * b % c)]) ∧ Below W.heap.size W w') := fun W => by
      have h := div64_any (a * b / 18446744073709551616) (a * b % 18446744073709551616) c W e4 (by omega) (by omega) e2 e3
      rw [show a * b / 18446744073709551616 * 18446744073709551616 + a * b % 18446744073709551616 = a * b by omega] at h
      exact h
    have h9 := md_core a b c _ _ _ _ w h1 h2 h3 h4 h5 h6 (by omega) e5 (fun W => mul64_int a b W h1 (by omega) h3 (by omega)) HD
    unfold mdV
    split
    · rw [if_pos (by assumption), if_pos (by assumption)] at h9
      exact h9
    · rw [if_neg (by assumption), if_neg (by assumption)] at h9
      exact h9

theorem rmul_over (a b : Int) (w : World) (h1 : 1 ≤ a) (h2 : a ≤ 1000000000000) (h3 : 0 ≤ b) (h4 : b ≤ 1000000000000) (h : 1000000000000 < a * b) : Calls Try.prog 27 #[.int .i64 a, .int .i64 b] w fun e w' => e = .returned (.tuple #[.int .i64 0, .int .i64 8]) ∧ w = w' := by
  have z : (a == 0) = false := beq_eq_false_iff_ne.2 (by omega)
  have z1 : (a != 0) = true := bne_iff_ne.2 (by omega)
  have k : 1000000000000 / a < b := by
    rw [Int.ediv_lt_iff_lt_mul (by omega), Int.mul_comm]
    exact h
  clear h
  go_enter Try.func27, Try.ntmps27
  go_wp2_with (first | (go_at_call 34; refine (v01_yes _ _ (by omega) (by omega)).mono ?_; rintro e w' ⟨rfl, rfl⟩) | (go_at_call 35; refine (abs_nn _ _ (by omega)).mono ?_; rintro e w' ⟨rfl, rfl⟩))
  go_ret2
  exact ⟨rfl, rfl⟩
theorem rmul_zero (b : Int) (w : World) (h3 : 0 ≤ b) (h4 : b ≤ 1000000000000) : Calls Try.prog 27 #[.int .i64 0, .int .i64 b] w fun e w' => e = .returned (.tuple #[.int .i64 0, .int .i64 0]) ∧ w = w' := by
  go_enter Try.func27, Try.ntmps27
  go_wp2_with (first | (go_at_call 34; refine (v01_yes _ _ (by omega) (by omega)).mono ?_; rintro e w' ⟨rfl, rfl⟩) | (go_at_call 35; refine (abs_nn _ _ (by omega)).mono ?_; rintro e w' ⟨rfl, rfl⟩) | (go_at_call 36; refine (res_yes _ _ (by omega) (by omega)).mono ?_; rintro e w' ⟨rfl, rfl⟩))
  go_ret2
  exact ⟨rfl, rfl⟩
theorem rmul_fit (a b : Int) (w : World) (h1 : 1 ≤ a) (h2 : a ≤ 1000000000000) (h3 : 0 ≤ b) (h4 : b ≤ 1000000000000) (h : a * b ≤ 1000000000000) : Calls Try.prog 27 #[.int .i64 a, .int .i64 b] w fun e w' => e = .returned (.tuple #[.int .i64 (a * b), .int .i64 0]) ∧ w = w' := by
  have z : (a == 0) = false := beq_eq_false_iff_ne.2 (by omega)
  have z1 : (a != 0) = true := bne_iff_ne.2 (by omega)
  have k0 : 0 ≤ a * b := Int.mul_nonneg (by omega) h3
  have k : b ≤ 1000000000000 / a := by
    rw [Int.le_ediv_iff_mul_le (by omega), Int.mul_comm]
    exact h
  go_enter Try.func27, Try.ntmps27
  go_wp2_with (first | (go_at_call 34; refine (v01_yes _ _ (by omega) (by omega)).mono ?_; rintro e w' ⟨rfl, rfl⟩) | (go_at_call 35; refine (abs_nn _ _ (by omega)).mono ?_; rintro e w' ⟨rfl, rfl⟩) | (go_at_call 36; refine (res_yes _ _ (by omega) (by omega)).mono ?_; rintro e w' ⟨rfl, rfl⟩))
  go_ret2
  exact ⟨rfl, rfl⟩
def mulV (a b : Int) : N2 := if a * b ≤ 1000000000000 then ⟨a * b, 0⟩ else ⟨0, 8⟩
theorem rmul_any (a b : Int) (w : World) (h1 : 0 ≤ a) (h2 : a ≤ 1000000000000) (h3 : 0 ≤ b) (h4 : b ≤ 1000000000000) : Calls Try.prog 27 #[.int .i64 a, .int .i64 b] w fun e w' => e = .returned (.tuple #[.int .i64 (mulV a b).v, .int .i64 (mulV a b).e]) ∧ w = w' := by
  unfold mulV
  by_cases h0 : a = 0
  · subst h0
    rw [Int.zero_mul, if_pos (by omega)]
    exact rmul_zero b w h3 h4
  · split
    · exact rmul_fit a b w (by omega) h2 h3 h4 (by assumption)
    · exact rmul_over a b w (by omega) h2 h3 h4 (by omega)
end Go.Proofs.Ytdlkpohjeedbiaa
