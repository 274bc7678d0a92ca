/- The contract of MulDiv of faasref01: the product is divided bit by bit. -/
import Derived.Test.YtdlkpohjeedbiaaB
namespace Go.Proofs.Ytdlkpohjeedbiaa
open Go.ChangeShapes Go.WideShapes Go.ChangeAt Go.RowKit
attribute [local go_sem] ownAt ownUpon mixAt mixUpon

theorem md_dbl (x c : Int) (hc : 1 ≤ c) : 2 * (x / c) + 2 * (x % c) / c = 2 * x / c ∧ 2 * (x % c) % c = 2 * x % c := by
  have e1 := Int.mul_ediv_add_emod x c
  have e : 2 * x = 2 * (x % c) + c * (2 * (x / c)) := by rw [Int.mul_left_comm]; omega
  constructor
  · rw [e, Int.add_mul_ediv_left _ _ (by omega)]
    omega
  · rw [e, Int.add_mul_emod_self_left]
theorem md_add (x b c : Int) (hc : 1 ≤ c) : x / c + b / c + (x % c + b % c) / c = (x + b) / c ∧ (x % c + b % c) % c = (x + b) % c := by
  have e1 := Int.mul_ediv_add_emod x c
  have e2 := Int.mul_ediv_add_emod b c
  have e : x + b = (x % c + b % c) + c * (x / c + b / c) := by rw [Int.mul_add]; omega
  constructor
  · rw [e, Int.add_mul_ediv_left _ _ (by omega)]
    omega
  · rw [e, Int.add_mul_emod_self_left]
theorem half_pow (a : Int) (m : Nat) : a / 2 ^ m / 2 = a / 2 ^ (m + 1) := by
  rw [Int.ediv_ediv_of_nonneg (by exact Int.le_of_lt (Int.pow_pos (by omega))), Int.pow_succ]
theorem nat_and_bit (x m : Nat) : x &&& 2 ^ m = x / 2 ^ m % 2 * 2 ^ m := by
  apply Nat.eq_of_testBit_eq
  intro i
  rw [Nat.testBit_and, Nat.testBit_two_pow, ← Nat.toNat_testBit, Nat.testBit_mul_two_pow]
  cases h : x.testBit m
  · by_cases hi : m = i
    · subst hi; simp [h]
    · simp [hi]
  · by_cases hi : m = i
    · subst hi; simp [h]
    · simp only [hi, decide_false, Bool.and_false, Bool.toNat_true]
      by_cases hle : m ≤ i
      · simp only [hle, decide_true, Bool.true_and]
        have h2 := @Nat.testBit_two_pow 0 (i - m)
        rw [Nat.pow_zero] at h2
        rw [h2]
        simp; omega
      · simp [hle]
theorem and_bit (a : Int) (m : Nat) (h0 : 0 ≤ a) (h1 : a < 9223372036854775808) (hm : m ≤ 62) : bits .and .i64 a (2 ^ m) = a / 2 ^ m % 2 * 2 ^ m := by
  obtain ⟨x, rfl⟩ := Int.eq_ofNat_of_zero_le h0
  have hp : 2 ^ m < 2 ^ 63 := Nat.pow_lt_pow_right (by omega) (by omega)
  have hk : ∀ n : Int, 0 ≤ n → n < 2 ^ 63 → IntKind.i64.wrap n = n := fun n a b => IntWalk.i64_in n (by omega)
  have cp : ((2 ^ m : Nat) : Int) = 2 ^ m := Int.natCast_pow 2 m
  have h := (bits_nat .i64 63 (by decide) hk x (2 ^ m) (by omega) hp).1
  rw [cp] at h
  rw [h, nat_and_bit, Int.natCast_mul, Int.natCast_emod, Int.natCast_ediv, cp]
  rfl
theorem pow_step (m : Nat) : (2 : Int) ^ m / 2 = if m = 0 then 0 else 2 ^ (m - 1) := by
  rcases m with _ | m
  · rfl
  · rw [if_neg (by omega), Int.pow_succ, show m + 1 - 1 = m by omega]
    exact Int.mul_ediv_cancel _ (by omega)
def bitAt (k : Nat) : Int := if k = 0 then 0 else 2 ^ (k - 1)
def MdRel (a b c : Int) (w : World) (q r p : Value) (wr : World) : Prop :=
  ∃ k : Nat, k ≤ 41 ∧ q = .int .i64 (a / 2 ^ k * b / c) ∧ r = .int .i64 (a / 2 ^ k * b % c) ∧ p = .int .i64 (bitAt k) ∧ Below w.heap.size w wr

set_option maxRecDepth 100000 in
set_option maxHeartbeats 4000000 in
theorem rmd_any (a b c : Int) (w : World) (h1 : 0 ≤ a) (h2 : a ≤ 1000000000000) (h3 : 0 ≤ b) (h4 : b ≤ 1000000000000) (h5 : 1 ≤ c) (h6 : c ≤ 1000000000000) (hab : a * b / c ≤ 1000000000000) :
    Calls Try.prog 28 #[.int .i64 a, .int .i64 b, .int .i64 c] w fun e w' => e = .returned (.tuple #[.int .i64 (a * b / c), .int .i64 0]) ∧ Below w.heap.size w w' := by
  have z : (c == 0) = false := beq_eq_false_iff_ne.2 (by omega)
  have hq : b.tdiv c = b / c := Int.tdiv_eq_ediv_of_nonneg h3
  have hr : b.tmod c = b % c := Int.tmod_eq_emod_of_nonneg h3
  have b1 : 0 ≤ b / c := Int.ediv_nonneg h3 (by omega)
  have b2 : b / c ≤ b := Int.ediv_le_self _ h3
  have b3 : 0 ≤ b % c := Int.emod_nonneg _ (by omega)
  have b4 : b % c < c := Int.emod_lt_of_pos _ (by omega)
  have HAB := Lib.hid hab
  clear hab
  go_enter Try.func28, Try.ntmps28
  go_wp2_with (go_at_call 34; refine (v01_yes _ _ (by omega) (by omega)).mono ?_; rintro e w' ⟨rfl, rfl⟩)
  go_loopw [8, 9, 10] (MdRel a b c w) (fun _ _ p _ => (intOf p).toNat)
  case atStart =>
    have e : a / 2 ^ 41 = 0 := Int.ediv_eq_zero_of_lt h1 (by omega)
    exact ⟨41, by omega, by rw [e, Int.zero_mul]; simp, by rw [e, Int.zero_mul]; simp, rfl, Below.refl _ _⟩
  case round =>
    obtain ⟨k, hk, rfl, rfl, rfl, hB⟩ := hrel
    rcases k with _ | m
    · rw [show bitAt 0 = 0 from rfl, show a / 2 ^ 0 = a by simp]
      go_wp2
      go_ret2
      exact ⟨rfl, hB⟩
    · have hm : m ≤ 40 := by omega
      have p0 : (0 : Int) < 2 ^ m := Int.pow_pos (by omega)
      have p1 : (2 : Int) ^ m ≤ 1099511627776 := by
        have : (2 ^ m : Nat) ≤ 2 ^ 40 := Nat.pow_le_pow_right (by omega) hm
        have cp : ((2 ^ m : Nat) : Int) = 2 ^ m := Int.natCast_pow 2 m
        omega
      have hh := half_pow a m
      have t0 : 0 ≤ a / 2 ^ m := Int.ediv_nonneg h1 (by omega)
      have t1 : a / 2 ^ m ≤ a := Int.ediv_le_self _ h1
      have hand := and_bit a m h1 (by omega) (by omega)
      have hps := pow_step m
      have hbit : bitAt m = 2 ^ m / 2 := hps.symm
      rw [← hh, show bitAt (m + 1) = 2 ^ m from rfl]
      clear hh hps
      generalize ht : a / 2 ^ m = t at *
      have HT := Lib.hid ht
      clear ht
      generalize hPm : (2 : Int) ^ m = P at *
      have HPm := Lib.hid hPm
      clear hPm
      have ht2 : t = 2 * (t / 2) + t % 2 := by omega
      obtain ⟨d1, d2⟩ := md_dbl (t / 2 * b) c h5
      have u0 : 0 ≤ t / 2 * b := Int.mul_nonneg (by omega) h3
      have u1 : t / 2 * b / c ≤ a * b / c := Int.ediv_le_ediv (by omega) (Int.mul_le_mul_of_nonneg_right (by omega) h3)
      have u2 : t * b / c ≤ a * b / c := Int.ediv_le_ediv (by omega) (Int.mul_le_mul_of_nonneg_right t1 h3)
      have u3 : 0 ≤ t / 2 * b / c := Int.ediv_nonneg u0 (by omega)
      have u4 : 0 ≤ t / 2 * b % c := Int.emod_nonneg _ (by omega)
      have u5 : t / 2 * b % c < c := Int.emod_lt_of_pos _ (by omega)
      have u6 : t / 2 * b / c ≤ 1000000000000 := Int.le_trans u1 HAB.out
      have u7 : t * b / c ≤ 1000000000000 := Int.le_trans u2 HAB.out
      have u8 : 0 ≤ t * b / c := Int.ediv_nonneg (Int.mul_nonneg t0 h3) (by omega)
      have e2t : 2 * (t / 2 * b) = 2 * (t / 2) * b := by rw [Int.mul_assoc]
      rw [e2t] at d1 d2
      have HC1 : Hid (∀ W, Calls Try.prog 37 #[.int .i64 (2 * (t / 2 * b / c)), .int .i64 (2 * (t / 2 * b % c)), .int .i64 c] W fun e w' => e = .returned (.tuple #[.int .i64 (2 * (t / 2) * b / c), .int .i64 (2 * (t / 2) * b % c)]) ∧ W = w') := fun W => by
        have h := carry_any (2 * (t / 2 * b / c)) (2 * (t / 2 * b % c)) c W (by omega) (by omega) h5 h6 (by omega) (by omega)
        rw [d1, d2] at h
        exact h
      have v0 : 0 ≤ 2 * (t / 2) * b := Int.mul_nonneg (by omega) h3
      have v1 : 2 * (t / 2) * b / c ≤ t * b / c := Int.ediv_le_ediv (by omega) (Int.mul_le_mul_of_nonneg_right (by omega) h3)
      have v2 : 0 ≤ 2 * (t / 2) * b / c := Int.ediv_nonneg v0 (by omega)
      have v3 : 0 ≤ 2 * (t / 2) * b % c := Int.emod_nonneg _ (by omega)
      have v4 : 2 * (t / 2) * b % c < c := Int.emod_lt_of_pos _ (by omega)
      obtain ⟨d3, d4⟩ := md_add (2 * (t / 2) * b) b c h5
      have D3 := Lib.hid d3
      have D4 := Lib.hid d4
      clear d1 d2 d3 d4 e2t u0 u1 u2 v0
      have HP : Hid (P / 2 < P) := by unfold Hid; omega
      rcases (show t % 2 = 0 ∨ t % 2 = 1 by omega) with ht | ht
      · rw [ht, Int.zero_mul] at hand
        have e1 : 2 * (t / 2) = t := by omega
        rw [e1] at HC1
        clear ht2 ht e1 D3 D4 v1 v2 v3 v4
        generalize t / 2 * b / c = qv at *
        generalize t / 2 * b % c = rv at *
        have w0 : 0 ≤ t * b % c := Int.emod_nonneg _ (by omega)
        have w1 : t * b % c < c := Int.emod_lt_of_pos _ (by omega)
        generalize hq2 : t * b / c = q2 at *
        generalize hr2 : t * b % c = r2 at *
        have HQ2 := Lib.hid hq2
        have HR2 := Lib.hid hr2
        clear hq2 hr2
        go_wp2_with (go_at_call 37; refine (HC1.out _).mono ?_; rintro e w' ⟨rfl, rfl⟩)
        go_roundw
        case rel => exact ⟨m, by omega, by rw [HPm.out, HT.out, HQ2.out], by rw [HPm.out, HT.out, HR2.out], by rw [hbit], hB⟩
        case measure => have := HP.out; simp [intOf]; omega
      · rw [ht, Int.one_mul] at hand
        have e1 : 2 * (t / 2) * b + b = t * b := by
          have : t = 2 * (t / 2) + 1 := by omega
          rw [show t * b = (2 * (t / 2) + 1) * b by rw [← this], Int.add_mul, Int.one_mul]
        rw [e1] at D3 D4
        have HC2 : Hid (∀ W, Calls Try.prog 37 #[.int .i64 (2 * (t / 2) * b / c + b / c), .int .i64 (2 * (t / 2) * b % c + b % c), .int .i64 c] W fun e w' => e = .returned (.tuple #[.int .i64 (t * b / c), .int .i64 (t * b % c)]) ∧ Below W.heap.size W w') := fun W => by
          have h := carry_any (2 * (t / 2) * b / c + b / c) (2 * (t / 2) * b % c + b % c) c W (by omega) (by omega) h5 h6 (by omega) (by omega)
          rw [D3.out, D4.out] at h
          exact h.mono fun e w' ⟨he, hw⟩ => ⟨he, by subst hw; exact Below.refl _ _⟩
        clear ht2 ht e1 D3 D4
        generalize t / 2 * b / c = qv at *
        generalize t / 2 * b % c = rv at *
        generalize 2 * (t / 2) * b / c = q1 at *
        generalize 2 * (t / 2) * b % c = r1 at *
        have w0 : 0 ≤ t * b % c := Int.emod_nonneg _ (by omega)
        have w1 : t * b % c < c := Int.emod_lt_of_pos _ (by omega)
        generalize hq2 : t * b / c = q2 at *
        generalize hr2 : t * b % c = r2 at *
        have HQ2 := Lib.hid hq2
        have HR2 := Lib.hid hr2
        clear hq2 hr2
        have hP : (P != 0) = true := bne_iff_ne.2 (by omega)
        go_wp2_with (go_at_call 37; refine (HC1.out _).mono ?_; rintro e w' ⟨rfl, rfl⟩)
        go_upto_region 11 with fail
        have hs1 : IntKind.i64.wrap (q1 + b / c) = q1 + b / c := IntWalk.i64_in _ (by omega)
        have hs2 : IntKind.i64.wrap (r1 + b % c) = r1 + b % c := IntWalk.i64_in _ (by omega)
        have z2 : (c = 0) = False := by simp; omega
        have hs3 : IntKind.i64.wrap (b / c) = b / c := IntWalk.i64_in _ (by omega)
        refine wp_region_mix [0, 0, 0, 0, 0, 0, 0, 0, 0, 0, 0, 0, 1, 1, 1, 1, 1] (by kernel_rfl) (by kernel_rfl) ?_
        iterate 11 (refine wpMix_calm (fun K hK => ?_); go_simp; refine hK _ ?_; clear hK K)
        refine wpMix_calm (fun K hK => ?_)
        go_simp
        apply Exists.intro
        refine ⟨fun _ => ?_, hK _ ?_⟩
        go_at_call 37
        exact HC2.out _
        clear hK K
        iterate 5 (refine wpMix_pure (fun K hK => ?_); go_simp; refine hK _ ?_; clear hK K)
        refine wpMix_nil (fun w2 hb => ?_)
        replace hB := below_step hB hb
        clear hb hs1 hs2 hs3 z2
        go_wp2
        go_roundw
        case rel => exact ⟨m, by omega, by rw [HPm.out, HT.out, HQ2.out], by rw [HPm.out, HT.out, HR2.out], by rw [hbit], hB⟩
        case measure => have := HP.out; simp [intOf]; omega
end Go.Proofs.Ytdlkpohjeedbiaa
