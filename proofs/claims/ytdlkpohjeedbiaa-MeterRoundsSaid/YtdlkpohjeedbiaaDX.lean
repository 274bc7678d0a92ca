/- bits.Div64 for all arguments that do not overflow. -/
import Derived.Test.YtdlkpohjeedbiaaDW
import Derived.Laws.BitsLemmas
import Derived.Lib.ItoaNum
namespace Go.Proofs.Ytdlkpohjeedbiaa
open Go.ChangeShapes Go.WideShapes Go.ChangeAt Go.RowKit

theorem norm_of (hi lo y p p' : Int) (s : Nat) (hp : p = 2 ^ s) (hp' : p' = 2 ^ (64 - s)) (hpp : p * p' = 18446744073709551616) (p0 : 0 < p) (p0' : 0 < p') (h0 : 0 ≤ hi) (h1 : hi < y) (h2 : 0 ≤ lo) (h3 : lo < 18446744073709551616)
    (g1 : 9223372036854775808 ≤ y * p) (g2 : y * p < 18446744073709551616) : Norm hi lo y s (hi * p + lo / p') (y * p) (lo * p % 18446744073709551616) := by
  have k1 : hi * p ≤ (y - 1) * p := Int.mul_le_mul_of_nonneg_right (by omega) (by omega)
  have k2 : 0 ≤ hi * p := Int.mul_nonneg h0 (by omega)
  have k3 : 0 ≤ lo / p' := Int.ediv_nonneg h2 (by omega)
  have k4 : lo / p' < p := by
    rw [Int.ediv_lt_iff_lt_mul p0', hpp]
    exact h3
  have k5 : lo * p / 18446744073709551616 = lo / p' := by
    rw [← hpp, Int.mul_comm lo p]
    exact Int.mul_ediv_mul_of_pos _ _ p0
  have k6 := Int.mul_ediv_add_emod (lo * p) 18446744073709551616
  rw [k5] at k6
  have k7 : (hi * p + lo / p') * 18446744073709551616 + lo * p % 18446744073709551616 = p * (hi * 18446744073709551616 + lo) := by
    rw [Int.mul_add, Int.mul_comm p lo, ← Int.mul_assoc, Int.mul_comm p hi]
    omega
  rw [Int.sub_mul, Int.one_mul] at k1
  have hk : ∀ n : Int, 0 ≤ n → n < 2 ^ 64 → IntKind.u64.wrap n = n := fun n a b => u64_in n a b
  refine ⟨?_, ?_, ?_, ?_, ?_, g1, g2, by omega, by omega, Int.emod_nonneg _ (by omega), Int.emod_lt_of_pos _ (by omega), ?_, ?_⟩
  · rw [← hp]
    exact u64_in _ (by omega) g2
  · exact bits_mask .u64 64 (by decide) hk 32 (by decide) _ (by omega) g2
  · rw [← hp, ← hp', u64_in (hi * p) k2 (by omega)]
    refine bits_join .u64 64 (by decide) hk s _ _ k2 ?_ ?_ k3 ?_ ?_
    · rw [← hp]
      exact Int.mul_emod_left _ _
    · exact Int.lt_of_le_of_lt (show hi * p ≤ y * p by omega) g2
    · rw [← hp]
      exact k4
    · exact Int.lt_of_lt_of_le (show lo / p' < y * p by omega) (Int.le_of_lt g2)
  · rw [← hp, IntKind.wrap_u64]
  · exact bits_mask .u64 64 (by decide) hk 32 (by decide) _ (Int.emod_nonneg _ (by omega)) (Int.emod_lt_of_pos _ (by omega))
  · rw [k7, Int.mul_comm y p]
    exact Int.mul_ediv_mul_of_pos _ _ p0
  · rw [k7, Int.mul_comm y p, Int.mul_emod_mul_of_pos _ _ p0, ← hp]
    exact Int.mul_ediv_cancel_left _ (by omega)

def Div64Post (hi lo y : Int) (w : World) (e : Ending) (w' : World) : Prop := e = .returned (.tuple #[.int .u64 ((hi * 18446744073709551616 + lo) / y), .int .u64 ((hi * 18446744073709551616 + lo) % y)]) ∧ Below w.heap.size w w'

theorem drewN_below (w : World) (n : Nat) : Below w.heap.size w (w.drewN n) := ⟨rfl, rfl, rfl, Nat.le_refl _, fun _ _ => rfl⟩

theorem div64_any (hi lo y : Int) (w : World) (h0 : 0 ≤ hi) (h1 : hi < y) (hy : y < 18446744073709551616) (h2 : 0 ≤ lo) (h3 : lo < 18446744073709551616) :
    Calls Try.prog 33 #[.int .u64 hi, .int .u64 lo, .int .u64 y] w fun e w' => e = .returned (.tuple #[.int .u64 ((hi * 18446744073709551616 + lo) / y), .int .u64 ((hi * 18446744073709551616 + lo) % y)]) ∧ Below w.heap.size w w' := by
  by_cases hz : hi = 0
  · subst hz
    refine (div64_low lo y w (by omega) h2 h3).mono ?_
    rintro e w' ⟨rfl, n, rfl⟩
    exact ⟨by rw [Int.zero_mul, Int.zero_add], drewN_below w n⟩
  · obtain ⟨b1, b2, b3⟩ := Lib.bitLenAux_bounds 64 y.toNat (by omega) (by omega)
    have b4 : Lib.bitLen y.toNat ≤ 64 := Lib.bitLen_le y.toNat 64 (by omega) (by omega)
    change 1 ≤ Lib.bitLen y.toNat at b1
    change 2 ^ (Lib.bitLen y.toNat - 1) ≤ y.toNat at b2
    change y.toNat < 2 ^ Lib.bitLen y.toNat at b3
    have HZ := fun W => Try.bits_LeadingZeros64 y W (by omega) (by omega)
    generalize Lib.bitLen y.toNat = L at *
    obtain ⟨s, hs⟩ : ∃ s, s = 64 - L := ⟨_, rfl⟩
    have e1 : 64 - s = L := by omega
    have q1 : 2 ^ s * 2 ^ (64 - s) = 18446744073709551616 := by rw [← Nat.pow_add, show s + (64 - s) = 64 by omega]
    have q2 : 2 ^ (L - 1) * 2 = 2 ^ L := by rw [← Nat.pow_succ, show (L - 1).succ = L by omega]
    have q3 : 2 ^ s * 2 ^ L = 18446744073709551616 := by rw [← e1]; exact q1
    have q4 : y.toNat * 2 ^ s < 2 ^ L * 2 ^ s := Nat.mul_lt_mul_of_pos_right b3 (Nat.pow_pos (by omega))
    have q5 : 2 ^ (L - 1) * 2 ^ s ≤ y.toNat * 2 ^ s := Nat.mul_le_mul_right _ b2
    rw [Nat.mul_comm (2 ^ L), q3] at q4
    have q6 : 2 ^ (L - 1) * 2 ^ s * 2 = 18446744073709551616 := by rw [Nat.mul_right_comm, q2, Nat.mul_comm]; exact q3
    have cp : ((2 ^ s : Nat) : Int) = 2 ^ s := Int.natCast_pow 2 s
    have cp' : ((2 ^ (64 - s) : Nat) : Int) = 2 ^ (64 - s) := Int.natCast_pow 2 (64 - s)
    have hcy : ((y.toNat * 2 ^ s : Nat) : Int) = y * 2 ^ s := by rw [Int.natCast_mul, cp, Int.toNat_of_nonneg (by omega)]
    have N : Norm hi lo y s _ _ _ := norm_of hi lo y (2 ^ s) (2 ^ (64 - s)) s rfl rfl (by rw [← cp, ← cp', ← Int.natCast_mul, q1]; rfl) (Int.pow_pos (by omega)) (Int.pow_pos (by omega)) h0 h1 h2 h3 (by rw [← hcy]; omega) (by rw [← hcy]; omega)
    have h := div64_high hi lo y _ _ _ s w (by omega) h1 h2 h3 (by omega) N (fun W => (HZ W).mono fun e w' ⟨he, hw⟩ => ⟨by rw [he]; congr 2; omega, hw.symm⟩)
    rw [N.q, N.r] at h
    exact h.mono fun e w' ⟨he, hw⟩ => ⟨he, by subst hw; exact Below.refl _ _⟩
end Go.Proofs.Ytdlkpohjeedbiaa
