/- The checksum (CRC-32) in plain numbers: eight shifts of a number; linear, one to one; a table of bytes serves. -/
import Derived.Test.YtjcojgblnbhejaaY
namespace Go.Proofs.Ytjcojgblnbhejaa

def poly : Nat := 3988292384
/-- One shift. -/
def sh (c : Nat) : Nat := if c % 2 = 1 then (c / 2) ^^^ poly else c / 2
def shN : Nat → Nat → Nat
  | 0, c => c
  | n + 1, c => shN n (sh c)
theorem xor_half (a b : Nat) : (a ^^^ b) / 2 = (a / 2) ^^^ (b / 2) := by
  apply Nat.eq_of_testBit_eq
  intro i
  rw [Nat.testBit_div_two, Nat.testBit_xor, Nat.testBit_xor, Nat.testBit_div_two, Nat.testBit_div_two]
theorem xor_odd (a b : Nat) : (a ^^^ b) % 2 = (a % 2 + b % 2) % 2 := by
  have h1 := Nat.testBit_xor a b 0
  simp only [Nat.testBit_zero] at h1
  rcases Nat.mod_two_eq_zero_or_one a with ha | ha <;> rcases Nat.mod_two_eq_zero_or_one b with hb | hb <;> rcases Nat.mod_two_eq_zero_or_one (a ^^^ b) with hc | hc <;> simp [ha, hb, hc] at h1 ⊢
theorem sh_lin (a b : Nat) : sh (a ^^^ b) = sh a ^^^ sh b := by
  unfold sh
  rw [xor_odd, xor_half]
  rcases Nat.mod_two_eq_zero_or_one a with ha | ha <;> rcases Nat.mod_two_eq_zero_or_one b with hb | hb <;> simp only [ha, hb]
  · rfl
  · simp only [if_true, if_neg (show ¬ (0 = 1) by omega)]
    rw [Nat.xor_assoc]
  · simp only [if_true, if_neg (show ¬ (0 = 1) by omega)]
    rw [Nat.xor_assoc, Nat.xor_comm (b / 2) poly, ← Nat.xor_assoc]
  · simp only [if_true]
    rw [if_neg (by omega)]
    rw [show ((a / 2) ^^^ poly) ^^^ ((b / 2) ^^^ poly) = ((a / 2) ^^^ (b / 2)) ^^^ (poly ^^^ poly) by rw [Nat.xor_assoc, Nat.xor_assoc, ← Nat.xor_assoc poly, Nat.xor_comm poly (b / 2), Nat.xor_assoc (b / 2)], Nat.xor_self, Nat.xor_zero]
theorem shN_lin (n a b : Nat) : shN n (a ^^^ b) = shN n a ^^^ shN n b := by
  induction n generalizing a b with
  | zero => rfl
  | succ n ih => rw [shN, sh_lin, ih]; rfl
theorem sh_lt (a : Nat) (h : a < 2 ^ 32) : sh a < 2 ^ 32 := by
  unfold sh
  split
  · exact Nat.xor_lt_two_pow (by omega) (by decide)
  · omega
theorem shN_lt (n a : Nat) (h : a < 2 ^ 32) : shN n a < 2 ^ 32 := by
  induction n generalizing a with
  | zero => exact h
  | succ n ih => exact ih _ (sh_lt a h)
theorem xor_eq_zero {a b : Nat} (h : a ^^^ b = 0) : a = b := by
  have h2 : (a ^^^ b) ^^^ b = 0 ^^^ b := by rw [h]
  rw [Nat.xor_assoc, Nat.xor_self, Nat.xor_zero, Nat.zero_xor] at h2
  exact h2
theorem sh_zero (a : Nat) (h : a < 2 ^ 32) (h0 : sh a = 0) : a = 0 := by
  unfold sh at h0
  split at h0
  · have := xor_eq_zero h0
    unfold poly at this
    omega
  · omega
theorem sh_inj (a b : Nat) (ha : a < 2 ^ 32) (hb : b < 2 ^ 32) (h : sh a = sh b) : a = b := by
  apply xor_eq_zero
  apply sh_zero _ (Nat.xor_lt_two_pow ha hb)
  rw [sh_lin, h, Nat.xor_self]
theorem shN_inj (n a b : Nat) (ha : a < 2 ^ 32) (hb : b < 2 ^ 32) (h : shN n a = shN n b) : a = b := by
  induction n generalizing a b with
  | zero => exact h
  | succ n ih => exact sh_inj a b ha hb (ih _ _ (sh_lt a ha) (sh_lt b hb) h)
theorem sh_even (m : Nat) : sh (2 * m) = m := by
  unfold sh
  rw [if_neg (by omega)]
  omega
theorem sh8_high (q : Nat) : shN 8 (256 * q) = q := by
  rw [show 256 * q = 2 * (2 * (2 * (2 * (2 * (2 * (2 * (2 * q))))))) by omega]
  simp only [shN, sh_even]
theorem low_high (x : Nat) : x = (x % 256) ^^^ (256 * (x / 256)) := by
  apply Nat.eq_of_testBit_eq
  intro i
  rw [Nat.testBit_xor, show (256 : Nat) = 2 ^ 8 by rfl, Nat.testBit_mod_two_pow, Nat.testBit_two_pow_mul, Nat.testBit_div_two_pow]
  by_cases h : i < 8
  · simp [h, show ¬ (8 ≤ i) by omega]
  · simp [h, show 8 ≤ i by omega]
theorem sh8_split (x : Nat) : shN 8 x = shN 8 (x % 256) ^^^ (x / 256) := by
  conv => lhs; rw [low_high x]
  rw [shN_lin, sh8_high]
theorem xor_low (r s : Nat) (hs : s < 256) : (r ^^^ s) % 256 = (r % 256) ^^^ s ∧ (r ^^^ s) / 256 = r / 256 := by
  constructor
  · apply Nat.eq_of_testBit_eq
    intro i
    rw [show (256 : Nat) = 2 ^ 8 by rfl, Nat.testBit_mod_two_pow, Nat.testBit_xor, Nat.testBit_xor, Nat.testBit_mod_two_pow]
    by_cases h : i < 8
    · simp [h]
    · have : s.testBit i = false := Nat.testBit_lt_two_pow (Nat.lt_of_lt_of_le hs (by rw [show (256 : Nat) = 2 ^ 8 by rfl]; exact Nat.pow_le_pow_right (by decide) (by omega)))
      simp [h, this]
  · apply Nat.eq_of_testBit_eq
    intro i
    rw [show (256 : Nat) = 2 ^ 8 by rfl, Nat.testBit_div_two_pow, Nat.testBit_xor, Nat.testBit_div_two_pow]
    have : s.testBit (8 + i) = false := Nat.testBit_lt_two_pow (Nat.lt_of_lt_of_le hs (by rw [show (256 : Nat) = 2 ^ 8 by rfl]; exact Nat.pow_le_pow_right (by decide) (by omega)))
    rw [Nat.add_comm] at this
    simp [this]
/-- One byte more. -/
def crcS (r : Nat) (b : UInt8) : Nat := shN 8 (r ^^^ b.toNat)
theorem crcS_table (r : Nat) (b : UInt8) : crcS r b = shN 8 ((r % 256) ^^^ b.toNat) ^^^ (r / 256) := by
  obtain ⟨h1, h2⟩ := xor_low r b.toNat (UInt8.toNat_lt b)
  unfold crcS
  rw [sh8_split, h1, h2]
theorem crcS_lt (r : Nat) (b : UInt8) (h : r < 2 ^ 32) : crcS r b < 2 ^ 32 := shN_lt 8 _ (Nat.xor_lt_two_pow h (Nat.lt_trans (UInt8.toNat_lt b) (by decide)))
def crcL (r : Nat) (l : List UInt8) : Nat := l.foldl crcS r
theorem crcL_lt (l : List UInt8) (r : Nat) (h : r < 2 ^ 32) : crcL r l < 2 ^ 32 := by
  induction l generalizing r with
  | nil => exact h
  | cons b l ih => exact ih _ (crcS_lt r b h)
/-- The checksum of bytes. -/
def crcV (l : List UInt8) : Nat := crcL 4294967295 l ^^^ 4294967295
theorem crcV_lt (l : List UInt8) : crcV l < 2 ^ 32 := Nat.xor_lt_two_pow (crcL_lt l _ (by decide)) (by decide)
theorem crcL_ne (l : List UInt8) (r s : Nat) (hr : r < 2 ^ 32) (hs : s < 2 ^ 32) (h : r ≠ s) : crcL r l ≠ crcL s l := by
  induction l generalizing r s with
  | nil => exact h
  | cons b l ih =>
    refine ih _ _ (crcS_lt r b hr) (crcS_lt s b hs) (fun e => h ?_)
    have hb : b.toNat < 2 ^ 32 := Nat.lt_trans (UInt8.toNat_lt b) (by decide)
    have h2 := shN_inj 8 _ _ (Nat.xor_lt_two_pow hr hb) (Nat.xor_lt_two_pow hs hb) e
    have h3 : (r ^^^ b.toNat) ^^^ b.toNat = (s ^^^ b.toNat) ^^^ b.toNat := by rw [h2]
    rw [Nat.xor_assoc, Nat.xor_self, Nat.xor_zero, Nat.xor_assoc, Nat.xor_self, Nat.xor_zero] at h3
    exact h3
/-- One changed byte changes the checksum. -/
theorem crc_changed (x y : List UInt8) (a b : UInt8) (h : a ≠ b) : crcV (x ++ a :: y) ≠ crcV (x ++ b :: y) := by
  intro e
  have e2 : crcL 4294967295 (x ++ a :: y) = crcL 4294967295 (x ++ b :: y) := by
    have h3 : (crcL 4294967295 (x ++ a :: y) ^^^ 4294967295) ^^^ 4294967295 = (crcL 4294967295 (x ++ b :: y) ^^^ 4294967295) ^^^ 4294967295 := by
      unfold crcV at e
      rw [e]
    rw [Nat.xor_assoc, Nat.xor_self, Nat.xor_zero, Nat.xor_assoc, Nat.xor_self, Nat.xor_zero] at h3
    exact h3
  unfold crcL at e2
  rw [List.foldl_append, List.foldl_append, List.foldl_cons, List.foldl_cons] at e2
  have hx : List.foldl crcS 4294967295 x < 2 ^ 32 := crcL_lt x _ (by decide)
  have ha : a.toNat < 2 ^ 32 := Nat.lt_trans (UInt8.toNat_lt a) (by decide)
  have hb : b.toNat < 2 ^ 32 := Nat.lt_trans (UInt8.toNat_lt b) (by decide)
  refine crcL_ne y _ _ (crcS_lt _ a hx) (crcS_lt _ b hx) (fun e3 => h ?_) e2
  have h2 := shN_inj 8 _ _ (Nat.xor_lt_two_pow hx ha) (Nat.xor_lt_two_pow hx hb) e3
  generalize List.foldl crcS 4294967295 x = r at *
  have h4 : r ^^^ (r ^^^ a.toNat) = r ^^^ (r ^^^ b.toNat) := by rw [h2]
  rw [← Nat.xor_assoc, ← Nat.xor_assoc, Nat.xor_self, Nat.zero_xor, Nat.zero_xor] at h4
  exact UInt8.toNat_inj.1 h4
end Go.Proofs.Ytjcojgblnbhejaa
