/- Plain law: the long division of bits.Div64, by halves. -/
namespace Go.Proofs.Ytdlkpohjeedbiaa

/-- One half: u * 2^32 + d over Y = yn1 * 2^32 + yn0. -/
structure DV (u d Y yn1 yn0 Q : Int) : Prop where
  y : Y = yn1 * 4294967296 + yn0
  n0 : 0 ≤ yn0
  n1 : yn0 < 4294967296
  h : 2147483648 ≤ yn1
  h' : yn1 < 4294967296
  u0 : 0 ≤ u
  u1 : u < Y
  d0 : 0 ≤ d
  d1 : d < 4294967296
  q0 : Q * Y ≤ u * 4294967296 + d
  q1 : u * 4294967296 + d < Q * Y + Y

variable {u d Y yn1 yn0 Q : Int}
theorem DV.ypos (h : DV u d Y yn1 yn0 Q) : 0 < Y := by have := h.y; have := h.n0; have := h.h; omega
theorem DV.qnn (h : DV u d Y yn1 yn0 Q) : 0 ≤ Q := by
  have h1 := h.q1
  have h2 := h.u0
  have h3 := h.d0
  have h4 := h.ypos
  rcases (show Q < 0 ∨ 0 ≤ Q by omega) with g | g
  · have : (Q + 1) * Y ≤ 0 * Y := Int.mul_le_mul_of_nonneg_right (by omega) (by omega)
    rw [Int.add_mul, Int.one_mul, Int.zero_mul] at this
    omega
  · exact g
theorem DV.qlt (h : DV u d Y yn1 yn0 Q) : Q < 4294967296 := by
  have h1 := h.q0
  have h2 := h.u1
  have h3 := h.d1
  have h4 := h.ypos
  rcases (show Q < 4294967296 ∨ 4294967296 ≤ Q by omega) with g | g
  · exact g
  · have : 4294967296 * Y ≤ Q * Y := Int.mul_le_mul_of_nonneg_right g (by omega)
    omega
/-- q * Y, laid open. -/
theorem DV.prod (h : DV u d Y yn1 yn0 Q) (q : Int) : q * Y = (q * yn1) * 4294967296 + q * yn0 := by
  rw [h.y, Int.mul_add, Int.mul_assoc]
theorem DV.start (h : DV u d Y yn1 yn0 Q) : Q ≤ u / yn1 ∧ u / yn1 ≤ 4294967297 ∧ 0 ≤ u / yn1 ∧ 0 ≤ u - u / yn1 * yn1 ∧ u - u / yn1 * yn1 < yn1 := by
  have hh := h.h
  have hh' := h.h'
  have hu := h.u1
  have hy := h.y
  have e1 := Int.mul_ediv_add_emod u yn1
  have e2 := Int.emod_nonneg u (b := yn1) (by omega)
  have e3 := Int.emod_lt_of_pos u (b := yn1) (by omega)
  rw [Int.mul_comm] at e1
  refine ⟨?_, ?_, Int.ediv_nonneg h.u0 (by omega), by omega, by omega⟩
  · have h1 := h.q0
    have h2 := h.prod Q
    have h3 : 0 ≤ Q * yn0 := Int.mul_nonneg h.qnn h.n0
    have h4 := h.d1
    rcases (show Q ≤ u / yn1 ∨ u / yn1 + 1 ≤ Q by omega) with g | g
    · exact g
    · have : (u / yn1 + 1) * yn1 ≤ Q * yn1 := Int.mul_le_mul_of_nonneg_right g (by omega)
      rw [Int.add_mul, Int.one_mul] at this
      omega
  · have h1 := h.n1
    rcases (show u / yn1 ≤ 4294967297 ∨ 4294967298 ≤ u / yn1 by omega) with g | g
    · exact g
    · have : 4294967298 * yn1 ≤ u / yn1 * yn1 := Int.mul_le_mul_of_nonneg_right g (by omega)
      omega
/-- The test says that the guess is too great. -/
theorem DV.step (h : DV u d Y yn1 yn0 Q) {q r : Int} (hr : q * yn1 + r = u) (_ : Q ≤ q) (ht : 4294967296 ≤ q ∨ r * 4294967296 + d < q * yn0) : Q ≤ q - 1 := by
  rcases ht with g | g
  · have := h.qlt; omega
  · have h1 := h.prod q
    have h2 := h.q0
    rcases (show Q ≤ q - 1 ∨ q ≤ Q by omega) with k | k
    · exact k
    · have : q * Y ≤ Q * Y := Int.mul_le_mul_of_nonneg_right k (Int.le_of_lt h.ypos)
      omega
theorem DV.stop (h : DV u d Y yn1 yn0 Q) {q r : Int} (hr : q * yn1 + r = u) (hq : Q ≤ q) (ht : q * yn0 ≤ r * 4294967296 + d) : q = Q := by
  have h1 := h.prod q
  have h2 := h.q1
  rcases (show q = Q ∨ Q + 1 ≤ q by omega) with k | k
  · exact k
  · have : (Q + 1) * Y ≤ q * Y := Int.mul_le_mul_of_nonneg_right k (Int.le_of_lt h.ypos)
    rw [Int.add_mul, Int.one_mul] at this
    omega
theorem DV.brk (h : DV u d Y yn1 yn0 Q) {q r : Int} (hr : q * yn1 + r = u) (hq : Q ≤ q) (hq' : q ≤ 4294967296) (ht : 4294967296 ≤ r) : q = Q := by
  have h1 := h.prod q
  have h2 := h.q1
  have h3 := h.d0
  have h4 := h.n1
  have h5 := h.n0
  have h6 : q * yn0 ≤ 4294967296 * yn0 := Int.mul_le_mul_of_nonneg_right hq' h5
  rcases (show q = Q ∨ Q + 1 ≤ q by omega) with k | k
  · exact k
  · have : (Q + 1) * Y ≤ q * Y := Int.mul_le_mul_of_nonneg_right k (Int.le_of_lt h.ypos)
    rw [Int.add_mul, Int.one_mul] at this
    omega
/-- A number over Y. -/
theorem DV.mk' (u d Y : Int) (h : 9223372036854775808 ≤ Y) (h' : Y < 18446744073709551616) (u0 : 0 ≤ u) (u1 : u < Y) (d0 : 0 ≤ d) (d1 : d < 4294967296) :
    DV u d Y (Y / 4294967296) (Y % 4294967296) ((u * 4294967296 + d) / Y) := by
  have e1 := Int.mul_ediv_add_emod (u * 4294967296 + d) Y
  have e2 := Int.emod_nonneg (u * 4294967296 + d) (b := Y) (by omega)
  have e3 := Int.emod_lt_of_pos (u * 4294967296 + d) (b := Y) (by omega)
  rw [Int.mul_comm] at e1
  refine ⟨by omega, by omega, by omega, by omega, by omega, u0, u1, d0, d1, by omega, by omega⟩

/-- Both halves together. -/
theorem div_halves (U X Y A1 A0 : Int) (hY : 0 < Y) (hX : X = A1 * 4294967296 + A0) (_ : 0 ≤ U) :
    (U * 18446744073709551616 + X) / Y = (U * 4294967296 + A1) / Y * 4294967296 + ((U * 4294967296 + A1) % Y * 4294967296 + A0) / Y ∧
    (U * 18446744073709551616 + X) % Y = ((U * 4294967296 + A1) % Y * 4294967296 + A0) % Y := by
  have e1 := Int.mul_ediv_add_emod (U * 4294967296 + A1) Y
  generalize (U * 4294967296 + A1) / Y = q1 at *
  generalize (U * 4294967296 + A1) % Y = r1 at *
  have e : U * 18446744073709551616 + X = (r1 * 4294967296 + A0) + Y * (q1 * 4294967296) := by
    rw [← Int.mul_assoc]
    omega
  rw [e]
  constructor
  · rw [Int.add_mul_ediv_left _ _ (by omega)]
    omega
  · rw [Int.add_mul_emod_self_left]
end Go.Proofs.Ytdlkpohjeedbiaa
