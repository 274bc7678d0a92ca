/- The contract of bits.Div64: the quotient and the remainder. -/
import Derived.Test.YtdlkpohjeedbiaaShelf
import Derived.Test.YtdlkpohjeedbiaaG
import Derived.Test.YtdlkpohjeedbiaaDV
import Derived.Laws.BitsAllLaws
import Derived.IntWalk
namespace Go.Proofs.Ytdlkpohjeedbiaa
open Go.ChangeShapes Go.WideShapes Go.ChangeAt Go.RowKit

theorem ret_two {a b a' b' : Value} (h : a = a') (h' : b = b') : Ending.returned (.tuple #[a, b]) = .returned (.tuple #[a', b']) := by rw [h, h']

set_option maxHeartbeats 1000000 in
theorem div64_low (lo y : Int) (w : World) (h1 : 1 ≤ y) (h2 : 0 ≤ lo) (h3 : lo < 18446744073709551616) :
    Calls Try.prog 33 #[.int .u64 0, .int .u64 lo, .int .u64 y] w fun e w' => e = .returned (.tuple #[.int .u64 (lo / y), .int .u64 (lo % y)]) ∧ ∃ n, w' = w.drewN n := by
  have z : (y == 0) = false := beq_eq_false_iff_ne.2 (by omega)
  go_enter Try.func33, Try.ntmps33
  go_wp2
  go_quiet (fail)
  go_wp2
  go_ret2
  exact ⟨ret_two (by rfl) (by rfl), nq, rfl⟩

/-- What the function makes of its arguments at first. -/
structure Norm (hi lo y : Int) (s : Nat) (U Y X : Int) : Prop where
  e1 : IntKind.u64.wrap (y * 2 ^ s) = Y
  e2 : bits .and .u64 Y 4294967295 = Y % 4294967296
  e3 : bits .or .u64 (IntKind.u64.wrap (hi * 2 ^ s)) (lo / 2 ^ (64 - s)) = U
  e4 : IntKind.u64.wrap (lo * 2 ^ s) = X
  e5 : bits .and .u64 X 4294967295 = X % 4294967296
  y0 : 9223372036854775808 ≤ Y
  y1 : Y < 18446744073709551616
  u0 : 0 ≤ U
  u1 : U < Y
  x0 : 0 ≤ X
  x1 : X < 18446744073709551616
  q : (U * 18446744073709551616 + X) / Y = (hi * 18446744073709551616 + lo) / y
  r : (U * 18446744073709551616 + X) % Y / 2 ^ s = (hi * 18446744073709551616 + lo) % y

theorem u64_in (n : Int) (h : 0 ≤ n) (h' : n < 18446744073709551616) : IntKind.u64.wrap n = n := by rw [IntKind.wrap_u64]; omega
theorem u64_sub (a b c : Int) : IntKind.u64.wrap (IntKind.u64.wrap (IntKind.u64.wrap a + b) - IntKind.u64.wrap c) = IntKind.u64.wrap (a + b - c) := by
  simp only [IntKind.wrap_u64]
  omega
theorem div_low (u d Y Q : Int) {yn1 yn0 : Int} (h : DV u d Y yn1 yn0 Q) : (u * 4294967296 + d) % Y = IntKind.u64.wrap (u * 4294967296 + d - Q * Y) := by
  have e1 := Int.mul_ediv_add_emod (u * 4294967296 + d) Y
  have e2 := Int.emod_nonneg (u * 4294967296 + d) (b := Y) (by have := h.ypos; omega)
  have e3 := Int.emod_lt_of_pos (u * 4294967296 + d) (b := Y) h.ypos
  have hq : (u * 4294967296 + d) / Y = Q := by
    have h1 := h.q0
    have h2 := h.q1
    have h3 := h.ypos
    rw [show u * 4294967296 + d = (u * 4294967296 + d - Q * Y) + Y * Q by rw [Int.mul_comm Y Q]; omega, Int.add_mul_ediv_left _ _ (by omega), Int.ediv_eq_zero_of_lt (by omega) (by omega)]
    omega
  rw [hq, Int.mul_comm] at e1
  have hy := h.y
  have hh := h.h'
  have hn := h.n1
  rw [u64_in _ (by omega) (by omega)]
  omega
def DRel (u yn1 Q : Int) (a b : Value) : Prop := ∃ q r : Int, a = .int .u64 q ∧ b = .int .u64 r ∧ q * yn1 + r = u ∧ Q ≤ q ∧ q ≤ 4294967297 ∧ 0 ≤ r ∧ r < 4294967296

set_option maxRecDepth 100000 in
set_option maxHeartbeats 4000000 in
theorem div64_high (hi lo y U Y X : Int) (s : Nat) (w : World) (h0 : 1 ≤ hi) (h1 : hi < y) (_h2 : 0 ≤ lo) (_h3 : lo < 18446744073709551616) (hs : s < 64) (HN : Hid (Norm hi lo y s U Y X))
    (HS : Hid (∀ W, Calls Try.prog 39 #[.int .u64 y] W fun e w' => e = .returned (.int .i64 (s : Int)) ∧ W = w')) :
    Calls Try.prog 33 #[.int .u64 hi, .int .u64 lo, .int .u64 y] w fun e w' => e = .returned (.tuple #[.int .u64 ((U * 18446744073709551616 + X) / Y), .int .u64 ((U * 18446744073709551616 + X) % Y / 2 ^ s)]) ∧ w' = w := by
  have z : (y == 0) = false := beq_eq_false_iff_ne.2 (by omega)
  have z2 : (hi == 0) = false := beq_eq_false_iff_ne.2 (by omega)
  go_enter Try.func33, Try.ntmps33
  go_wp2_with fail
  refine (HS.out _).mono ?_
  rintro e w' ⟨rfl, rfl⟩
  go_upto_region 15 with fail
  rw [HN.out.e1, HN.out.e3, HN.out.e4, HN.out.e2, HN.out.e5]
  have n1 := HN.out.y0
  have n2 := HN.out.y1
  have n3 := HN.out.u0
  have n4 := HN.out.u1
  have n5 := HN.out.x0
  have n6 := HN.out.x1
  have D1 := Lib.hid (DV.mk' U (X / 4294967296) Y n1 n2 n3 n4 (by omega) (by omega))
  clear HN HS z z2
  obtain ⟨yn1, hyn1⟩ : ∃ a, a = Y / 4294967296 := ⟨_, rfl⟩
  obtain ⟨yn0, hyn0⟩ : ∃ a, a = Y % 4294967296 := ⟨_, rfl⟩
  obtain ⟨A1, hA1⟩ : ∃ a, a = X / 4294967296 := ⟨_, rfl⟩
  obtain ⟨A0, hA0⟩ : ∃ a, a = X % 4294967296 := ⟨_, rfl⟩
  obtain ⟨Q1, hQ1⟩ : ∃ a, a = (U * 4294967296 + A1) / Y := ⟨_, rfl⟩
  have b1 : 2147483648 ≤ yn1 := by omega
  have b2 : yn1 < 4294967296 := by omega
  have b3 : 0 ≤ yn0 := by omega
  have b4 : yn0 < 4294967296 := by omega
  have b5 : 0 ≤ A1 := by omega
  have b6 : A1 < 4294967296 := by omega
  have b7 : 0 ≤ A0 := by omega
  have b8 : A0 < 4294967296 := by omega
  rw [← hyn1, ← hyn0, ← hA1, ← hA0]
  rw [← hyn1, ← hyn0, ← hA1, ← hQ1] at D1
  have HY := Lib.hid hyn1
  have HY0 := Lib.hid hyn0
  have HA1 := Lib.hid hA1
  have HA0 := Lib.hid hA0
  have HQ1 := Lib.hid hQ1
  clear hyn1 hyn0 hA1 hA0 hQ1
  have z3 : (yn1 == 0) = false := beq_eq_false_iff_ne.2 (by omega)
  obtain ⟨g1, g2, g3, g4, g5⟩ := D1.out.start
  have g6 : 0 ≤ U / yn1 * yn1 := Int.mul_nonneg g3 (by omega)
  go_upto_region 17 with fail
  generalize hq : U / yn1 = q at *
  clear hq
  go_loop [15, 16] (DRel U yn1 Q1) (fun a _ => (intOf a).toNat)
  case atStart => exact ⟨q, _, rfl, rfl, by omega, g1, g2, g4, by omega⟩
  case round =>
    clear g1 g2 g3 g4 g5 g6
    obtain ⟨q, r, rfl, rfl, i1, i2, i3, i4, i5⟩ := hrel
    have I1 := Lib.hid i1
    clear i1
    have m0 := D1.out.qnn
    have m00 := D1.out.qlt
    by_cases c1 : 4294967296 ≤ q
    · have st := D1.out.step I1.out i2 (.inl c1)
      by_cases c2 : 4294967296 ≤ r + yn1
      · have e := Lib.hid (D1.out.brk (q := q - 1) (r := r + yn1) (by have := I1.out; rw [Int.sub_mul, Int.one_mul]; omega) st (by omega) c2)
        go_upto_region 22 with fail
        rw [e.out]
        clear e I1 i2 i3 i4 i5
        try clear st
        try clear c1
        try clear c2
        try clear c3
        try clear m1 m3
        have e3 := div_low U A1 Y Q1 D1.out
        rw [u64_sub, ← e3]
        clear e3
        obtain ⟨R1, hR1⟩ : ∃ a, a = (U * 4294967296 + A1) % Y := ⟨_, rfl⟩
        rw [← hR1]
        have r0 : 0 ≤ R1 := by rw [hR1]; exact Int.emod_nonneg _ (by omega)
        have r1 : R1 < Y := by rw [hR1]; exact Int.emod_lt_of_pos _ (by omega)
        have HR1 := Lib.hid hR1
        clear hR1
        have D2 := Lib.hid (DV.mk' R1 A0 Y n1 n2 r0 r1 b7 b8)
        obtain ⟨Q0, hQ0⟩ : ∃ a, a = (R1 * 4294967296 + A0) / Y := ⟨_, rfl⟩
        rw [← HY.out, ← HY0.out, ← hQ0] at D2
        have HQ0 := Lib.hid hQ0
        clear hQ0
        obtain ⟨g1, g2, g3, g4, g5⟩ := D2.out.start
        have g6 : 0 ≤ R1 / yn1 * yn1 := Int.mul_nonneg g3 (by omega)
        go_upto_region 24 with fail
        generalize hq : R1 / yn1 = q at *
        clear hq
        go_loop [18, 16] (DRel R1 yn1 Q0) (fun a _ => (intOf a).toNat)
        case atStart => exact ⟨q, _, rfl, rfl, by omega, g1, g2, g4, by omega⟩
        case round =>
          clear g1 g2 g3 g4 g5 g6
          obtain ⟨q, r, rfl, rfl, i1, i2, i3, i4, i5⟩ := hrel
          have I1 := Lib.hid i1
          clear i1
          have m0 := D2.out.qnn
          have m00 := D2.out.qlt
          by_cases c1 : 4294967296 ≤ q
          · have st := D2.out.step I1.out i2 (.inl c1)
            by_cases c2 : 4294967296 ≤ r + yn1
            · have e := Lib.hid (D2.out.brk (q := q - 1) (r := r + yn1) (by have := I1.out; rw [Int.sub_mul, Int.one_mul]; omega) st (by omega) c2)
              go_upto_region 28 with fail
              rw [e.out]
              clear e I1 i2 i3 i4 i5
              try clear st
              try clear c1
              try clear c2
              try clear c3
              try clear m1 m3
              have e3 := div_low R1 A0 Y Q0 D2.out
              have e4 : IntKind.u64.wrap (Q1 * 4294967296 + Q0) = Q1 * 4294967296 + Q0 := u64_in _ (by omega) (by omega)
              go_wp2
              go_ret2
              rw [u64_sub, ← e3]
              obtain ⟨k1, k2⟩ := div_halves U X Y A1 A0 (by omega) (by have := HA1.out; have := HA0.out; omega) n3
              rw [← HQ1.out, ← HR1.out, ← HQ0.out] at k1
              rw [← HR1.out] at k2
              exact ⟨by rw [k1, k2]; rfl, rfl⟩
            · go_wp2
              go_round
              case rel => exact ⟨q - 1, r + yn1, rfl, rfl, by have := I1.out; rw [Int.sub_mul, Int.one_mul]; omega, st, by omega, by omega, by omega⟩
              case measure => simp [intOf]; omega
          · have m1 : 0 ≤ q * yn0 := Int.mul_nonneg (by omega) b3
            have m2 : q * yn0 ≤ 4294967296 * yn0 := Int.mul_le_mul_of_nonneg_right (by omega) b3
            have m3 : q * yn0 ≤ 18446744069414584320 := by omega
            clear m2
            by_cases c3 : 4294967296 * r + A0 < q * yn0
            · have st := D2.out.step I1.out i2 (.inr (by omega))
              by_cases c2 : 4294967296 ≤ r + yn1
              · have e := Lib.hid (D2.out.brk (q := q - 1) (r := r + yn1) (by have := I1.out; rw [Int.sub_mul, Int.one_mul]; omega) st (by omega) c2)
                go_upto_region 28 with fail
                rw [e.out]
                clear e I1 i2 i3 i4 i5
                try clear st
                try clear c1
                try clear c2
                try clear c3
                try clear m1 m3
                have e3 := div_low R1 A0 Y Q0 D2.out
                have e4 : IntKind.u64.wrap (Q1 * 4294967296 + Q0) = Q1 * 4294967296 + Q0 := u64_in _ (by omega) (by omega)
                go_wp2
                go_ret2
                rw [u64_sub, ← e3]
                obtain ⟨k1, k2⟩ := div_halves U X Y A1 A0 (by omega) (by have := HA1.out; have := HA0.out; omega) n3
                rw [← HQ1.out, ← HR1.out, ← HQ0.out] at k1
                rw [← HR1.out] at k2
                exact ⟨by rw [k1, k2]; rfl, rfl⟩
              · go_wp2
                go_round
                case rel => exact ⟨q - 1, r + yn1, rfl, rfl, by have := I1.out; rw [Int.sub_mul, Int.one_mul]; omega, st, by omega, by omega, by omega⟩
                case measure => simp [intOf]; omega
            · have e := Lib.hid (D2.out.stop I1.out i2 (by omega))
              go_upto_region 28 with fail
              rw [e.out]
              clear e I1 i2 i3 i4 i5
              try clear st
              try clear c1
              try clear c2
              try clear c3
              try clear m1 m3
              have e3 := div_low R1 A0 Y Q0 D2.out
              have e4 : IntKind.u64.wrap (Q1 * 4294967296 + Q0) = Q1 * 4294967296 + Q0 := u64_in _ (by omega) (by omega)
              go_wp2
              go_ret2
              rw [u64_sub, ← e3]
              obtain ⟨k1, k2⟩ := div_halves U X Y A1 A0 (by omega) (by have := HA1.out; have := HA0.out; omega) n3
              rw [← HQ1.out, ← HR1.out, ← HQ0.out] at k1
              rw [← HR1.out] at k2
              exact ⟨by rw [k1, k2]; rfl, rfl⟩
      · go_wp2
        go_round
        case rel => exact ⟨q - 1, r + yn1, rfl, rfl, by have := I1.out; rw [Int.sub_mul, Int.one_mul]; omega, st, by omega, by omega, by omega⟩
        case measure => simp [intOf]; omega
    · have m1 : 0 ≤ q * yn0 := Int.mul_nonneg (by omega) b3
      have m2 : q * yn0 ≤ 4294967296 * yn0 := Int.mul_le_mul_of_nonneg_right (by omega) b3
      have m3 : q * yn0 ≤ 18446744069414584320 := by omega
      clear m2
      by_cases c3 : 4294967296 * r + A1 < q * yn0
      · have st := D1.out.step I1.out i2 (.inr (by omega))
        by_cases c2 : 4294967296 ≤ r + yn1
        · have e := Lib.hid (D1.out.brk (q := q - 1) (r := r + yn1) (by have := I1.out; rw [Int.sub_mul, Int.one_mul]; omega) st (by omega) c2)
          go_upto_region 22 with fail
          rw [e.out]
          clear e I1 i2 i3 i4 i5
          try clear st
          try clear c1
          try clear c2
          try clear c3
          try clear m1 m3
          have e3 := div_low U A1 Y Q1 D1.out
          rw [u64_sub, ← e3]
          clear e3
          obtain ⟨R1, hR1⟩ : ∃ a, a = (U * 4294967296 + A1) % Y := ⟨_, rfl⟩
          rw [← hR1]
          have r0 : 0 ≤ R1 := by rw [hR1]; exact Int.emod_nonneg _ (by omega)
          have r1 : R1 < Y := by rw [hR1]; exact Int.emod_lt_of_pos _ (by omega)
          have HR1 := Lib.hid hR1
          clear hR1
          have D2 := Lib.hid (DV.mk' R1 A0 Y n1 n2 r0 r1 b7 b8)
          obtain ⟨Q0, hQ0⟩ : ∃ a, a = (R1 * 4294967296 + A0) / Y := ⟨_, rfl⟩
          rw [← HY.out, ← HY0.out, ← hQ0] at D2
          have HQ0 := Lib.hid hQ0
          clear hQ0
          obtain ⟨g1, g2, g3, g4, g5⟩ := D2.out.start
          have g6 : 0 ≤ R1 / yn1 * yn1 := Int.mul_nonneg g3 (by omega)
          go_upto_region 24 with fail
          generalize hq : R1 / yn1 = q at *
          clear hq
          go_loop [18, 16] (DRel R1 yn1 Q0) (fun a _ => (intOf a).toNat)
          case atStart => exact ⟨q, _, rfl, rfl, by omega, g1, g2, g4, by omega⟩
          case round =>
            clear g1 g2 g3 g4 g5 g6
            obtain ⟨q, r, rfl, rfl, i1, i2, i3, i4, i5⟩ := hrel
            have I1 := Lib.hid i1
            clear i1
            have m0 := D2.out.qnn
            have m00 := D2.out.qlt
            by_cases c1 : 4294967296 ≤ q
            · have st := D2.out.step I1.out i2 (.inl c1)
              by_cases c2 : 4294967296 ≤ r + yn1
              · have e := Lib.hid (D2.out.brk (q := q - 1) (r := r + yn1) (by have := I1.out; rw [Int.sub_mul, Int.one_mul]; omega) st (by omega) c2)
                go_upto_region 28 with fail
                rw [e.out]
                clear e I1 i2 i3 i4 i5
                try clear st
                try clear c1
                try clear c2
                try clear c3
                try clear m1 m3
                have e3 := div_low R1 A0 Y Q0 D2.out
                have e4 : IntKind.u64.wrap (Q1 * 4294967296 + Q0) = Q1 * 4294967296 + Q0 := u64_in _ (by omega) (by omega)
                go_wp2
                go_ret2
                rw [u64_sub, ← e3]
                obtain ⟨k1, k2⟩ := div_halves U X Y A1 A0 (by omega) (by have := HA1.out; have := HA0.out; omega) n3
                rw [← HQ1.out, ← HR1.out, ← HQ0.out] at k1
                rw [← HR1.out] at k2
                exact ⟨by rw [k1, k2]; rfl, rfl⟩
              · go_wp2
                go_round
                case rel => exact ⟨q - 1, r + yn1, rfl, rfl, by have := I1.out; rw [Int.sub_mul, Int.one_mul]; omega, st, by omega, by omega, by omega⟩
                case measure => simp [intOf]; omega
            · have m1 : 0 ≤ q * yn0 := Int.mul_nonneg (by omega) b3
              have m2 : q * yn0 ≤ 4294967296 * yn0 := Int.mul_le_mul_of_nonneg_right (by omega) b3
              have m3 : q * yn0 ≤ 18446744069414584320 := by omega
              clear m2
              by_cases c3 : 4294967296 * r + A0 < q * yn0
              · have st := D2.out.step I1.out i2 (.inr (by omega))
                by_cases c2 : 4294967296 ≤ r + yn1
                · have e := Lib.hid (D2.out.brk (q := q - 1) (r := r + yn1) (by have := I1.out; rw [Int.sub_mul, Int.one_mul]; omega) st (by omega) c2)
                  go_upto_region 28 with fail
                  rw [e.out]
                  clear e I1 i2 i3 i4 i5
                  try clear st
                  try clear c1
                  try clear c2
                  try clear c3
                  try clear m1 m3
                  have e3 := div_low R1 A0 Y Q0 D2.out
                  have e4 : IntKind.u64.wrap (Q1 * 4294967296 + Q0) = Q1 * 4294967296 + Q0 := u64_in _ (by omega) (by omega)
                  go_wp2
                  go_ret2
                  rw [u64_sub, ← e3]
                  obtain ⟨k1, k2⟩ := div_halves U X Y A1 A0 (by omega) (by have := HA1.out; have := HA0.out; omega) n3
                  rw [← HQ1.out, ← HR1.out, ← HQ0.out] at k1
                  rw [← HR1.out] at k2
                  exact ⟨by rw [k1, k2]; rfl, rfl⟩
                · go_wp2
                  go_round
                  case rel => exact ⟨q - 1, r + yn1, rfl, rfl, by have := I1.out; rw [Int.sub_mul, Int.one_mul]; omega, st, by omega, by omega, by omega⟩
                  case measure => simp [intOf]; omega
              · have e := Lib.hid (D2.out.stop I1.out i2 (by omega))
                go_upto_region 28 with fail
                rw [e.out]
                clear e I1 i2 i3 i4 i5
                try clear st
                try clear c1
                try clear c2
                try clear c3
                try clear m1 m3
                have e3 := div_low R1 A0 Y Q0 D2.out
                have e4 : IntKind.u64.wrap (Q1 * 4294967296 + Q0) = Q1 * 4294967296 + Q0 := u64_in _ (by omega) (by omega)
                go_wp2
                go_ret2
                rw [u64_sub, ← e3]
                obtain ⟨k1, k2⟩ := div_halves U X Y A1 A0 (by omega) (by have := HA1.out; have := HA0.out; omega) n3
                rw [← HQ1.out, ← HR1.out, ← HQ0.out] at k1
                rw [← HR1.out] at k2
                exact ⟨by rw [k1, k2]; rfl, rfl⟩
        · go_wp2
          go_round
          case rel => exact ⟨q - 1, r + yn1, rfl, rfl, by have := I1.out; rw [Int.sub_mul, Int.one_mul]; omega, st, by omega, by omega, by omega⟩
          case measure => simp [intOf]; omega
      · have e := Lib.hid (D1.out.stop I1.out i2 (by omega))
        go_upto_region 22 with fail
        rw [e.out]
        clear e I1 i2 i3 i4 i5
        try clear st
        try clear c1
        try clear c2
        try clear c3
        try clear m1 m3
        have e3 := div_low U A1 Y Q1 D1.out
        rw [u64_sub, ← e3]
        clear e3
        obtain ⟨R1, hR1⟩ : ∃ a, a = (U * 4294967296 + A1) % Y := ⟨_, rfl⟩
        rw [← hR1]
        have r0 : 0 ≤ R1 := by rw [hR1]; exact Int.emod_nonneg _ (by omega)
        have r1 : R1 < Y := by rw [hR1]; exact Int.emod_lt_of_pos _ (by omega)
        have HR1 := Lib.hid hR1
        clear hR1
        have D2 := Lib.hid (DV.mk' R1 A0 Y n1 n2 r0 r1 b7 b8)
        obtain ⟨Q0, hQ0⟩ : ∃ a, a = (R1 * 4294967296 + A0) / Y := ⟨_, rfl⟩
        rw [← HY.out, ← HY0.out, ← hQ0] at D2
        have HQ0 := Lib.hid hQ0
        clear hQ0
        obtain ⟨g1, g2, g3, g4, g5⟩ := D2.out.start
        have g6 : 0 ≤ R1 / yn1 * yn1 := Int.mul_nonneg g3 (by omega)
        go_upto_region 24 with fail
        generalize hq : R1 / yn1 = q at *
        clear hq
        go_loop [18, 16] (DRel R1 yn1 Q0) (fun a _ => (intOf a).toNat)
        case atStart => exact ⟨q, _, rfl, rfl, by omega, g1, g2, g4, by omega⟩
        case round =>
          clear g1 g2 g3 g4 g5 g6
          obtain ⟨q, r, rfl, rfl, i1, i2, i3, i4, i5⟩ := hrel
          have I1 := Lib.hid i1
          clear i1
          have m0 := D2.out.qnn
          have m00 := D2.out.qlt
          by_cases c1 : 4294967296 ≤ q
          · have st := D2.out.step I1.out i2 (.inl c1)
            by_cases c2 : 4294967296 ≤ r + yn1
            · have e := Lib.hid (D2.out.brk (q := q - 1) (r := r + yn1) (by have := I1.out; rw [Int.sub_mul, Int.one_mul]; omega) st (by omega) c2)
              go_upto_region 28 with fail
              rw [e.out]
              clear e I1 i2 i3 i4 i5
              try clear st
              try clear c1
              try clear c2
              try clear c3
              try clear m1 m3
              have e3 := div_low R1 A0 Y Q0 D2.out
              have e4 : IntKind.u64.wrap (Q1 * 4294967296 + Q0) = Q1 * 4294967296 + Q0 := u64_in _ (by omega) (by omega)
              go_wp2
              go_ret2
              rw [u64_sub, ← e3]
              obtain ⟨k1, k2⟩ := div_halves U X Y A1 A0 (by omega) (by have := HA1.out; have := HA0.out; omega) n3
              rw [← HQ1.out, ← HR1.out, ← HQ0.out] at k1
              rw [← HR1.out] at k2
              exact ⟨by rw [k1, k2]; rfl, rfl⟩
            · go_wp2
              go_round
              case rel => exact ⟨q - 1, r + yn1, rfl, rfl, by have := I1.out; rw [Int.sub_mul, Int.one_mul]; omega, st, by omega, by omega, by omega⟩
              case measure => simp [intOf]; omega
          · have m1 : 0 ≤ q * yn0 := Int.mul_nonneg (by omega) b3
            have m2 : q * yn0 ≤ 4294967296 * yn0 := Int.mul_le_mul_of_nonneg_right (by omega) b3
            have m3 : q * yn0 ≤ 18446744069414584320 := by omega
            clear m2
            by_cases c3 : 4294967296 * r + A0 < q * yn0
            · have st := D2.out.step I1.out i2 (.inr (by omega))
              by_cases c2 : 4294967296 ≤ r + yn1
              · have e := Lib.hid (D2.out.brk (q := q - 1) (r := r + yn1) (by have := I1.out; rw [Int.sub_mul, Int.one_mul]; omega) st (by omega) c2)
                go_upto_region 28 with fail
                rw [e.out]
                clear e I1 i2 i3 i4 i5
                try clear st
                try clear c1
                try clear c2
                try clear c3
                try clear m1 m3
                have e3 := div_low R1 A0 Y Q0 D2.out
                have e4 : IntKind.u64.wrap (Q1 * 4294967296 + Q0) = Q1 * 4294967296 + Q0 := u64_in _ (by omega) (by omega)
                go_wp2
                go_ret2
                rw [u64_sub, ← e3]
                obtain ⟨k1, k2⟩ := div_halves U X Y A1 A0 (by omega) (by have := HA1.out; have := HA0.out; omega) n3
                rw [← HQ1.out, ← HR1.out, ← HQ0.out] at k1
                rw [← HR1.out] at k2
                exact ⟨by rw [k1, k2]; rfl, rfl⟩
              · go_wp2
                go_round
                case rel => exact ⟨q - 1, r + yn1, rfl, rfl, by have := I1.out; rw [Int.sub_mul, Int.one_mul]; omega, st, by omega, by omega, by omega⟩
                case measure => simp [intOf]; omega
            · have e := Lib.hid (D2.out.stop I1.out i2 (by omega))
              go_upto_region 28 with fail
              rw [e.out]
              clear e I1 i2 i3 i4 i5
              try clear st
              try clear c1
              try clear c2
              try clear c3
              try clear m1 m3
              have e3 := div_low R1 A0 Y Q0 D2.out
              have e4 : IntKind.u64.wrap (Q1 * 4294967296 + Q0) = Q1 * 4294967296 + Q0 := u64_in _ (by omega) (by omega)
              go_wp2
              go_ret2
              rw [u64_sub, ← e3]
              obtain ⟨k1, k2⟩ := div_halves U X Y A1 A0 (by omega) (by have := HA1.out; have := HA0.out; omega) n3
              rw [← HQ1.out, ← HR1.out, ← HQ0.out] at k1
              rw [← HR1.out] at k2
              exact ⟨by rw [k1, k2]; rfl, rfl⟩
end Go.Proofs.Ytdlkpohjeedbiaa
