/- The walk of MeterRounds of layer 34, joined. -/
import Derived.Test.YtdlkpohjeedbiaaL
namespace Go.Proofs.Ytdlkpohjeedbiaa
open Go.ChangeShapes Go.WideShapes Go.ChangeAt Go.RowKit

theorem unit_in (sp gr c t : Int) (h : mOk sp gr = true) (h1 : 0 ≤ c) (h2 : c ≤ 1000000000000) (h3 : 0 ≤ t) (h4 : t ≤ 1000000000000) :
    unitV sp gr c t = if ceilI (c * t) gr ≤ 1000000000000 then ⟨ceilI (c * t) gr, 0⟩ else ⟨0, 8⟩ := by
  unfold unitV
  rw [if_pos ⟨h, ⟨h1, h2⟩, ⟨h3, h4⟩⟩]
theorem units3_of (sp gr cells more a c : Int) (h : mOk sp gr = true) (g3 : 0 ≤ cells) (g4 : 0 ≤ more) (g7 : cells ≤ 500000000000) (g8 : more ≤ 500000000000) (a1 : 1 ≤ a) (ac : a ≤ c) (cc : c ≤ 1000000000000) :
    Units3 cells (unitV sp gr cells a).v (unitV sp gr cells a).e (unitV sp gr (cells + more) a).v (unitV sp gr (cells + more) a).e (unitV sp gr cells c).v (unitV sp gr cells c).e := by
  obtain ⟨_, _, q3, q4⟩ := (mOk_iff sp gr).1 h
  rw [unit_in sp gr cells a h (by omega) (by omega) (by omega) (by omega), unit_in sp gr (cells + more) a h (by omega) (by omega) (by omega) (by omega), unit_in sp gr cells c h (by omega) (by omega) (by omega) (by omega)]
  have m1 : cells * a ≤ (cells + more) * a := Int.mul_le_mul_of_nonneg_right (by omega) (by omega)
  have m2 : cells * a ≤ cells * c := Int.mul_le_mul_of_nonneg_left ac g3
  have n1 := ceil_mono _ _ gr q3 m1
  have n2 := ceil_mono _ _ gr q3 m2
  have n3 : (ceilI (cells * a) gr = 0 ∧ cells = 0) ∨ (ceilI (cells * a) gr ≠ 0 ∧ cells ≠ 0) := by
    by_cases hc : cells = 0
    · subst hc
      rw [Int.zero_mul]
      exact .inl ⟨ceil_zero gr q3, rfl⟩
    · have k : 1 * 1 ≤ cells * a := Int.mul_le_mul (by omega) a1 (by omega) (by omega)
      have := ceil_pos (cells * a) gr q3 (by omega)
      exact .inr ⟨by omega, hc⟩
  clear m1 m2
  generalize ceilI (cells * a) gr = X at *
  generalize ceilI ((cells + more) * a) gr = Y at *
  generalize ceilI (cells * c) gr = Z at *
  constructor
  by_cases h1 : X ≤ 1000000000000
  · rw [if_pos h1]
    refine .inr ⟨rfl, ?_, ?_, n3⟩
    · by_cases h2 : Y ≤ 1000000000000
      · rw [if_pos h2]; exact .inr ⟨rfl, n1⟩
      · rw [if_neg h2]; exact .inl rfl
    · by_cases h2 : Z ≤ 1000000000000
      · rw [if_pos h2]; exact .inr ⟨rfl, n2⟩
      · rw [if_neg h2]; exact .inl rfl
  · rw [if_neg h1, if_neg (by omega), if_neg (by omega)]
    exact .inl ⟨rfl, rfl, rfl⟩
theorem tick_in (sp gr n : Int) (h : mOk sp gr = true) (h1 : 0 ≤ n) (h2 : n ≤ 1000000000000) : tickV sp gr n = ⟨max (ceilI n sp) 1, 0⟩ := by
  unfold tickV
  rw [if_pos ⟨h, h1, h2⟩]
theorem meterRounds_walk (sp gr : Int) (x y cells more : Int) (w : World) (_ : (Lit.int .i64 sp).wf = true) (_ : (Lit.int .i64 gr).wf = true) (_ : (Lit.int .i64 x).wf = true) (_ : (Lit.int .i64 y).wf = true) (_ : (Lit.int .i64 cells).wf = true) (_ : (Lit.int .i64 more).wf = true) :
    Calls Try.prog 3 #[.agg #[.int .i64 sp, .int .i64 gr], .int .i64 x, .int .i64 y, .int .i64 cells, .int .i64 more] w fun e w' => e = .returned (.bool true) ∧ Below w.heap.size w w' := by
  cases h : mOk sp gr
  · exact mr_out0 sp gr x y cells more 2 w (chk2 sp gr h) rfl
  have HC := chk0 sp gr h
  obtain ⟨s1, s2, s3, s4⟩ := (mOk_iff sp gr).1 h
  by_cases c1 : x < 0
  · exact mr_out1 sp gr x y cells more 0 w HC rfl c1
  by_cases c2 : y < 0
  · exact mr_out2 sp gr x y cells more 0 w HC rfl (by omega) c2
  by_cases c3 : cells < 0
  · exact mr_out3 sp gr x y cells more 0 w HC rfl (by omega) (by omega) c3
  by_cases c4 : more < 0
  · exact mr_out4 sp gr x y cells more 0 w HC rfl (by omega) (by omega) (by omega) c4
  by_cases c5 : 500000000000 < x
  · exact mr_out5 sp gr x y cells more 0 w HC rfl (by omega) (by omega) (by omega) (by omega) c5
  by_cases c6 : 500000000000 < y
  · exact mr_out6 sp gr x y cells more 0 w HC rfl (by omega) (by omega) (by omega) (by omega) (by omega) c6
  by_cases c7 : 500000000000 < cells
  · exact mr_out7 sp gr x y cells more 0 w HC rfl (by omega) (by omega) (by omega) (by omega) (by omega) (by omega) c7
  by_cases c8 : 500000000000 < more
  · exact mr_out8 sp gr x y cells more 0 w HC rfl (by omega) (by omega) (by omega) (by omega) (by omega) (by omega) (by omega) c8
  have R := rounds_of sp x y s1 s2 (by omega) (by omega) (by omega) (by omega)
  have HA : Hid (∀ W, _) := fun W => tick_any sp gr x W
  have HB : Hid (∀ W, _) := fun W => tick_any sp gr y W
  have HT : Hid (∀ W, _) := fun W => tick_any sp gr (x + y) W
  rw [tick_in sp gr x h (by omega) (by omega)] at HA
  rw [tick_in sp gr y h (by omega) (by omega)] at HB
  rw [tick_in sp gr (x + y) h (by omega) (by omega)] at HT
  have S := units3_of sp gr cells more _ _ h (by omega) (by omega) (by omega) (by omega) R.a1 R.ac R.cc
  exact mr_main sp gr x y cells more _ _ _ _ _ _ _ _ _ w HC (by omega) (by omega) (by omega) (by omega) (by omega) (by omega) (by omega) (by omega) HA HB HT (fun W => unit_any sp gr cells _ W) (fun W => unit_any sp gr (cells + more) _ W) (fun W => unit_any sp gr cells _ W) R S
end Go.Proofs.Ytdlkpohjeedbiaa
