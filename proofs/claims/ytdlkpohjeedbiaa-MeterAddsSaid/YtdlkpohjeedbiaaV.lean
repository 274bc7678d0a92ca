/- The walk of MeterAdds of layer 34, joined. -/
import Derived.Test.YtdlkpohjeedbiaaU
namespace Go.Proofs.Ytdlkpohjeedbiaa
open Go.ChangeShapes Go.WideShapes Go.ChangeAt Go.RowKit

theorem meterAdds_walk (a1 a2 a3 a4 : Int) (b1 b2 b3 b4 : Int) (c1 c2 c3 c4 : Int) (A : Option Addr) (n cap : Nat) (us : List U4) (A' : Option Addr) (n' cap' : Nat) (vs : List U4) (w : World) (_ : (Lit.int .i64 a1).wf = true) (_ : (Lit.int .i64 a2).wf = true) (_ : (Lit.int .i64 a3).wf = true) (_ : (Lit.int .i64 a4).wf = true) (_ : (Lit.int .i64 b1).wf = true) (_ : (Lit.int .i64 b2).wf = true) (_ : (Lit.int .i64 b3).wf = true) (_ : (Lit.int .i64 b4).wf = true) (_ : (Lit.int .i64 c1).wf = true) (_ : (Lit.int .i64 c2).wf = true) (_ : (Lit.int .i64 c3).wf = true) (_ : (Lit.int .i64 c4).wf = true)
    (h : us.length = n ∧ Seg w A (n * 4) (uCell us) ∧ n ≤ maxLen) (h' : vs.length = n' ∧ Seg w A' (n' * 4) (uCell vs) ∧ n' ≤ maxLen) : Calls Try.prog 7 #[.agg #[.int .i64 a1, .int .i64 a2, .int .i64 a3, .int .i64 a4], .agg #[.int .i64 b1, .int .i64 b2, .int .i64 b3, .int .i64 b4], .agg #[.int .i64 c1, .int .i64 c2, .int .i64 c3, .int .i64 c4], .slice A n cap, .slice A' n' cap'] w fun e w' => e = .returned (.bool true) ∧ Below w.heap.size w w' := by
  obtain ⟨hn, hs, _⟩ := h
  obtain ⟨hn', hs', _⟩ := h'
  by_cases ln0 : 300 < n
  · exact ma_out0 a1 a2 a3 a4 b1 b2 b3 b4 c1 c2 c3 c4 A A' n cap n' cap' w (by simp; omega)
  by_cases ln1 : 300 < n'
  · exact ma_out1 a1 a2 a3 a4 b1 b2 b3 b4 c1 c2 c3 c4 A A' n cap n' cap' w (by simp; omega) (by simp; omega)
  have d0 : decide ((300 : Int) < (n : Int)) = false := by simp; omega
  have d1 : decide ((300 : Int) < (n' : Int)) = false := by simp; omega
  have HX : Hid (∀ W, _) := fun W => add_any a1 a2 a3 a4 b1 b2 b3 b4 W
  have HY : Hid (∀ W, _) := fun W => add_any b1 b2 b3 b4 a1 a2 a3 a4 W
  rw [addV_comm] at HY
  have hnn : (us ++ vs).length = n + n' := by rw [List.length_append, hn, hn']
  have HS : Hid (∀ W B k, Seg W B ((n + n') * 4) (uCell (us ++ vs)) → _) := fun W B k q => sum_any B (n + n') k (us ++ vs) W hnn q (by omega)
  have HP : Hid (∀ W, Seg W A (n * 4) (uCell us) → _) := fun W q => sum_any A n cap us W hn q (by omega)
  have HQ : Hid (∀ W, Seg W A' (n' * 4) (uCell vs) → _) := fun W q => sum_any A' n' cap' vs W hn' q (by omega)
  by_cases ex : (addV a1 a2 a3 a4 b1 b2 b3 b4).e = 0
  · have xv := addV_val a1 a2 a3 a4 b1 b2 b3 b4 ex
    rw [xv] at HX HY
    have HG : Hid (∀ W, _) := fun W => add_any (a1 + b1) (a2 + b2) (a3 + b3) (a4 + b4) c1 c2 c3 c4 W
    have HT : Hid (∀ W, _) := fun W => add_any b1 b2 b3 b4 c1 c2 c3 c4 W
    have HI : Hid (∀ W, _) := fun W => add_any a1 a2 a3 a4 (addV b1 b2 b3 b4 c1 c2 c3 c4).a (addV b1 b2 b3 b4 c1 c2 c3 c4).b (addV b1 b2 b3 b4 c1 c2 c3 c4).c (addV b1 b2 b3 b4 c1 c2 c3 c4).d W
    rcases add_assoc3 a1 a2 a3 a4 b1 b2 b3 b4 c1 c2 c3 c4 ex with ⟨e1, e2, e3, e4⟩ | ⟨e1, e2⟩
    · rw [e4] at HI
      rw [e1] at HG HI
      rw [e2] at HT
      by_cases es : (sumF (us ++ vs) 0 0 0 0).e = 0
      · obtain ⟨k1, k2, k3⟩ := sum_app us vs es
        have HR : Hid (∀ W, _) := fun W => add_any (sumF us 0 0 0 0).a (sumF us 0 0 0 0).b (sumF us 0 0 0 0).c (sumF us 0 0 0 0).d (sumF vs 0 0 0 0).a (sumF vs 0 0 0 0).b (sumF vs 0 0 0 0).c (sumF vs 0 0 0 0).d W
        rw [k3, es] at HR
        rw [es] at HS
        rw [k1] at HP
        rw [k2] at HQ
        exact ma_g0_ok a1 a2 a3 a4 b1 b2 b3 b4 c1 c2 c3 c4 A A' n cap n' cap' us vs _ _ _ _ _ _ _ _ _ _ _ _ 0 0 0 0 _ _ _ _ _ _ _ _ _ _ _ _ w d0 d1 (by omega) (by omega) hn hn' hs hs' HX HY HG HT HI HS HP HQ HR
      · exact ma_g0_bad a1 a2 a3 a4 b1 b2 b3 b4 c1 c2 c3 c4 A A' n cap n' cap' us vs _ _ _ _ _ _ _ _ _ _ _ _ 0 0 0 0 _ _ _ _ _ _ _ _ _ _ _ _ _ _ _ w d0 d1 (by omega) (by omega) hn hn' hs hs' HX HY HG HT HI HS (bne_iff_ne.2 es) HP HQ
    · rcases e2 with e2 | ⟨e2, e3⟩
      · by_cases es : (sumF (us ++ vs) 0 0 0 0).e = 0
        · obtain ⟨k1, k2, k3⟩ := sum_app us vs es
          have HR : Hid (∀ W, _) := fun W => add_any (sumF us 0 0 0 0).a (sumF us 0 0 0 0).b (sumF us 0 0 0 0).c (sumF us 0 0 0 0).d (sumF vs 0 0 0 0).a (sumF vs 0 0 0 0).b (sumF vs 0 0 0 0).c (sumF vs 0 0 0 0).d W
          rw [k3, es] at HR
          rw [es] at HS
          rw [k1] at HP
          rw [k2] at HQ
          exact ma_gh_ok a1 a2 a3 a4 b1 b2 b3 b4 c1 c2 c3 c4 A A' n cap n' cap' us vs _ _ _ _ _ _ _ _ _ _ _ _ _ _ _ _ _ _ _ _ _ _ _ _ _ _ _ _ _ _ _ w d0 d1 (by omega) (by omega) hn hn' hs hs' HX HY HG HT HI (beq_eq_false_iff_ne.2 e1) (beq_eq_false_iff_ne.2 e2) HS HP HQ HR
        · exact ma_gh_bad a1 a2 a3 a4 b1 b2 b3 b4 c1 c2 c3 c4 A A' n cap n' cap' us vs _ _ _ _ _ _ _ _ _ _ _ _ _ _ _ _ _ _ _ _ _ _ _ _ _ _ _ _ _ _ _ _ _ _ w d0 d1 (by omega) (by omega) hn hn' hs hs' HX HY HG HT HI (beq_eq_false_iff_ne.2 e1) (beq_eq_false_iff_ne.2 e2) HS (bne_iff_ne.2 es) HP HQ
      · rw [e2] at HT
        by_cases es : (sumF (us ++ vs) 0 0 0 0).e = 0
        · obtain ⟨k1, k2, k3⟩ := sum_app us vs es
          have HR : Hid (∀ W, _) := fun W => add_any (sumF us 0 0 0 0).a (sumF us 0 0 0 0).b (sumF us 0 0 0 0).c (sumF us 0 0 0 0).d (sumF vs 0 0 0 0).a (sumF vs 0 0 0 0).b (sumF vs 0 0 0 0).c (sumF vs 0 0 0 0).d W
          rw [k3, es] at HR
          rw [es] at HS
          rw [k1] at HP
          rw [k2] at HQ
          exact ma_gi_ok a1 a2 a3 a4 b1 b2 b3 b4 c1 c2 c3 c4 A A' n cap n' cap' us vs _ _ _ _ _ _ _ _ _ _ _ _ _ _ _ _ _ _ _ _ _ _ _ _ _ _ _ _ _ _ w d0 d1 (by omega) (by omega) hn hn' hs hs' HX HY HG HT HI (beq_eq_false_iff_ne.2 e1) (beq_eq_false_iff_ne.2 e3) HS HP HQ HR
        · exact ma_gi_bad a1 a2 a3 a4 b1 b2 b3 b4 c1 c2 c3 c4 A A' n cap n' cap' us vs _ _ _ _ _ _ _ _ _ _ _ _ _ _ _ _ _ _ _ _ _ _ _ _ _ _ _ _ _ _ _ _ _ w d0 d1 (by omega) (by omega) hn hn' hs hs' HX HY HG HT HI (beq_eq_false_iff_ne.2 e1) (beq_eq_false_iff_ne.2 e3) HS (bne_iff_ne.2 es) HP HQ
  · by_cases es : (sumF (us ++ vs) 0 0 0 0).e = 0
    · obtain ⟨k1, k2, k3⟩ := sum_app us vs es
      have HR : Hid (∀ W, _) := fun W => add_any (sumF us 0 0 0 0).a (sumF us 0 0 0 0).b (sumF us 0 0 0 0).c (sumF us 0 0 0 0).d (sumF vs 0 0 0 0).a (sumF vs 0 0 0 0).b (sumF vs 0 0 0 0).c (sumF vs 0 0 0 0).d W
      rw [k3, es] at HR
      rw [es] at HS
      rw [k1] at HP
      rw [k2] at HQ
      exact ma_skip_ok a1 a2 a3 a4 b1 b2 b3 b4 c1 c2 c3 c4 A A' n cap n' cap' us vs _ _ _ _ _ _ _ _ _ _ _ _ _ _ _ _ _ w d0 d1 (by omega) (by omega) hn hn' hs hs' HX HY (bne_iff_ne.2 ex) HS HP HQ HR
    · exact ma_skip_bad a1 a2 a3 a4 b1 b2 b3 b4 c1 c2 c3 c4 A A' n cap n' cap' us vs _ _ _ _ _ _ _ _ _ _ _ _ _ _ _ _ _ _ _ _ w d0 d1 (by omega) (by omega) hn hn' hs hs' HX HY (bne_iff_ne.2 ex) HS (bne_iff_ne.2 es) HP HQ
end Go.Proofs.Ytdlkpohjeedbiaa
