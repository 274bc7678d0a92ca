/- The examples of layer 39 (awake) hold, and the frame's last step. -/
import Derived.Test.YtmfekechdejefaaC
namespace Go.Proofs.Ytmfekechdejefaa
open Go.ChangeShapes Go.WideShapes Go.ChangeAt Go.RowKit
attribute [local go_sem high] eql23 neq23

theorem eq4_5 : eq4 5 10 0 1 5 10 0 1 = true := by decide

set_option maxHeartbeats 1000000 in
theorem awake_any (w : World) : Calls Try.prog 17 #[] w fun e w' => e = .returned (.bool true) ∧ Below w.heap.size w w' := by
  have hN : Hid (∀ W, Calls Try.prog 18 #[.int .i64 5, .int .i64 10, .int .i64 0] W fun e w' => e = .returned (.tuple #[.agg #[.int .i64 5, .int .i64 10, .int .i64 10, .int .i64 0], .int .i64 0]) ∧ Below W.heap.size W w') := fun W => by
    have h := new_any 5 10 0 W
    rw [show newV 5 10 0 = ⟨5, 10, 10, 0, 0⟩ by simp [newV, okB]] at h
    exact h
  have hT1 : Hid (∀ W, Calls Try.prog 11 #[.agg #[.int .i64 5, .int .i64 10, .int .i64 10, .int .i64 0], .int .i64 10, .int .i64 0] W fun e w' => e = .returned (.tuple #[.agg #[.int .i64 5, .int .i64 10, .int .i64 0, .int .i64 0], .int .i64 0]) ∧ Below W.heap.size W w') := fun W => by
    have h := take_any 5 10 10 0 10 0 W
    rw [show takeV 5 10 10 0 10 0 = ⟨5, 10, 0, 0, 0⟩ by simp [takeV, takeW, fillV, okB]] at h
    exact h
  have hT2 : Hid (∀ W, Calls Try.prog 11 #[.agg #[.int .i64 5, .int .i64 10, .int .i64 0, .int .i64 0], .int .i64 5, .int .i64 1] W fun e w' => e = .returned (.tuple #[.agg #[.int .i64 5, .int .i64 10, .int .i64 0, .int .i64 1], .int .i64 0]) ∧ Below W.heap.size W w') := fun W => by
    have h := take_any 5 10 0 0 5 1 W
    rw [show takeV 5 10 0 0 5 1 = ⟨5, 10, 0, 1, 0⟩ by simp [takeV, takeW, fillV, okB, Int.min_def]] at h
    exact h
  have hW : Hid (∀ W, Calls Try.prog 13 #[.agg #[.int .i64 2, .int .i64 10, .int .i64 1, .int .i64 5], .int .i64 4, .int .i64 5] W fun e w' => e = .returned (.tuple #[.int .i64 2, .int .i64 0]) ∧ Below W.heap.size W w') := fun W => by
    have h := wait_any 2 10 1 5 4 5 W
    rw [show waitV 2 10 1 5 4 5 = ⟨2, 0⟩ by simp [waitV, waitW, fillV, okB, Int.min_def]] at h
    exact h
  have hC : Hid (∀ W, Calls Try.prog 15 #[.agg #[.int .i64 0, .int .i64 0, .int .i64 0, .int .i64 0]] W fun e w' => e = .returned (.int .i64 2) ∧ Below W.heap.size W w') := fun W => by
    have h := check_any 0 0 0 0 W
    rw [show okB 0 0 0 0 = false by simp [okB]] at h
    exact h
  have hq := eq4_5
  go_enter Try.func17, Try.ntmps17
  go_wp2_with fail
  refine (hN.out _).mono ?_
  rintro e w1 ⟨rfl, hb1⟩
  go_wp2_with fail
  refine (hT1.out _).mono ?_
  rintro e w2 ⟨rfl, hb2⟩
  obtain ⟨⟨⟨_, _, c12, _⟩, _, z2⟩, hB2⟩ := one_of hb2
  clear hb2
  go_wp2_with fail
  refine (hT2.out _).mono ?_
  rintro e w3 ⟨rfl, hb3⟩
  obtain ⟨⟨⟨_, _, c23, _⟩, _, z3⟩, hB3⟩ := one_of hb3
  clear hb3
  have d12 := (hB3.cell (p := ⟨w1.heap.size, 2, none⟩) z2).trans c12
  go_wp2_with fail
  refine (hW.out _).mono ?_
  rintro e w4 ⟨rfl, hb4⟩
  obtain ⟨⟨⟨c30, c31, c32, c33⟩, _, z4⟩, hB4⟩ := one_of hb4
  clear hb4
  have e12 := (hB4.cell (p := ⟨w1.heap.size, 2, none⟩) (Nat.lt_trans z2 z3)).trans d12
  have e23 := (hB4.cell (p := ⟨w2.heap.size, 2, none⟩) z3).trans c23
  clear c12 c23 d12
  go_wp2_with (go_at_call 15; refine (hC.out _).mono ?_; rintro e w5 ⟨rfl, hb5⟩)
  go_ret
  refine ⟨rfl, ?_⟩
  have s1 := hb1.size
  have s2 := hB2.size
  have s3 := hB3.size
  have s4 := hB4.size
  exact (((hb1.trans (hB2.mono s1)).trans (hB3.mono (Nat.le_trans s1 s2))).trans (hB4.mono (Nat.le_trans s1 (Nat.le_trans s2 s3)))).trans (hb5.mono (Nat.le_trans s1 (Nat.le_trans s2 (Nat.le_trans s3 s4))))

set_option maxHeartbeats 1000000 in
theorem news_walk (r s t : Int) (w : World) : Calls Try.prog 4 #[.int .i64 r, .int .i64 s, .int .i64 t] w fun e w' => e = .returned (.bool true) ∧ Below w.heap.size w w' := by
  have h1 : Hid (∀ W, _) := fun W => new_any r s t W
  have h2 : Hid (∀ W, _) := fun W => rnew_any r s t W
  generalize newV r s t = x at *
  obtain ⟨a, b, c, d, e⟩ := x
  simp only at h1 h2
  have hq := eq4_self a b c d
  go_enter Try.func4, Try.ntmps4
  go_wp2_with fail
  refine (h1.out _).mono ?_
  rintro e1 w1 ⟨rfl, hb1⟩
  go_wp2_with fail
  refine (h2.out _).mono ?_
  rintro e2 w2 ⟨rfl, hb2⟩
  obtain ⟨⟨⟨c0, c1, c2, c3⟩, _, z2⟩, hB2⟩ := one_of hb2
  clear hb2
  go_wp2_with (go_at_call 17; refine (awake_any _).mono ?_; rintro e3 w3 ⟨rfl, hb3⟩)
  go_ret
  refine ⟨rfl, ?_⟩
  have s1 := hb1.size
  have s2 := hB2.size
  refine ((hb1.trans (hB2.mono s1)).alloc (Nat.le_trans s1 s2) _).trans (hb3.mono ?_)
  simp; omega
theorem bucketNews_walk (r s t : Int) (w : World) (_ : (Lit.int .i64 r).wf = true) (_ : (Lit.int .i64 s).wf = true) (_ : (Lit.int .i64 t).wf = true) :
    Calls Try.prog 4 #[.int .i64 r, .int .i64 s, .int .i64 t] w fun e w' => e = .returned (.bool true) ∧ Below w.heap.size w w' := news_walk r s t w
end Go.Proofs.Ytmfekechdejefaa
