/- The walks of the laws BucketTakes, BucketFills, BucketWaits of layer 39: each returns true for every input. -/
import Derived.Test.YtmfekechdejefaaD
import Derived.Test.YtmfekechdejefaaP
namespace Go.Proofs.Ytmfekechdejefaa
open Go.ChangeShapes Go.WideShapes Go.ChangeAt Go.RowKit
attribute [local go_sem high] eql23 neq23

set_option maxHeartbeats 1000000 in
theorem takes_walk (r s l t n now : Int) (w : World) : Calls Try.prog 3 #[.agg #[.int .i64 r, .int .i64 s, .int .i64 l, .int .i64 t], .int .i64 n, .int .i64 now] w fun e w' => e = .returned (.bool true) ∧ Below w.heap.size w w' := by
  have h1 : Hid (∀ W, _) := fun W => fill_any r s l t now W
  have h2 : Hid (∀ W, _) := fun W => rfill_any r s l t now W
  have h3 : Hid (∀ W, _) := fun W => take_any r s l t n now W
  have h4 : Hid (∀ W, _) := fun W => rtake_any r s l t n now W
  have h5 : Hid (∀ W, _) := fun W => wait_any r s l t n now W
  have h6 : Hid (∀ W, _) := fun W => rwait_any r s l t n now W
  have h7 : Hid (∀ W, _) := fun W => check_any r s l t W
  have h8 : Hid (∀ W, _) := fun W => rcheck_any r s l t W
  generalize fillV r s l t now = x at *
  generalize takeV r s l t n now = y at *
  generalize waitV r s l t n now = z at *
  generalize (if okB r s l t then (0 : Int) else 2) = ck at *
  obtain ⟨a, b, c, d, e⟩ := x
  obtain ⟨a', b', c', d', e'⟩ := y
  obtain ⟨v, f⟩ := z
  simp only at h1 h2 h3 h4 h5 h6
  have hq := eq4_self a b c d
  have hq' := eq4_self a' b' c' d'
  go_enter Try.func3, Try.ntmps3
  go_wp2_with fail
  refine (h1.out _).mono ?_
  rintro _ w1 ⟨rfl, hb⟩
  have B0 := (Box.new w 23 #[.int .i64 r, .int .i64 s, .int .i64 l, .int .i64 t]).next hb
  have hB := below_step ((Below.refl _ w).alloc (Nat.le_refl _) _) hb
  clear hb
  obtain ⟨p0, p1, p2, p3⟩ := B0.cells4
  have z0 := B0.lt
  go_wp2_with fail
  refine (h2.out _).mono ?_
  rintro _ w2 ⟨rfl, hb⟩
  replace B0 := (B0.alloc _).next hb
  have B1 := (Box.new w1 23 #[.int .i64 a, .int .i64 b, .int .i64 c, .int .i64 d]).next hb
  replace hB := below_step (below_box hB _) hb
  clear hb
  clear p0 p1 p2 p3 z0
  obtain ⟨p0, p1, p2, p3⟩ := B0.cells4
  have z0 := B0.lt
  go_wp2_with fail
  refine (h3.out _).mono ?_
  rintro _ w3 ⟨rfl, hb⟩
  replace B0 := (B0.alloc _).next hb
  replace B1 := (B1.alloc _).next hb
  have B2 := (Box.new w2 23 #[.int .i64 a, .int .i64 b, .int .i64 c, .int .i64 d]).next hb
  replace hB := below_step (below_box hB _) hb
  clear hb
  clear p0 p1 p2 p3 z0
  obtain ⟨p0, p1, p2, p3⟩ := B0.cells4
  have z0 := B0.lt
  go_wp2_with fail
  refine (h4.out _).mono ?_
  rintro _ w4 ⟨rfl, hb⟩
  replace B0 := (B0.alloc _).next hb
  replace B1 := (B1.alloc _).next hb
  replace B2 := (B2.alloc _).next hb
  have B3 := (Box.new w3 23 #[.int .i64 a', .int .i64 b', .int .i64 c', .int .i64 d']).next hb
  replace hB := below_step (below_box hB _) hb
  clear hb
  clear p0 p1 p2 p3 z0
  obtain ⟨p0, p1, p2, p3⟩ := B0.cells4
  have z0 := B0.lt
  go_wp2_with fail
  refine (h5.out _).mono ?_
  rintro _ w5 ⟨rfl, hb⟩
  replace B0 := (B0.alloc _).next hb
  replace B1 := (B1.alloc _).next hb
  replace B2 := (B2.alloc _).next hb
  replace B3 := (B3.alloc _).next hb
  have B4 := (Box.new w4 23 #[.int .i64 a', .int .i64 b', .int .i64 c', .int .i64 d']).next hb
  replace hB := below_step (below_box hB _) hb
  clear hb
  clear p0 p1 p2 p3 z0
  obtain ⟨p0, p1, p2, p3⟩ := B0.cells4
  have z0 := B0.lt
  go_wp2_with fail
  refine (h6.out _).mono ?_
  rintro _ w6 ⟨rfl, hb⟩
  replace B0 := B0.next hb
  replace B1 := B1.next hb
  replace B2 := B2.next hb
  replace B3 := B3.next hb
  replace B4 := B4.next hb
  replace hB := below_step hB hb
  clear hb
  clear p0 p1 p2 p3 z0
  obtain ⟨i00, i01, i02, i03⟩ := B0.icells4
  obtain ⟨i10, i11, i12, i13⟩ := B1.icells4
  obtain ⟨i20, i21, i22, i23⟩ := B2.icells4
  obtain ⟨i30, i31, i32, i33⟩ := B3.icells4
  obtain ⟨i40, i41, i42, i43⟩ := B4.icells4
  go_upto_region 7 with fail
  refine wp_region_calm (by kernel_rfl) (by kernel_rfl) ?_
  repeat (quiet_step ((first | (go_at_call 15; exact calm_of (h7.out _)) | (go_at_call 16; exact calm_of (h8.out _)) | (go_at_call 17; exact calm_of (awake_any _)))))
  refine wpQuiet_nil ?_
  rintro _ ⟨⟨w7, hb⟩, rfl⟩
  go_wp2
  go_ret
  exact ⟨rfl, below_step hB hb⟩

set_option maxHeartbeats 400000 in
theorem fills_err (r s l t f g e : Int) (w : World) (h1 : Hid (∀ W, Calls Try.prog 9 #[.agg #[.int .i64 r, .int .i64 s, .int .i64 l, .int .i64 t], .int .i64 f] W fun e' w' => e' = .returned (.tuple #[.agg #[.int .i64 0, .int .i64 0, .int .i64 0, .int .i64 0], .int .i64 e]) ∧ Below W.heap.size W w'))
    (he : (e != 0) = true) : Calls Try.prog 5 #[.agg #[.int .i64 r, .int .i64 s, .int .i64 l, .int .i64 t], .int .i64 f, .int .i64 g] w fun e w' => e = .returned (.bool true) ∧ Below w.heap.size w w' := by
  have hq := eq4_self 0 0 0 0
  go_enter Try.func5, Try.ntmps5
  go_wp2_with fail
  refine (h1.out _).mono ?_
  rintro _ w1 ⟨rfl, hb⟩
  have B0 := (Box.new w 23 #[.int .i64 r, .int .i64 s, .int .i64 l, .int .i64 t]).next hb
  have hB := below_step ((Below.refl _ w).alloc (Nat.le_refl _) _) hb
  clear hb
  obtain ⟨p0, p1, p2, p3⟩ := B0.cells4
  have z0 := B0.lt
  go_wp2_with (go_at_call 17; refine (awake_any _).mono ?_; rintro _ w2 ⟨rfl, hb⟩)
  go_ret
  exact ⟨rfl, below_step (below_box hB _) hb⟩

set_option maxHeartbeats 1000000 in
theorem fills_ok (r s l t f g L a b c d e2 : Int) (w : World) (h1 : Hid (∀ W, Calls Try.prog 9 #[.agg #[.int .i64 r, .int .i64 s, .int .i64 l, .int .i64 t], .int .i64 f] W fun e' w' => e' = .returned (.tuple #[.agg #[.int .i64 r, .int .i64 s, .int .i64 L, .int .i64 f], .int .i64 0]) ∧ Below W.heap.size W w'))
    (h2 : Hid (∀ W, Calls Try.prog 9 #[.agg #[.int .i64 r, .int .i64 s, .int .i64 L, .int .i64 f], .int .i64 g] W fun e' w' => e' = .returned (.tuple #[.agg #[.int .i64 a, .int .i64 b, .int .i64 c, .int .i64 d], .int .i64 e2]) ∧ Below W.heap.size W w'))
    (h3 : Hid (∀ W, Calls Try.prog 9 #[.agg #[.int .i64 r, .int .i64 s, .int .i64 l, .int .i64 t], .int .i64 g] W fun e' w' => e' = .returned (.tuple #[.agg #[.int .i64 a, .int .i64 b, .int .i64 c, .int .i64 d], .int .i64 e2]) ∧ Below W.heap.size W w'))
    (h4 : Hid (∀ W, Calls Try.prog 15 #[.agg #[.int .i64 r, .int .i64 s, .int .i64 L, .int .i64 f]] W fun e' w' => e' = .returned (.int .i64 0) ∧ Below W.heap.size W w'))
    (hg : ¬ g < f) : Calls Try.prog 5 #[.agg #[.int .i64 r, .int .i64 s, .int .i64 l, .int .i64 t], .int .i64 f, .int .i64 g] w fun e w' => e = .returned (.bool true) ∧ Below w.heap.size w w' := by
  have hq := eq4_self a b c d
  go_enter Try.func5, Try.ntmps5
  go_wp2_with fail
  refine (h1.out _).mono ?_
  rintro _ w1 ⟨rfl, hb⟩
  have B0 := (Box.new w 23 #[.int .i64 r, .int .i64 s, .int .i64 l, .int .i64 t]).next hb
  have hB := below_step ((Below.refl _ w).alloc (Nat.le_refl _) _) hb
  clear hb
  obtain ⟨p0, p1, p2, p3⟩ := B0.cells4
  have z0 := B0.lt
  go_wp2_with fail
  refine (h2.out _).mono ?_
  rintro _ w2 ⟨rfl, hb⟩
  replace B0 := (B0.alloc _).next hb
  have B1 := (Box.new w1 23 #[.int .i64 r, .int .i64 s, .int .i64 L, .int .i64 f]).next hb
  replace hB := below_step (below_box hB _) hb
  clear hb p0 p1 p2 p3 z0
  obtain ⟨p0, p1, p2, p3⟩ := B0.cells4
  have z0 := B0.lt
  go_wp2_with fail
  refine (h3.out _).mono ?_
  rintro _ w3 ⟨rfl, hb⟩
  replace B1 := (B1.alloc _).next hb
  have B2 := (Box.new w2 23 #[.int .i64 a, .int .i64 b, .int .i64 c, .int .i64 d]).next hb
  replace hB := below_step (below_box hB _) hb
  clear hb p0 p1 p2 p3 z0 B0
  obtain ⟨p0, p1, p2, p3⟩ := B1.cells4
  have z0 := B1.lt
  obtain ⟨q0, q1, q2, q3⟩ := B2.cells4
  have z1 := B2.lt
  go_wp2_with (first | (go_at_call 15; refine (h4.out _).mono ?_; rintro _ w4 ⟨rfl, hb⟩; replace hB := below_step (below_box hB _) hb) | (go_at_call 17; refine (awake_any _).mono ?_; rintro _ w5 ⟨rfl, hb⟩))
  go_ret
  exact ⟨rfl, below_step hB hb⟩

set_option maxHeartbeats 1000000 in
theorem fills_back (r s l t f g L a b c d e2 a' b' c' d' e3 : Int) (w : World) (h1 : Hid (∀ W, Calls Try.prog 9 #[.agg #[.int .i64 r, .int .i64 s, .int .i64 l, .int .i64 t], .int .i64 f] W fun e' w' => e' = .returned (.tuple #[.agg #[.int .i64 r, .int .i64 s, .int .i64 L, .int .i64 f], .int .i64 0]) ∧ Below W.heap.size W w'))
    (h2 : Hid (∀ W, Calls Try.prog 9 #[.agg #[.int .i64 r, .int .i64 s, .int .i64 L, .int .i64 f], .int .i64 g] W fun e' w' => e' = .returned (.tuple #[.agg #[.int .i64 a, .int .i64 b, .int .i64 c, .int .i64 d], .int .i64 e2]) ∧ Below W.heap.size W w'))
    (h3 : Hid (∀ W, Calls Try.prog 9 #[.agg #[.int .i64 r, .int .i64 s, .int .i64 l, .int .i64 t], .int .i64 g] W fun e' w' => e' = .returned (.tuple #[.agg #[.int .i64 a', .int .i64 b', .int .i64 c', .int .i64 d'], .int .i64 e3]) ∧ Below W.heap.size W w'))
    (hg : g < f) (he : (e2 != 0) = true) : Calls Try.prog 5 #[.agg #[.int .i64 r, .int .i64 s, .int .i64 l, .int .i64 t], .int .i64 f, .int .i64 g] w fun e w' => e = .returned (.bool true) ∧ Below w.heap.size w w' := by
  go_enter Try.func5, Try.ntmps5
  go_wp2_with fail
  refine (h1.out _).mono ?_
  rintro _ w1 ⟨rfl, hb⟩
  have B0 := (Box.new w 23 #[.int .i64 r, .int .i64 s, .int .i64 l, .int .i64 t]).next hb
  have hB := below_step ((Below.refl _ w).alloc (Nat.le_refl _) _) hb
  clear hb
  obtain ⟨p0, p1, p2, p3⟩ := B0.cells4
  have z0 := B0.lt
  go_wp2_with fail
  refine (h2.out _).mono ?_
  rintro _ w2 ⟨rfl, hb⟩
  replace B0 := (B0.alloc _).next hb
  replace hB := below_step (below_box hB _) hb
  clear hb p0 p1 p2 p3 z0
  obtain ⟨p0, p1, p2, p3⟩ := B0.cells4
  have z0 := B0.lt
  go_wp2_with fail
  refine (h3.out _).mono ?_
  rintro _ w3 ⟨rfl, hb⟩
  replace hB := below_step (below_box hB _) hb
  clear hb p0 p1 p2 p3 z0 B0
  go_wp2_with (go_at_call 17; refine (awake_any _).mono ?_; rintro _ w5 ⟨rfl, hb⟩)
  go_ret
  exact ⟨rfl, below_step (below_box hB _) hb⟩

theorem fills_walk (r s l t f g : Int) (w : World) : Calls Try.prog 5 #[.agg #[.int .i64 r, .int .i64 s, .int .i64 l, .int .i64 t], .int .i64 f, .int .i64 g] w fun e w' => e = .returned (.bool true) ∧ Below w.heap.size w w' := by
  by_cases h0 : (fillV r s l t f).e = 0
  · have hv := fillV_val r s l t f h0
    have h1 : Hid (∀ W, _) := fun W => fill_any r s l t f W
    rw [hv] at h1
    simp only at h1
    by_cases hg : g < f
    · exact fills_back r s l t f g _ _ _ _ _ _ _ _ _ _ _ w h1 (fun W => fill_any _ _ _ _ _ W) (fun W => fill_any _ _ _ _ _ W) hg (by simpa using fill_back r s l t f g hg)
    · have h2 : Hid (∀ W, _) := fun W => fill_any r s (min s (l + r * (f - t))) f g W
      rw [fill_fill r s l t f g h0 (by omega)] at h2
      exact fills_ok r s l t f g _ _ _ _ _ _ w h1 h2 (fun W => fill_any _ _ _ _ _ W) (fun W => by have h := check_any r s (min s (l + r * (f - t))) f W; rw [if_pos (fill_valid r s l t f h0)] at h; exact h) hg
  · obtain ⟨e1, e2, e3, e4⟩ := fillV_err r s l t f h0
    have h1 : Hid (∀ W, _) := fun W => fill_any r s l t f W
    rw [e1, e2, e3, e4] at h1
    exact fills_err r s l t f g _ w h1 (by simpa using h0)

set_option maxHeartbeats 400000 in
theorem waits_err (r s l t n now e : Int) (w : World) (h1 : Hid (∀ W, Calls Try.prog 13 #[.agg #[.int .i64 r, .int .i64 s, .int .i64 l, .int .i64 t], .int .i64 n, .int .i64 now] W fun e' w' => e' = .returned (.tuple #[.int .i64 0, .int .i64 e]) ∧ Below W.heap.size W w'))
    (he : (e != 0) = true) : Calls Try.prog 6 #[.agg #[.int .i64 r, .int .i64 s, .int .i64 l, .int .i64 t], .int .i64 n, .int .i64 now] w fun e w' => e = .returned (.bool true) ∧ Below w.heap.size w w' := by
  go_enter Try.func6, Try.ntmps6
  go_wp2_with fail
  refine (h1.out _).mono ?_
  rintro _ w1 ⟨rfl, hb⟩
  have B0 := (Box.new w 23 #[.int .i64 r, .int .i64 s, .int .i64 l, .int .i64 t]).next hb
  have hB := below_step ((Below.refl _ w).alloc (Nat.le_refl _) _) hb
  clear hb
  obtain ⟨p0, p1, p2, p3⟩ := B0.cells4
  have z0 := B0.lt
  go_wp2_with (go_at_call 17; refine (awake_any _).mono ?_; rintro _ w2 ⟨rfl, hb⟩)
  go_ret
  exact ⟨rfl, below_step hB hb⟩

set_option maxHeartbeats 1000000 in
theorem waits_ok (r s l t n now v a b c d a' b' c' d' : Int) (w : World) (h1 : Hid (∀ W, Calls Try.prog 13 #[.agg #[.int .i64 r, .int .i64 s, .int .i64 l, .int .i64 t], .int .i64 n, .int .i64 now] W fun e' w' => e' = .returned (.tuple #[.int .i64 v, .int .i64 0]) ∧ Below W.heap.size W w'))
    (h2 : Hid (∀ W, Calls Try.prog 11 #[.agg #[.int .i64 r, .int .i64 s, .int .i64 l, .int .i64 t], .int .i64 n, .int .i64 (now + v)] W fun e' w' => e' = .returned (.tuple #[.agg #[.int .i64 a, .int .i64 b, .int .i64 c, .int .i64 d], .int .i64 0]) ∧ Below W.heap.size W w'))
    (h3 : Hid (∀ W, Calls Try.prog 11 #[.agg #[.int .i64 r, .int .i64 s, .int .i64 l, .int .i64 t], .int .i64 n, .int .i64 (now + v - 1)] W fun e' w' => e' = .returned (.tuple #[.agg #[.int .i64 a', .int .i64 b', .int .i64 c', .int .i64 d'], .int .i64 17]) ∧ Below W.heap.size W w'))
    (g1 : 0 < v) (g2 : v ≤ 1073741824) (g3 : 0 ≤ now) (g4 : now ≤ 1073741824) : Calls Try.prog 6 #[.agg #[.int .i64 r, .int .i64 s, .int .i64 l, .int .i64 t], .int .i64 n, .int .i64 now] w fun e w' => e = .returned (.bool true) ∧ Below w.heap.size w w' := by
  go_enter Try.func6, Try.ntmps6
  go_wp2_with fail
  refine (h1.out _).mono ?_
  rintro _ w1 ⟨rfl, hb⟩
  have B0 := (Box.new w 23 #[.int .i64 r, .int .i64 s, .int .i64 l, .int .i64 t]).next hb
  have hB := below_step ((Below.refl _ w).alloc (Nat.le_refl _) _) hb
  clear hb
  obtain ⟨p0, p1, p2, p3⟩ := B0.cells4
  have z0 := B0.lt
  go_wp2_with fail
  refine (h2.out _).mono ?_
  rintro _ w2 ⟨rfl, hb⟩
  replace B0 := B0.next hb
  replace hB := below_step hB hb
  clear hb p0 p1 p2 p3 z0
  obtain ⟨p0, p1, p2, p3⟩ := B0.cells4
  have z0 := B0.lt
  go_wp2_with fail
  refine (h3.out _).mono ?_
  rintro _ w3 ⟨rfl, hb⟩
  replace hB := below_step (below_box hB _) hb
  clear hb p0 p1 p2 p3 z0 B0
  go_wp2_with (go_at_call 17; refine (awake_any _).mono ?_; rintro _ w5 ⟨rfl, hb⟩)
  go_ret
  exact ⟨rfl, below_step (below_box hB _) hb⟩

set_option maxHeartbeats 1000000 in
theorem waits_zero (r s l t n now a b c d : Int) (w : World) (h1 : Hid (∀ W, Calls Try.prog 13 #[.agg #[.int .i64 r, .int .i64 s, .int .i64 l, .int .i64 t], .int .i64 n, .int .i64 now] W fun e' w' => e' = .returned (.tuple #[.int .i64 0, .int .i64 0]) ∧ Below W.heap.size W w'))
    (h2 : Hid (∀ W, Calls Try.prog 11 #[.agg #[.int .i64 r, .int .i64 s, .int .i64 l, .int .i64 t], .int .i64 n, .int .i64 now] W fun e' w' => e' = .returned (.tuple #[.agg #[.int .i64 a, .int .i64 b, .int .i64 c, .int .i64 d], .int .i64 0]) ∧ Below W.heap.size W w'))
    (g3 : 0 ≤ now) (g4 : now ≤ 1073741824) : Calls Try.prog 6 #[.agg #[.int .i64 r, .int .i64 s, .int .i64 l, .int .i64 t], .int .i64 n, .int .i64 now] w fun e w' => e = .returned (.bool true) ∧ Below w.heap.size w w' := by
  go_enter Try.func6, Try.ntmps6
  go_wp2_with fail
  refine (h1.out _).mono ?_
  rintro _ w1 ⟨rfl, hb⟩
  have B0 := (Box.new w 23 #[.int .i64 r, .int .i64 s, .int .i64 l, .int .i64 t]).next hb
  have hB := below_step ((Below.refl _ w).alloc (Nat.le_refl _) _) hb
  clear hb
  obtain ⟨p0, p1, p2, p3⟩ := B0.cells4
  have z0 := B0.lt
  go_wp2_with fail
  refine (h2.out _).mono ?_
  rintro _ w2 ⟨rfl, hb⟩
  replace hB := below_step hB hb
  clear hb p0 p1 p2 p3 z0
  go_wp2_with (go_at_call 17; refine (awake_any _).mono ?_; rintro _ w5 ⟨rfl, hb⟩)
  go_ret
  exact ⟨rfl, below_step (below_box hB _) hb⟩

theorem waitV_err (r s l t n now : Int) (h : (waitV r s l t n now).e ≠ 0) : (waitV r s l t n now).v = 0 := by
  revert h
  unfold waitV waitW
  repeat' split
  all_goals simp

theorem waits_walk (r s l t n now : Int) (w : World) : Calls Try.prog 6 #[.agg #[.int .i64 r, .int .i64 s, .int .i64 l, .int .i64 t], .int .i64 n, .int .i64 now] w fun e w' => e = .returned (.bool true) ∧ Below w.heap.size w w' := by
  by_cases h0 : (waitV r s l t n now).e = 0
  · obtain ⟨v, hv, g1, g2, g3, g4, g5, e1, e2⟩ := wait_laws r s l t n now h0
    have h1 : Hid (∀ W, _) := fun W => wait_any r s l t n now W
    have h2 : Hid (∀ W, _) := fun W => take_any r s l t n (now + v) W
    rw [hv, h0] at h1
    rw [e1] at h2
    by_cases hz : v = 0
    · subst hz
      rw [Int.add_zero] at h2
      exact waits_zero r s l t n now _ _ _ _ w h1 h2 g2 g5
    · have h3 : Hid (∀ W, _) := fun W => take_any r s l t n (now + v - 1) W
      rw [e2 (by omega)] at h3
      exact waits_ok r s l t n now v _ _ _ _ _ _ _ _ w h1 h2 h3 (by omega) g4 g2 g5
  · have h1 : Hid (∀ W, _) := fun W => wait_any r s l t n now W
    rw [waitV_err r s l t n now h0] at h1
    exact waits_err r s l t n now _ w h1 (by simpa using h0)

theorem bucketTakes_walk (r s l t n now : Int) (w : World) (_ : (Lit.int .i64 r).wf = true) (_ : (Lit.int .i64 s).wf = true) (_ : (Lit.int .i64 l).wf = true) (_ : (Lit.int .i64 t).wf = true) (_ : (Lit.int .i64 n).wf = true) (_ : (Lit.int .i64 now).wf = true) :
    Calls Try.prog 3 #[.agg #[.int .i64 r, .int .i64 s, .int .i64 l, .int .i64 t], .int .i64 n, .int .i64 now] w fun e w' => e = .returned (.bool true) ∧ Below w.heap.size w w' := takes_walk r s l t n now w

theorem bucketFills_walk (r s l t n now : Int) (w : World) (_ : (Lit.int .i64 r).wf = true) (_ : (Lit.int .i64 s).wf = true) (_ : (Lit.int .i64 l).wf = true) (_ : (Lit.int .i64 t).wf = true) (_ : (Lit.int .i64 n).wf = true) (_ : (Lit.int .i64 now).wf = true) :
    Calls Try.prog 5 #[.agg #[.int .i64 r, .int .i64 s, .int .i64 l, .int .i64 t], .int .i64 n, .int .i64 now] w fun e w' => e = .returned (.bool true) ∧ Below w.heap.size w w' := fills_walk r s l t n now w

theorem bucketWaits_walk (r s l t n now : Int) (w : World) (_ : (Lit.int .i64 r).wf = true) (_ : (Lit.int .i64 s).wf = true) (_ : (Lit.int .i64 l).wf = true) (_ : (Lit.int .i64 t).wf = true) (_ : (Lit.int .i64 n).wf = true) (_ : (Lit.int .i64 now).wf = true) :
    Calls Try.prog 6 #[.agg #[.int .i64 r, .int .i64 s, .int .i64 l, .int .i64 t], .int .i64 n, .int .i64 now] w fun e w' => e = .returned (.bool true) ∧ Below w.heap.size w w' := waits_walk r s l t n now w
end Go.Proofs.Ytmfekechdejefaa
