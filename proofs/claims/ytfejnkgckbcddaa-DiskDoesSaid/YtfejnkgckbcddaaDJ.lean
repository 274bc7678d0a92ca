/- do and does: one operation of a script. -/
import Derived.Test.YtfejnkgckbcddaaDI
namespace Go.Proofs.Ytfejnkgckbcddaa
open Go.ChangeShapes Go.WideShapes Go.ChangeAt Go.RowKit
attribute [local go_sem] ownAt ownUpon mixAt mixUpon

theorem rnew_yes (sz : Int) (w : World) (h1 : 1 ≤ sz) (h2 : sz ≤ 262144) : Calls Try.prog 7 #[.int .i64 sz] w fun e w' =>
    e = .returned (.tuple #[.pointer (some ⟨w.heap.size, 0, none⟩), .int .i64 0]) ∧ w' = w.alloc (.cells #[.int .i64 sz, .string ByteArray.empty, .string ByteArray.empty, .bool false, .string ByteArray.empty, .bool false] 46) := by
  go_enter Try.func7, Try.ntmps7
  go_wp2
  go_ret2
  exact ⟨rfl, rfl⟩
theorem rnew_no (sz : Int) (w : World) (h : sz < 1 ∨ (1 ≤ sz ∧ 262144 < sz)) : Calls Try.prog 7 #[.int .i64 sz] w fun e w' => e = .returned (.tuple #[.pointer none, .int .i64 2]) ∧ w = w' := by
  rcases h with h | ⟨h1, h2⟩
  all_goals
    go_enter Try.func7, Try.ntmps7
    go_wp2
    go_ret2
    exact ⟨rfl, rfl⟩
theorem Left.after {w w1 : World} {g : Nat} {F : List Nat} {er : Int} {s : DS} {e : Ending} {w' : World} (hb : Below w.heap.size w w1) (h : Left w1 g F er s e w') : Left w g F er s e w' := by
  obtain ⟨he, F', h1, h2, h3⟩ := h
  exact ⟨he, F', h1, (Only.of_up hb).trans h2 (fun x hx => .inl hx), fun b hb' => (h3 b hb').imp id (fun h => Nat.le_trans hb.size h)⟩
theorem RLeft.after {w w1 : World} {g : Nat} {er : Int} {s : DS} {e : Ending} {w' : World} (hb : Below w.heap.size w w1) (h : RLeft w1 g er s e w') : RLeft w g er s e w' := by
  obtain ⟨he, h1, h2⟩ := h
  exact ⟨he, h1, (Only.of_up hb).trans h2 (fun x hx => .inl hx)⟩
set_option maxHeartbeats 1000000 in
theorem do_any (w : World) (g : Nat) (F : List Nat) (s : DS) (k n : Int) (t : ByteArray) (h : DiskAt w g F s) (hf : Fit s) : Calls Try.prog 10 #[.pointer (some ⟨g, 0, none⟩), .agg #[.int .i64 k, .string t, .int .i64 n]] w (Left w g F (doV s k t.data.toList n).1 (doV s k t.data.toList n).2) := by
  have hb1 : Below w.heap.size w (w.alloc (.cells #[.int .i64 k, .string t, .int .i64 n] 34)) := below_box (Below.refl _ w) _
  have H1 := Lib.hid (h.up hb1)
  clear h
  unfold doV
  by_cases h0 : k = 0
  · rw [if_pos h0]
    subst h0
    have HW := Lib.hid (write_any _ g F t s H1.out hf)
    go_enter Try.func10, Try.ntmps10
    go_wp2_with (go_at_call 18; refine HW.out.mono ?_; rintro e1 w2 ⟨rfl, hl⟩)
    go_ret
    exact Left.after hb1 ⟨rfl, hl⟩
  rw [if_neg h0]
  have z0 : (k == 0) = false := beq_eq_false_iff_ne.2 h0
  by_cases h1 : k = 1
  · rw [if_pos h1]
    subst h1
    have HW := Lib.hid (sync_any _ g F s H1.out hf)
    go_enter Try.func10, Try.ntmps10
    go_wp2_with (go_at_call 20; refine HW.out.mono ?_; rintro e1 w2 ⟨rfl, hl⟩)
    go_ret
    exact Left.after hb1 ⟨rfl, hl⟩
  rw [if_neg h1]
  have z1 : (k == 1) = false := beq_eq_false_iff_ne.2 h1
  by_cases h2 : k = 2
  · rw [if_pos h2]
    subst h2
    have HW := Lib.hid (replace_any _ g F t s H1.out hf)
    go_enter Try.func10, Try.ntmps10
    go_wp2_with (go_at_call 19; refine HW.out.mono ?_; rintro e1 w2 ⟨rfl, hl⟩)
    go_ret
    exact Left.after hb1 ⟨rfl, hl⟩
  rw [if_neg h2]
  have z2 : (k == 2) = false := beq_eq_false_iff_ne.2 h2
  by_cases h3 : k = 3
  · rw [if_pos h3]
    subst h3
    have HW := Lib.hid (crash_any _ g F n s H1.out hf)
    go_enter Try.func10, Try.ntmps10
    go_wp2_with (go_at_call 21; refine HW.out.mono ?_; rintro e1 w2 ⟨rfl, hl⟩)
    go_ret
    exact Left.after hb1 ⟨rfl, hl⟩
  rw [if_neg h3]
  have z3 : (k == 3) = false := beq_eq_false_iff_ne.2 h3
  have HW := Lib.hid (restart_any _ g F s H1.out)
  go_enter Try.func10, Try.ntmps10
  go_wp2_with (go_at_call 22; refine HW.out.mono ?_; rintro e1 w2 ⟨rfl, hl⟩)
  go_ret
  exact Left.after hb1 ⟨rfl, hl⟩
set_option maxHeartbeats 1000000 in
theorem does_any (w : World) (g : Nat) (s : DS) (k n : Int) (t : ByteArray) (h : RefAt w g s) (hf : Fit s) (ht : t.size ≤ 1000000) : Calls Try.prog 11 #[.pointer (some ⟨g, 0, none⟩), .agg #[.int .i64 k, .string t, .int .i64 n]] w (RLeft w g (doV s k t.data.toList n).1 (doV s k t.data.toList n).2) := by
  have hb1 : Below w.heap.size w (w.alloc (.cells #[.int .i64 k, .string t, .int .i64 n] 34)) := below_box (Below.refl _ w) _
  have H1 := Lib.hid (h.up hb1)
  clear h
  unfold doV
  by_cases h0 : k = 0
  · rw [if_pos h0]
    subst h0
    have HW := Lib.hid (rwrite_any _ g t s H1.out hf ht)
    go_enter Try.func11, Try.ntmps11
    go_wp2_with (go_at_call 23; refine HW.out.mono ?_; rintro e1 w2 ⟨rfl, hl⟩)
    go_ret
    exact RLeft.after hb1 ⟨rfl, hl⟩
  rw [if_neg h0]
  have z0 : (k == 0) = false := beq_eq_false_iff_ne.2 h0
  by_cases h1 : k = 1
  · rw [if_pos h1]
    subst h1
    have HW := Lib.hid (rsync_any _ g s H1.out hf)
    go_enter Try.func11, Try.ntmps11
    go_wp2_with (go_at_call 24; refine HW.out.mono ?_; rintro e1 w2 ⟨rfl, hl⟩)
    go_ret
    exact RLeft.after hb1 ⟨rfl, hl⟩
  rw [if_neg h1]
  have z1 : (k == 1) = false := beq_eq_false_iff_ne.2 h1
  by_cases h2 : k = 2
  · rw [if_pos h2]
    subst h2
    have HW := Lib.hid (rreplace_any _ g t s H1.out hf)
    go_enter Try.func11, Try.ntmps11
    go_wp2_with (go_at_call 25; refine HW.out.mono ?_; rintro e1 w2 ⟨rfl, hl⟩)
    go_ret
    exact RLeft.after hb1 ⟨rfl, hl⟩
  rw [if_neg h2]
  have z2 : (k == 2) = false := beq_eq_false_iff_ne.2 h2
  by_cases h3 : k = 3
  · rw [if_pos h3]
    subst h3
    have HW := Lib.hid (rcrash_any _ g n s H1.out hf)
    go_enter Try.func11, Try.ntmps11
    go_wp2_with (go_at_call 26; refine HW.out.mono ?_; rintro e1 w2 ⟨rfl, hl⟩)
    go_ret
    exact RLeft.after hb1 ⟨rfl, hl⟩
  rw [if_neg h3]
  have z3 : (k == 3) = false := beq_eq_false_iff_ne.2 h3
  have HW := Lib.hid (rrestart_any _ g s H1.out hf)
  go_enter Try.func11, Try.ntmps11
  go_wp2_with (go_at_call 27; refine HW.out.mono ?_; rintro e1 w2 ⟨rfl, hl⟩)
  go_ret
  exact RLeft.after hb1 ⟨rfl, hl⟩
theorem small_no (A : Option Addr) (n cap : Nat) (w : World) (h : (300 : Int) < (n : Int)) : Calls Try.prog 8 #[.slice A n cap] w fun e w' => e = .returned (.bool false) ∧ Below w.heap.size w w' := by
  go_enter Try.func8, Try.ntmps8
  go_wp2
  go_ret
  exact ⟨rfl, Below.refl _ _⟩
end Go.Proofs.Ytfejnkgckbcddaa
