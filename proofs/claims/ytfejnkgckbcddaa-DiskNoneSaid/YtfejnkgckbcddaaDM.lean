/- DiskNone: the walk. -/
import Derived.Test.YtfejnkgckbcddaaDL
namespace Go.Proofs.Ytfejnkgckbcddaa
open Go.ChangeShapes Go.WideShapes Go.ChangeAt Go.RowKit
attribute [local go_sem] ownAt ownUpon mixAt mixUpon

set_option maxHeartbeats 1000000 in
theorem do_nil (w : World) (k n : Int) (t : ByteArray) : Calls Try.prog 10 #[.pointer none, .agg #[.int .i64 k, .string t, .int .i64 n]] w fun e w' => e = .returned (.int .i64 10) ∧ Below w.heap.size w w' := by
  have hb1 : Below w.heap.size w (w.alloc (.cells #[.int .i64 k, .string t, .int .i64 n] 34)) := below_box (Below.refl _ w) _
  by_cases h0 : k = 0
  · subst h0
    go_enter Try.func10, Try.ntmps10
    go_wp2_with (go_at_call 18; refine (nil_Write _ _).mono ?_; rintro _ w2 ⟨rfl, rfl⟩)
    go_ret
    exact ⟨rfl, hb1⟩
  have z0 : (k == 0) = false := beq_eq_false_iff_ne.2 h0
  by_cases h1 : k = 1
  · subst h1
    go_enter Try.func10, Try.ntmps10
    go_wp2_with (go_at_call 20; refine (nil_Sync _).mono ?_; rintro _ w2 ⟨rfl, rfl⟩)
    go_ret
    exact ⟨rfl, hb1⟩
  have z1 : (k == 1) = false := beq_eq_false_iff_ne.2 h1
  by_cases h2 : k = 2
  · subst h2
    go_enter Try.func10, Try.ntmps10
    go_wp2_with (go_at_call 19; refine (nil_Replace _ _).mono ?_; rintro _ w2 ⟨rfl, rfl⟩)
    go_ret
    exact ⟨rfl, hb1⟩
  have z2 : (k == 2) = false := beq_eq_false_iff_ne.2 h2
  by_cases h3 : k = 3
  · subst h3
    go_enter Try.func10, Try.ntmps10
    go_wp2_with (go_at_call 21; refine (nil_Crash _ _).mono ?_; rintro _ w2 ⟨rfl, rfl⟩)
    go_ret
    exact ⟨rfl, hb1⟩
  have z3 : (k == 3) = false := beq_eq_false_iff_ne.2 h3
  go_enter Try.func10, Try.ntmps10
  go_wp2_with (go_at_call 22; refine (restart_nil _).mono ?_; rintro _ w2 ⟨rfl, rfl⟩)
  go_ret
  exact ⟨rfl, hb1⟩
theorem zero_fit : Fit ⟨0, [], [], false, [], false⟩ := ⟨by decide, by decide, by decide, by decide⟩
theorem doV_zero (k : Int) (t : List UInt8) (n : Int) : doV ⟨0, [], [], false, [], false⟩ k t n = (10, ⟨0, [], [], false, [], false⟩) := by
  unfold doV
  split
  · rfl
  · split
    · rfl
    · split
      · rfl
      · split <;> rfl
theorem at_do {w0 w : World} {g : Nat} {s s' : DS} {er : Int} (k n : Int) (t : ByteArray) (h : At w0 w g s) (hf : Fit s) (hv : doV s k t.data.toList n = (er, s')) : Calls Try.prog 10 #[.pointer (some ⟨g, 0, none⟩), .agg #[.int .i64 k, .string t, .int .i64 n]] w fun e w' => e = .returned (.int .i64 er) ∧ At w0 w' g s' :=
  at_left h fun F hd => by have := do_any w g F s k n t hd hf; rwa [hv] at this
set_option maxHeartbeats 2000000 in
theorem none_no (sz k n : Int) (t : ByteArray) (w : World) (h : sz < 1 ∨ (1 ≤ sz ∧ 262144 < sz)) : Calls Try.prog 4 #[.int .i64 sz, .agg #[.int .i64 k, .string t, .int .i64 n]] w fun e w' => e = .returned (.bool true) ∧ Below w.heap.size w w' := by
  rcases h with h | ⟨h1, h2⟩
  all_goals
    go_enter Try.func4, Try.ntmps4
    go_wp2_with fail
    refine (newDisk_no sz _ (by omega)).mono ?_
    rintro _ w1 ⟨rfl, rfl⟩
    have H1 : At w ((w.alloc (.cells #[.int .i64 k, .string t, .int .i64 n] 34)).alloc (.cells #[.int .i64 0, .slice none 0 0, .slice none 0 0, .bool false, .slice none 0 0, .bool false] 41)) (w.heap.size + 1) ⟨0, [], [], false, [], false⟩ := by
      have hd := DiskAt.new (w.alloc (.cells #[.int .i64 k, .string t, .int .i64 n] 34)) 0
      simp only [World.size_alloc] at hd
      exact ⟨_, hd, below_box (below_box (Below.refl _ _) _) _, fun b hb => by (simp only [List.mem_singleton] at hb; omega)⟩
    have O1 : Box ((w.alloc (.cells #[.int .i64 k, .string t, .int .i64 n] 34)).alloc (.cells #[.int .i64 0, .slice none 0 0, .slice none 0 0, .bool false, .slice none 0 0, .bool false] 41)) w.heap.size 34 #[.int .i64 k, .string t, .int .i64 n] := (Box.new w 34 #[.int .i64 k, .string t, .int .i64 n]).alloc _
    go_wp2_with fail
    refine (do_nil _ k n t).mono ?_
    rintro _ w2 ⟨rfl, hb⟩
    have H2 := H1.up hb
    have O2 := O1.next hb
    clear hb H1 O1
    have o0 := O2.cell 0 _ rfl
    have o1 := O2.cell 1 _ rfl
    have o2 := O2.cell 2 _ rfl
    have lo := O2.lt
    go_wp2_with fail
    refine (at_do k n t H2 zero_fit (doV_zero k t.data.toList n)).mono ?_
    rintro _ w3 ⟨rfl, H3⟩
    clear o0 o1 o2 lo O2 H2
    go_wp2_with fail
    refine (contents_nil _).mono ?_
    rintro _ wy ⟨rfl, rfl⟩
    go_wp2_with fail
    refine (at_contents H3 zero_fit (x := ⟨#[]⟩) rfl).mono ?_
    rintro _ w4 ⟨rfl, H4⟩
    go_wp2_with fail
    refine (synced_nil _).mono ?_
    rintro _ wy ⟨rfl, rfl⟩
    go_wp2_with fail
    refine (at_synced H4 (n := 0) rfl).mono ?_
    rintro _ w5 ⟨rfl, H5⟩
    go_wp2_with fail
    refine (down_nil _).mono ?_
    rintro _ wy ⟨rfl, rfl⟩
    go_wp2_with fail
    refine (at_down H5 (r := false) rfl).mono ?_
    rintro _ w6 ⟨rfl, H6⟩
    go_wp2_with fail
    refine (awake_any _).mono ?_
    rintro _ w7 ⟨rfl, hb⟩
    go_wp2
    go_ret
    exact ⟨rfl, below_step H6.below hb⟩
set_option maxHeartbeats 2000000 in
theorem none_yes (sz k n : Int) (t : ByteArray) (w : World) (h1 : 1 ≤ sz) (h2 : sz ≤ 262144) : Calls Try.prog 4 #[.int .i64 sz, .agg #[.int .i64 k, .string t, .int .i64 n]] w fun e w' => e = .returned (.bool true) ∧ Below w.heap.size w w' := by
  go_enter Try.func4, Try.ntmps4
  go_wp2_with fail
  refine (newDisk_yes sz _ h1 h2).mono ?_
  rintro _ w1 ⟨rfl, hw⟩
  have hb1 : Below w.heap.size w w1 := by rw [hw]; exact below_box (below_box (Below.refl _ _) _) _
  have O0 : Box w1 w.heap.size 34 #[.int .i64 k, .string t, .int .i64 n] := by rw [hw]; exact (Box.new w 34 #[.int .i64 k, .string t, .int .i64 n]).alloc _
  clear hw
  have H1 : At w (w1.alloc (.cells #[.int .i64 0, .slice none 0 0, .slice none 0 0, .bool false, .slice none 0 0, .bool false] 41)) w1.heap.size ⟨0, [], [], false, [], false⟩ := ⟨_, DiskAt.new w1 0, below_box hb1 _, fun b hb => by (simp only [List.mem_singleton] at hb; subst hb; exact hb1.size)⟩
  have O1 : Box (w1.alloc (.cells #[.int .i64 0, .slice none 0 0, .slice none 0 0, .bool false, .slice none 0 0, .bool false] 41)) w.heap.size 34 #[.int .i64 k, .string t, .int .i64 n] := O0.alloc _
  have o0 := O0.cell 0 _ rfl
  have o1 := O0.cell 1 _ rfl
  have o2 := O0.cell 2 _ rfl
  have lo := O0.lt
  go_wp2_with fail
  refine (do_nil _ k n t).mono ?_
  rintro _ w2 ⟨rfl, hb⟩
  have H2 := H1.up hb
  have O2 := O1.next hb
  clear o0 o1 o2 lo O0 hb1
  clear hb H1 O1
  have o0 := O2.cell 0 _ rfl
  have o1 := O2.cell 1 _ rfl
  have o2 := O2.cell 2 _ rfl
  have lo := O2.lt
  go_wp2_with fail
  refine (at_do k n t H2 zero_fit (doV_zero k t.data.toList n)).mono ?_
  rintro _ w3 ⟨rfl, H3⟩
  clear o0 o1 o2 lo O2 H2
  go_wp2_with fail
  refine (contents_nil _).mono ?_
  rintro _ wy ⟨rfl, rfl⟩
  go_wp2_with fail
  refine (at_contents H3 zero_fit (x := ⟨#[]⟩) rfl).mono ?_
  rintro _ w4 ⟨rfl, H4⟩
  go_wp2_with fail
  refine (synced_nil _).mono ?_
  rintro _ wy ⟨rfl, rfl⟩
  go_wp2_with fail
  refine (at_synced H4 (n := 0) rfl).mono ?_
  rintro _ w5 ⟨rfl, H5⟩
  go_wp2_with fail
  refine (down_nil _).mono ?_
  rintro _ wy ⟨rfl, rfl⟩
  go_wp2_with fail
  refine (at_down H5 (r := false) rfl).mono ?_
  rintro _ w6 ⟨rfl, H6⟩
  go_wp2_with fail
  refine (awake_any _).mono ?_
  rintro _ w7 ⟨rfl, hb⟩
  go_wp2
  go_ret
  exact ⟨rfl, below_step H6.below hb⟩
theorem diskNone_walk (sz k : Int) (t : ByteArray) (n : Int) (w : World) {p0 p1 p2 p3 : Prop} (_ : p0) (_ : p1) (_ : p2) (_ : p3) : Calls Try.prog 4 #[.int .i64 sz, .agg #[.int .i64 k, .string t, .int .i64 n]] w fun e w' => e = .returned (.bool true) ∧ Below w.heap.size w w' := by
  by_cases h : 1 ≤ sz ∧ sz ≤ 262144
  · exact none_yes sz k n t w h.1 h.2
  · exact none_no sz k n t w (by omega)
end Go.Proofs.Ytfejnkgckbcddaa
