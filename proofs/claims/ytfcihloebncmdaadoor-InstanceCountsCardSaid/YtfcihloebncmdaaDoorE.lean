/- Layer 37 (instance): awake; the walks of the laws InstanceSteps, InstanceLegal and InstancePlays. -/
import Derived.Test.YtfcihloebncmdaaDoorD
namespace Go.Proofs.YtfcihloebncmdaaDoor
open Go.ChangeShapes Go.WideShapes Go.ChangeAt Go.RowKit

def eqI (a a' : ByteArray) (b c d b' c' d' : Int) : Bool := decide (a.toList = a'.toList) && (b == b' && (c == c' && d == d'))
theorem eqI_self (a : ByteArray) (b c d : Int) : eqI a a b c d b c d = true := by simp [eqI]
theorem eql24 (a a' : ByteArray) (b c d b' c' d' : Int) (w : World) : (binOp .eql 24 (.agg #[.string a, .int .i64 b, .int .i64 c, .int .i64 d]) (.agg #[.string a', .int .i64 b', .int .i64 c', .int .i64 d'])).run Tryd.prog w = .ok (.bool (eqI a a' b c d b' c' d')) w := by
  unfold eqI
  by_cases h1 : a.toList = a'.toList <;> cases h2 : b == b' <;> cases h3 : c == c' <;> cases h4 : d == d' <;> simp [go_sem, h1, h2, h3, h4]
attribute [local go_sem high] eql24

theorem seg_of_box {w : World} {b n : Nat} {t : TypeId} {cs : Array Value} {g : Nat → Value} (h : Box w b t cs) (hg : ∀ k, k < n → cs[k]? = some (g k)) : Seg w (some ⟨b, 0, none⟩) n g :=
  fun k hk => ⟨b, 0, rfl, h.lt, by rw [Nat.zero_add]; exact h.cell k _ (hg k hk)⟩

theorem aw1 : newV ⟨#[105]⟩ 3 = ⟨⟨#[105]⟩, 1, 3, 0, 0⟩ := by kernel_rfl
theorem aw2 : playI ⟨#[105]⟩ 5 [1, 2, 3, 4] 1 3 0 0 = ⟨4, 5, 1, 4⟩ := by kernel_rfl
theorem aw3 : stepV ⟨#[105]⟩ 4 5 1 2 6 = ⟨⟨#[]⟩, 0, 0, 0, 10⟩ := by kernel_rfl
theorem aw4 : playI ⟨#[105]⟩ 5 [1, 1] 1 3 0 0 = ⟨2, 5, 0, 1⟩ := by kernel_rfl
theorem aw5 : idleV ⟨#[105]⟩ 2 5 0 8 = 3 := by kernel_rfl
theorem aw6 : idleV ⟨#[105]⟩ 2 5 0 4 = 0 := by kernel_rfl
theorem awS : (⟨#[105]⟩ : ByteArray).size ≤ maxLen := by unfold maxLen; decide

set_option maxHeartbeats 1000000 in
theorem awake_core (w : World) (hT : Tab w)
    (H1 : Hid (∀ W, Calls Tryd.prog 9 #[.string ⟨#[105]⟩, .int .i64 3] W fun e w' => e = .returned (.tuple #[.agg #[.string ⟨#[105]⟩, .int .i64 1, .int .i64 3, .int .i64 0], .int .i64 0]) ∧ Below W.heap.size W w'))
    (H2 : Hid (∀ W (A : Option Addr) (cap : Nat), Tab W → Seg W A 4 (ints [1, 2, 3, 4]) → Calls Tryd.prog 19 #[.agg #[.string ⟨#[105]⟩, .int .i64 1, .int .i64 3, .int .i64 0], .slice A 4 cap, .int .i64 5] W fun e w' => e = .returned (.tuple #[.agg #[.string ⟨#[105]⟩, .int .i64 4, .int .i64 5, .int .i64 1], .int .i64 4]) ∧ Below W.heap.size W w'))
    (H3 : Hid (∀ W, Tab W → Calls Tryd.prog 11 #[.agg #[.string ⟨#[105]⟩, .int .i64 4, .int .i64 5, .int .i64 1], .int .i64 2, .int .i64 6] W fun e w' => e = .returned (.tuple #[.agg #[.string ⟨#[]⟩, .int .i64 0, .int .i64 0, .int .i64 0], .int .i64 10]) ∧ Below W.heap.size W w'))
    (H4 : Hid (∀ W (A : Option Addr) (cap : Nat), Tab W → Seg W A 2 (ints [1, 1]) → Calls Tryd.prog 19 #[.agg #[.string ⟨#[105]⟩, .int .i64 1, .int .i64 3, .int .i64 0], .slice A 2 cap, .int .i64 5] W fun e w' => e = .returned (.tuple #[.agg #[.string ⟨#[105]⟩, .int .i64 2, .int .i64 5, .int .i64 0], .int .i64 1]) ∧ Below W.heap.size W w'))
    (H5 : Hid (∀ W, Calls Tryd.prog 15 #[.agg #[.string ⟨#[105]⟩, .int .i64 2, .int .i64 5, .int .i64 0], .int .i64 8] W fun e w' => e = .returned (.int .i64 3) ∧ Below W.heap.size W w'))
    (H6 : Hid (∀ W, Calls Tryd.prog 15 #[.agg #[.string ⟨#[105]⟩, .int .i64 2, .int .i64 5, .int .i64 0], .int .i64 4] W fun e w' => e = .returned (.int .i64 0) ∧ Below W.heap.size W w')) :
    Calls Tryd.prog 8 #[] w fun e w' => e = .returned (.bool true) ∧ Below w.heap.size w w' := by
  go_enter Tryd.func8, Tryd.ntmps8
  go_wp2_with fail
  refine (H1.out _).mono ?_
  rintro _ w1 ⟨rfl, hb⟩
  have hB := hb
  clear hb
  go_wp2_with fail
  have b1 := below_box (below_box hB (.cells #[.string ⟨#[105]⟩, .int .i64 1, .int .i64 3, .int .i64 0] 24)) (.cells #[.int .i64 1, .int .i64 2, .int .i64 3, .int .i64 4] 25)
  have B5 := Box.new (w1.alloc (.cells #[.string ⟨#[105]⟩, .int .i64 1, .int .i64 3, .int .i64 0] 24)) 25 #[.int .i64 1, .int .i64 2, .int .i64 3, .int .i64 4]
  simp only [World.size_alloc] at B5
  refine (H2.out _ _ _ (hT.next b1) (seg_of_box B5 (fun k hk => by match k, hk with | 0, _ => rfl | 1, _ => rfl | 2, _ => rfl | 3, _ => rfl))).mono ?_
  rintro _ w2 ⟨rfl, hb⟩
  have B1 := ((Box.new w1 24 #[.string ⟨#[105]⟩, .int .i64 1, .int .i64 3, .int .i64 0]).alloc (.cells #[.int .i64 1, .int .i64 2, .int .i64 3, .int .i64 4] 25)).next hb
  replace hB := below_step b1 hb
  clear hb b1 B5
  go_wp2_with fail
  have b1 := below_box hB (.cells #[.string ⟨#[105]⟩, .int .i64 4, .int .i64 5, .int .i64 1] 24)
  refine (H3.out _ (hT.next b1)).mono ?_
  rintro _ w3 ⟨rfl, hb⟩
  replace B1 := (B1.alloc _).next hb
  have B3 := (Box.new w2 24 #[.string ⟨#[105]⟩, .int .i64 4, .int .i64 5, .int .i64 1]).next hb
  replace hB := below_step b1 hb
  clear hb b1
  obtain ⟨p0, p1, p2, p3⟩ := B1.cells4
  have z1 := B1.lt
  go_wp2_with fail
  have b1 := below_box (below_box hB (.cells #[.string ⟨#[]⟩, .int .i64 0, .int .i64 0, .int .i64 0] 24)) (.cells #[.int .i64 1, .int .i64 1] 25)
  have B5 := Box.new (w3.alloc (.cells #[.string ⟨#[]⟩, .int .i64 0, .int .i64 0, .int .i64 0] 24)) 25 #[.int .i64 1, .int .i64 1]
  simp only [World.size_alloc] at B5
  refine (H4.out _ _ _ (hT.next b1) (seg_of_box B5 (fun k hk => by match k, hk with | 0, _ => rfl | 1, _ => rfl))).mono ?_
  rintro _ w4 ⟨rfl, hb⟩
  replace B3 := ((B3.alloc (.cells #[.string ⟨#[]⟩, .int .i64 0, .int .i64 0, .int .i64 0] 24)).alloc (.cells #[.int .i64 1, .int .i64 1] 25)).next hb
  replace hB := below_step b1 hb
  clear hb b1 p0 p1 p2 p3 z1 B1 B5
  obtain ⟨p0, p1, p2, p3⟩ := B3.cells4
  have z3 := B3.lt
  go_wp2_with fail
  refine (H5.out _).mono ?_
  rintro _ w5 ⟨rfl, hb⟩
  have B7 := (Box.new w4 24 #[.string ⟨#[105]⟩, .int .i64 2, .int .i64 5, .int .i64 0]).next hb
  replace hB := below_step (below_box hB _) hb
  clear hb p0 p1 p2 p3 z3 B3
  obtain ⟨p0, p1, p2, p3⟩ := B7.cells4
  go_wp2_with fail
  refine (H6.out _).mono ?_
  rintro _ w6 ⟨rfl, hb⟩
  go_wp2
  go_ret
  exact ⟨rfl, below_step hB hb⟩
theorem awake_any (w : World) (hT : Tab w) : Calls Tryd.prog 8 #[] w fun e w' => e = .returned (.bool true) ∧ Below w.heap.size w w' := by
  refine awake_core w hT (fun W => ?_) (fun W A cap k1 k2 => ?_) (fun W k1 => ?_) (fun W A cap k1 k2 => ?_) (fun W => ?_) (fun W => ?_)
  · have h := new_any ⟨#[105]⟩ 3 W awS
    rw [aw1] at h
    exact h
  · have h := play_any ⟨#[105]⟩ 1 3 0 5 A 4 cap [1, 2, 3, 4] W awS k1 rfl k2 (by decide)
    rw [aw2] at h
    exact h
  · have h := step_any ⟨#[105]⟩ 4 5 1 2 6 W awS k1
    rw [aw3] at h
    exact h
  · have h := play_any ⟨#[105]⟩ 1 3 0 5 A 2 cap [1, 1] W awS k1 rfl k2 (by decide)
    rw [aw4] at h
    exact h
  · have h := idle_any ⟨#[105]⟩ 2 5 0 8 W awS
    rw [aw5] at h
    exact h
  · have h := idle_any ⟨#[105]⟩ 2 5 0 4 W awS
    rw [aw6] at h
    exact h

theorem leg_law (s a : Int) (h : legB s a = true) : s ≠ 5 ∧ (s ≠ 3 ∨ a = 3 ∨ a = 7) := by
  unfold legB nxt at h
  simp only [bne_iff_ne, ne_eq] at h
  repeat' split at h
  all_goals omega
set_option maxHeartbeats 1000000 in
theorem legal_walk (s a : Int) (w : World) (hT : Tab w) : Calls Tryd.prog 4 #[.int .i64 s, .int .i64 a] w fun e w' => e = .returned (.bool true) ∧ Below w.heap.size w w' := by
  have h1 : Hid (Calls _ _ _ _ _) := legal_any s a w hT
  have h2 : Hid (Calls _ _ _ _ _) := rlegal_any s a w
  have h3 : Hid (Calls _ _ _ _ _) := awake_any w hT
  have hl := leg_law s a
  clear hT
  generalize legB s a = b at *
  cases b
  · clear hl
    go_enter Tryd.func4, Tryd.ntmps4
    go_wp2_with (first | (go_at_call 17; refine h1.out.mono ?_; rintro _ _ ⟨rfl, rfl⟩) | (go_at_call 18; refine h2.out.mono ?_; rintro _ _ ⟨rfl, rfl⟩) | (go_at_call 8; refine h3.out.mono ?_; rintro _ w1 ⟨rfl, hb⟩))
    go_ret
    exact ⟨rfl, hb⟩
  · obtain ⟨k1, k2⟩ := hl rfl
    clear hl
    have e5 : (s != 5) = true := by simpa using k1
    by_cases k3 : s = 3
    · subst k3
      rcases (by omega : a = 3 ∨ a = 7) with rfl | rfl
      all_goals
        go_enter Tryd.func4, Tryd.ntmps4
        go_wp2_with (first | (go_at_call 17; refine h1.out.mono ?_; rintro _ _ ⟨rfl, rfl⟩) | (go_at_call 18; refine h2.out.mono ?_; rintro _ _ ⟨rfl, rfl⟩) | (go_at_call 8; refine h3.out.mono ?_; rintro _ w1 ⟨rfl, hb⟩))
        go_ret
        exact ⟨rfl, hb⟩
    · have e3 : (s != 3) = true := by simpa using k3
      clear k1 k2 k3
      go_enter Tryd.func4, Tryd.ntmps4
      go_wp2_with (first | (go_at_call 17; refine h1.out.mono ?_; rintro _ _ ⟨rfl, rfl⟩) | (go_at_call 18; refine h2.out.mono ?_; rintro _ _ ⟨rfl, rfl⟩) | (go_at_call 8; refine h3.out.mono ?_; rintro _ w1 ⟨rfl, hb⟩))
      go_ret
      exact ⟨rfl, hb⟩

set_option maxHeartbeats 400000 in
theorem steps_e1 (s id : ByteArray) (st si us a now : Int) (w : World) (hT : Tab w) (h : decide ((300 : Int) < (s.size : Int)) = true) : Calls Tryd.prog 3 #[.string s, .agg #[.string id, .int .i64 st, .int .i64 si, .int .i64 us], .int .i64 a, .int .i64 now] w fun e w' => e = .returned (.bool true) ∧ Below w.heap.size w w' := by
  have b1 := (Below.refl w.heap.size w).alloc (Nat.le_refl _) (.cells #[.string id, .int .i64 st, .int .i64 si, .int .i64 us] 24)
  have h3 : Hid (Calls _ _ _ _ _) := awake_any _ (hT.next b1)
  clear hT
  go_enter Tryd.func3, Tryd.ntmps3
  go_wp2_with (go_at_call 8; refine h3.out.mono ?_; rintro _ w1 ⟨rfl, hb⟩)
  go_ret
  exact ⟨rfl, below_step b1 hb⟩
set_option maxHeartbeats 400000 in
theorem steps_e2 (s id : ByteArray) (st si us a now : Int) (w : World) (hT : Tab w) (h0 : decide ((300 : Int) < (s.size : Int)) = false) (h : decide ((300 : Int) < (id.size : Int)) = true) : Calls Tryd.prog 3 #[.string s, .agg #[.string id, .int .i64 st, .int .i64 si, .int .i64 us], .int .i64 a, .int .i64 now] w fun e w' => e = .returned (.bool true) ∧ Below w.heap.size w w' := by
  have b1 := (Below.refl w.heap.size w).alloc (Nat.le_refl _) (.cells #[.string id, .int .i64 st, .int .i64 si, .int .i64 us] 24)
  have h3 : Hid (Calls _ _ _ _ _) := awake_any _ (hT.next b1)
  clear hT
  go_enter Tryd.func3, Tryd.ntmps3
  go_wp2_with (go_at_call 8; refine h3.out.mono ?_; rintro _ w1 ⟨rfl, hb⟩)
  go_ret
  exact ⟨rfl, below_step b1 hb⟩

set_option maxHeartbeats 2000000 in
set_option maxRecDepth 100000 in
theorem steps_main (s id : ByteArray) (st si us a now : Int) (w : World) (hT : Tab w) (g0 : decide ((300 : Int) < (s.size : Int)) = false) (g1 : decide ((300 : Int) < (id.size : Int)) = false) (m0 : s.size ≤ maxLen) (m1 : id.size ≤ maxLen) :
    Calls Tryd.prog 3 #[.string s, .agg #[.string id, .int .i64 st, .int .i64 si, .int .i64 us], .int .i64 a, .int .i64 now] w fun e w' => e = .returned (.bool true) ∧ Below w.heap.size w w' := by
  have h1 : Hid (∀ W, _) := fun W => new_any s now W m0
  have h2 : Hid (∀ W, _) := fun W => rnew_any s now W m0
  have h3 : Hid (∀ W, Tab W → _) := fun W k => step_any id st si us a now W m1 k
  have h4 : Hid (∀ W, Tab W → _) := fun W k => rstep_any id st si us a now W m1 k
  have h5 : Hid (∀ W, _) := fun W => check_any id st si us W m1
  have h6 : Hid (∀ W, _) := fun W => rcheck_any id st si us W m1
  have h7 : Hid (∀ W, _) := fun W => idle_any id st si us now W m1
  have h8 : Hid (∀ W, _) := fun W => ridle_any id st si us now W m1
  clear m0 m1
  generalize newV s now = x at *
  generalize stepV id st si us a now = y at *
  generalize chk id st si us = ck at *
  generalize idleV id st si us now = il at *
  obtain ⟨xi, xa, xb, xc, xe⟩ := x
  obtain ⟨yi, ya, yb, yc, ye⟩ := y
  simp only at h1 h2 h3 h4
  have hq := eqI_self xi xa xb xc
  have hq' := eqI_self yi ya yb yc
  have HT := Lib.hid hT
  clear hT
  go_enter Tryd.func3, Tryd.ntmps3
  go_wp2_with fail
  refine (h1.out _).mono ?_
  rintro _ w1 ⟨rfl, hb⟩
  have B0 := (Box.new w 24 #[.string id, .int .i64 st, .int .i64 si, .int .i64 us]).next hb
  have hB := below_step ((Below.refl _ w).alloc (Nat.le_refl _) _) hb
  clear hb
  go_wp2_with fail
  refine (h2.out _).mono ?_
  rintro _ w2 ⟨rfl, hb⟩
  replace B0 := (B0.alloc _).next hb
  have B1 := (Box.new w1 24 #[.string xi, .int .i64 xa, .int .i64 xb, .int .i64 xc]).next hb
  replace hB := below_step (below_box hB _) hb
  clear hb
  obtain ⟨p0, p1, p2, p3⟩ := B0.cells4
  have z0 := B0.lt
  go_wp2_with fail
  have b1 := below_box hB (.cells #[.string xi, .int .i64 xa, .int .i64 xb, .int .i64 xc] 24)
  refine (h3.out _ (HT.out.next b1)).mono ?_
  rintro _ w3 ⟨rfl, hb⟩
  replace B0 := (B0.alloc _).next hb
  replace B1 := (B1.alloc _).next hb
  have B2 := (Box.new w2 24 #[.string xi, .int .i64 xa, .int .i64 xb, .int .i64 xc]).next hb
  replace hB := below_step b1 hb
  clear hb b1 p0 p1 p2 p3 z0
  obtain ⟨p0, p1, p2, p3⟩ := B0.cells4
  have z0 := B0.lt
  go_wp2_with fail
  have b1 := below_box hB (.cells #[.string yi, .int .i64 ya, .int .i64 yb, .int .i64 yc] 24)
  refine (h4.out _ (HT.out.next b1)).mono ?_
  rintro _ w4 ⟨rfl, hb⟩
  replace B0 := (B0.alloc _).next hb
  replace B1 := (B1.alloc _).next hb
  replace B2 := (B2.alloc _).next hb
  have B3 := (Box.new w3 24 #[.string yi, .int .i64 ya, .int .i64 yb, .int .i64 yc]).next hb
  replace hB := below_step b1 hb
  clear hb b1 p0 p1 p2 p3 z0
  go_upto_region 7 with fail
  replace B0 := B0.alloc (.cells #[.string yi, .int .i64 ya, .int .i64 yb, .int .i64 yc] 24)
  replace B1 := B1.alloc (.cells #[.string yi, .int .i64 ya, .int .i64 yb, .int .i64 yc] 24)
  replace B2 := B2.alloc (.cells #[.string yi, .int .i64 ya, .int .i64 yb, .int .i64 yc] 24)
  replace B3 := B3.alloc (.cells #[.string yi, .int .i64 ya, .int .i64 yb, .int .i64 yc] 24)
  have B4 := Box.new w4 24 #[.string yi, .int .i64 ya, .int .i64 yb, .int .i64 yc]
  replace hB := below_box hB (.cells #[.string yi, .int .i64 ya, .int .i64 yb, .int .i64 yc] 24)
  generalize w4.alloc (.cells #[.string yi, .int .i64 ya, .int .i64 yb, .int .i64 yc] 24) = w5 at *
  obtain ⟨i00, i01, i02, i03⟩ := B0.icells4
  obtain ⟨i10, i11, i12, i13⟩ := B1.icells4
  obtain ⟨i20, i21, i22, i23⟩ := B2.icells4
  obtain ⟨i30, i31, i32, i33⟩ := B3.icells4
  obtain ⟨i40, i41, i42, i43⟩ := B4.icells4
  refine wp_region_calm (by kernel_rfl) (by kernel_rfl) ?_
  repeat (quiet_step ((first | (go_at_call 13; exact calm_of (h5.out _)) | (go_at_call 14; exact calm_of (h6.out _)) | (go_at_call 15; exact calm_of (h7.out _)) | (go_at_call 16; exact calm_of (h8.out _)) | (go_at_call 8; exact calm_of (awake_any _ ((HT.out.next hB).next (Idx.below _)))))))
  refine wpQuiet_nil ?_
  rintro _ ⟨⟨w7, hb⟩, rfl⟩
  go_wp2
  go_ret
  exact ⟨rfl, below_step hB hb⟩
theorem steps_walk (s id : ByteArray) (st si us a now : Int) (w : World) (hT : Tab w) (m0 : s.size ≤ maxLen) (m1 : id.size ≤ maxLen) : Calls Tryd.prog 3 #[.string s, .agg #[.string id, .int .i64 st, .int .i64 si, .int .i64 us], .int .i64 a, .int .i64 now] w fun e w' => e = .returned (.bool true) ∧ Below w.heap.size w w' := by
  by_cases g0 : 300 < s.size
  · exact steps_e1 s id st si us a now w hT (by simp; omega)
  · by_cases g1 : 300 < id.size
    · exact steps_e2 s id st si us a now w hT (by simp; omega) (by simp; omega)
    · exact steps_main s id st si us a now w hT (by simp; omega) (by simp; omega) m0 m1

theorem instanceLegal_walk (s a : Int) (w : World) (hT : Tab w) (_ : (Lit.int .i64 s).wf = true) (_ : (Lit.int .i64 a).wf = true) : Calls Tryd.prog 4 #[.int .i64 s, .int .i64 a] w fun e w' => e = .returned (.bool true) ∧ Below w.heap.size w w' := legal_walk s a w hT
theorem instanceSteps_walk (s id : ByteArray) (st si us a now : Int) (w : World) (hT : Tab w) (m0 : s.size ≤ maxLen) (m1 : id.size ≤ maxLen) (_ : (Lit.int .i64 st).wf = true) (_ : (Lit.int .i64 si).wf = true) (_ : (Lit.int .i64 us).wf = true) (_ : (Lit.int .i64 a).wf = true) (_ : (Lit.int .i64 now).wf = true) : Calls Tryd.prog 3 #[.string s, .agg #[.string id, .int .i64 st, .int .i64 si, .int .i64 us], .int .i64 a, .int .i64 now] w fun e w' => e = .returned (.bool true) ∧ Below w.heap.size w w' := steps_walk s id st si us a now w hT m0 m1
end Go.Proofs.YtfcihloebncmdaaDoor
