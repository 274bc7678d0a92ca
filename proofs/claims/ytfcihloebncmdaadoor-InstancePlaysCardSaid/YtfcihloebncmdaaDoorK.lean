/- Layer 37 (instance): the walk of the law InstancePlays. -/
import Derived.Test.YtfcihloebncmdaaDoorE
namespace Go.Proofs.YtfcihloebncmdaaDoor
open Go.ChangeShapes Go.WideShapes Go.ChangeAt Go.RowKit
attribute [local go_sem high] eql24

set_option maxHeartbeats 400000 in
theorem plays_e1 (id : ByteArray) (st si us now : Int) (A : Option Addr) (n cap : Nat) (w : World) (hT : Tab w) (h : decide ((300 : Int) < (n : Int)) = true) : Calls Tryd.prog 5 #[.agg #[.string id, .int .i64 st, .int .i64 si, .int .i64 us], .slice A n cap, .int .i64 now] w fun e w' => e = .returned (.bool true) ∧ Below w.heap.size w w' := by
  have b1 := (Below.refl w.heap.size w).alloc (Nat.le_refl _) (.cells #[.string id, .int .i64 st, .int .i64 si, .int .i64 us] 24)
  have h3 : Hid (Calls _ _ _ _ _) := awake_any _ (hT.next b1)
  clear hT
  go_enter Tryd.func5, Tryd.ntmps5
  go_wp2_with (go_at_call 8; refine h3.out.mono ?_; rintro _ w1 ⟨rfl, hb⟩)
  go_ret
  exact ⟨rfl, below_step b1 hb⟩
set_option maxHeartbeats 400000 in
theorem plays_e2 (id : ByteArray) (st si us now : Int) (A : Option Addr) (n cap : Nat) (w : World) (hT : Tab w) (h0 : decide ((300 : Int) < (n : Int)) = false) (h : decide ((300 : Int) < (id.size : Int)) = true) : Calls Tryd.prog 5 #[.agg #[.string id, .int .i64 st, .int .i64 si, .int .i64 us], .slice A n cap, .int .i64 now] w fun e w' => e = .returned (.bool true) ∧ Below w.heap.size w w' := by
  have b1 := (Below.refl w.heap.size w).alloc (Nat.le_refl _) (.cells #[.string id, .int .i64 st, .int .i64 si, .int .i64 us] 24)
  have h3 : Hid (Calls _ _ _ _ _) := awake_any _ (hT.next b1)
  clear hT
  go_enter Tryd.func5, Tryd.ntmps5
  go_wp2_with (go_at_call 8; refine h3.out.mono ?_; rintro _ w1 ⟨rfl, hb⟩)
  go_ret
  exact ⟨rfl, below_step b1 hb⟩

set_option maxHeartbeats 1000000 in
theorem plays_main (id : ByteArray) (st si us now : Int) (A : Option Addr) (n cap : Nat) (l : List Int) (w : World) (hT : Tab w) (hn : l.length = n) (hl : Seg w A n (ints l)) (g0 : decide ((300 : Int) < (n : Int)) = false) (g1 : decide ((300 : Int) < (id.size : Int)) = false) (m1 : id.size ≤ maxLen) (hbig : n ≤ 9223372036854775807) :
    Calls Tryd.prog 5 #[.agg #[.string id, .int .i64 st, .int .i64 si, .int .i64 us], .slice A n cap, .int .i64 now] w fun e w' => e = .returned (.bool true) ∧ Below w.heap.size w w' := by
  have h1 : Hid (∀ W, Tab W → Seg W A n (ints l) → _) := fun W k1 k2 => play_any id st si us now A n cap l W m1 k1 hn k2 hbig
  have h2 : Hid (∀ W, Tab W → Seg W A n (ints l) → _) := fun W k1 k2 => rplay_any id st si us now A n cap l W m1 k1 hn k2 hbig
  clear m1 hn hbig
  generalize playI id now l st si us 0 = x at *
  obtain ⟨xa, xb, xc, xn⟩ := x
  simp only at h1 h2
  have hq := eqI_self id xa xb xc
  have HT := Lib.hid hT
  have HL := Lib.hid hl
  clear hT hl
  have b1 := (Below.refl w.heap.size w).alloc (Nat.le_refl _) (.cells #[.string id, .int .i64 st, .int .i64 si, .int .i64 us] 24)
  go_enter Tryd.func5, Tryd.ntmps5
  go_wp2_with fail
  refine (h1.out _ (HT.out.next b1) (HL.out.next b1)).mono ?_
  rintro _ w1 ⟨rfl, hb⟩
  have B0 := (Box.new w 24 #[.string id, .int .i64 st, .int .i64 si, .int .i64 us]).next hb
  have hB := below_step b1 hb
  clear hb b1
  obtain ⟨p0, p1, p2, p3⟩ := B0.cells4
  have z0 := B0.lt
  go_wp2_with fail
  have b1 := below_box hB (.cells #[.string id, .int .i64 xa, .int .i64 xb, .int .i64 xc] 24)
  refine (h2.out _ (HT.out.next b1) (HL.out.next b1)).mono ?_
  rintro _ w2 ⟨rfl, hb⟩
  have B1 := (Box.new w1 24 #[.string id, .int .i64 xa, .int .i64 xb, .int .i64 xc]).next hb
  replace hB := below_step b1 hb
  clear hb b1 p0 p1 p2 p3 z0 B0
  obtain ⟨p0, p1, p2, p3⟩ := B1.cells4
  have z0 := B1.lt
  go_wp2_with fail
  have b1 := below_box hB (.cells #[.string id, .int .i64 xa, .int .i64 xb, .int .i64 xc] 24)
  refine (awake_any _ (HT.out.next b1)).mono ?_
  rintro _ w3 ⟨rfl, hb⟩
  replace hB := below_step b1 hb
  clear hb b1
  go_wp2
  go_ret
  exact ⟨rfl, hB⟩
theorem instancePlays_walk (id : ByteArray) (st si us : Int) (A : Option Addr) (n cap : Nat) (l : List Int) (now : Int) (w : World) (hT : Tab w) (m1 : id.size ≤ maxLen) (_ : (Lit.int .i64 st).wf = true) (_ : (Lit.int .i64 si).wf = true) (_ : (Lit.int .i64 us).wf = true)
    (hl : l.length = n ∧ Seg w A n (ints l) ∧ (∀ n ∈ l, (Lit.int .i64 n).wf = true) ∧ n ≤ maxLen) (_ : (Lit.int .i64 now).wf = true) : Calls Tryd.prog 5 #[.agg #[.string id, .int .i64 st, .int .i64 si, .int .i64 us], .slice A n cap, .int .i64 now] w fun e w' => e = .returned (.bool true) ∧ Below w.heap.size w w' := by
  obtain ⟨h1, h2, _, h4⟩ := hl
  unfold maxLen at h4
  by_cases g0 : 300 < n
  · exact plays_e1 id st si us now A n cap w hT (by simp; omega)
  · by_cases g1 : 300 < id.size
    · exact plays_e2 id st si us now A n cap w hT (by simp; omega) (by simp; omega)
    · exact plays_main id st si us now A n cap l w hT h1 h2 (by simp; omega) (by simp; omega) m1 (by omega)
end Go.Proofs.YtfcihloebncmdaaDoor
