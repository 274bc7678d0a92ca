/- The walks of the laws BucketPlays and BucketBounds of layer 39. -/
import Derived.Test.YtmfekechdejefaaF
namespace Go.Proofs.Ytmfekechdejefaa
open Go.ChangeShapes Go.WideShapes Go.ChangeAt Go.RowKit
attribute [local go_sem high] eql23 neq23
attribute [local go_sem] ownAt ownUpon

set_option maxHeartbeats 400000 in
theorem plays_long (r s l t : Int) (A A' : Option Addr) (n n' cap cap' : Nat) (w : World) (hl : decide ((300 : Int) < (n : Int)) = true) :
    Calls Try.prog 7 #[.agg #[.int .i64 r, .int .i64 s, .int .i64 l, .int .i64 t], .slice A n cap, .slice A' n' cap'] w fun e w' => e = .returned (.bool true) ∧ Below w.heap.size w w' := by
  go_enter Try.func7, Try.ntmps7
  go_wp2_with (go_at_call 17; refine (awake_any _).mono ?_; rintro _ w1 ⟨rfl, hb⟩)
  go_ret
  exact ⟨rfl, below_step ((Below.refl _ w).alloc (Nat.le_refl _) _) hb⟩
set_option maxHeartbeats 400000 in
theorem plays_long' (r s l t : Int) (A A' : Option Addr) (n n' cap cap' : Nat) (w : World) (h0 : decide ((300 : Int) < (n : Int)) = false) (hl : decide ((300 : Int) < (n' : Int)) = true) :
    Calls Try.prog 7 #[.agg #[.int .i64 r, .int .i64 s, .int .i64 l, .int .i64 t], .slice A n cap, .slice A' n' cap'] w fun e w' => e = .returned (.bool true) ∧ Below w.heap.size w w' := by
  go_enter Try.func7, Try.ntmps7
  go_wp2_with (go_at_call 17; refine (awake_any _).mono ?_; rintro _ w1 ⟨rfl, hb⟩)
  go_ret
  exact ⟨rfl, below_step ((Below.refl _ w).alloc (Nat.le_refl _) _) hb⟩
set_option maxHeartbeats 400000 in
theorem plays_ok (r s l t v f : Int) (A A' : Option Addr) (n n' cap cap' : Nat) (ts ms : List Int) (w : World) (hts : Hid (Seg w A n (ints ts))) (hms : Hid (Seg w A' n' (ints ms)))
    (h1 : Hid (∀ W, Seg W A n (ints ts) → Seg W A' n' (ints ms) → Calls Try.prog 20 #[.agg #[.int .i64 r, .int .i64 s, .int .i64 l, .int .i64 t], .slice A n cap, .slice A' n' cap'] W fun e w' => e = .returned (.tuple #[.int .i64 v, .int .i64 f]) ∧ Below W.heap.size W w'))
    (h2 : Hid (∀ W, Seg W A n (ints ts) → Seg W A' n' (ints ms) → Calls Try.prog 21 #[.agg #[.int .i64 r, .int .i64 s, .int .i64 l, .int .i64 t], .slice A n cap, .slice A' n' cap'] W fun e w' => e = .returned (.tuple #[.int .i64 v, .int .i64 f]) ∧ Below W.heap.size W w'))
    (g0 : decide ((300 : Int) < (n : Int)) = false) (g1 : decide ((300 : Int) < (n' : Int)) = false) :
    Calls Try.prog 7 #[.agg #[.int .i64 r, .int .i64 s, .int .i64 l, .int .i64 t], .slice A n cap, .slice A' n' cap'] w fun e w' => e = .returned (.bool true) ∧ Below w.heap.size w w' := by
  have hb0 := (Below.refl w.heap.size w).alloc (Nat.le_refl _) (.cells #[.int .i64 r, .int .i64 s, .int .i64 l, .int .i64 t] 23)
  go_enter Try.func7, Try.ntmps7
  go_wp2_with fail
  refine (h1.out _ (hts.out.next hb0) (hms.out.next hb0)).mono ?_
  rintro _ w1 ⟨rfl, hb⟩
  have B0 := (Box.new w 23 #[.int .i64 r, .int .i64 s, .int .i64 l, .int .i64 t]).next hb
  have hB := below_step hb0 hb
  clear hb hb0
  obtain ⟨p0, p1, p2, p3⟩ := B0.cells4
  go_wp2_with fail
  refine (h2.out _ (hts.out.next hB) (hms.out.next hB)).mono ?_
  rintro _ w2 ⟨rfl, hb⟩
  replace hB := below_step hB hb
  clear hb p0 p1 p2 p3
  go_wp2_with (go_at_call 17; refine (awake_any _).mono ?_; rintro _ w1 ⟨rfl, hb⟩)
  go_ret
  exact ⟨rfl, below_step hB hb⟩

theorem bucketPlays_walk (r s l t : Int) (A : Option Addr) (n cap : Nat) (ts : List Int) (A' : Option Addr) (n' cap' : Nat) (ms : List Int) (w : World)
    (_ : (Lit.int .i64 r).wf = true) (_ : (Lit.int .i64 s).wf = true) (_ : (Lit.int .i64 l).wf = true) (_ : (Lit.int .i64 t).wf = true)
    (hts : ts.length = n ∧ Seg w A n (ints ts) ∧ (∀ n ∈ ts, (Lit.int .i64 n).wf = true) ∧ n ≤ maxLen) (hms : ms.length = n' ∧ Seg w A' n' (ints ms) ∧ (∀ n ∈ ms, (Lit.int .i64 n).wf = true) ∧ n' ≤ maxLen) :
    Calls Try.prog 7 #[.agg #[.int .i64 r, .int .i64 s, .int .i64 l, .int .i64 t], .slice A n cap, .slice A' n' cap'] w fun e w' => e = .returned (.bool true) ∧ Below w.heap.size w w' := by
  by_cases g0 : 300 < n
  · exact plays_long r s l t A A' n n' cap cap' w (by simp; omega)
  · by_cases g1 : 300 < n'
    · exact plays_long' r s l t A A' n n' cap cap' w (by simp; omega) (by simp; omega)
    · exact plays_ok r s l t _ _ A A' n n' cap cap' ts ms w hts.2.1 hms.2.1 (fun W k1 k2 => play_any r s l t A A' n n' cap cap' ts ms W hts.1 hms.1 k1 k2) (fun W k1 k2 => rplay_any r s l t A A' n n' cap cap' ts ms W hts.1 hms.1 k1 k2) (by simp; omega) (by simp; omega)
end Go.Proofs.Ytmfekechdejefaa
