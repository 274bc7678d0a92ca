/- Contracts of the functions of layer 39 (bucket), of its reference and of num.Clamp. -/
import Derived.Test.YtmfekechdejefaaRows
import Derived.WalkKit
import Derived.ProofKit
import Derived.OpenShut
import Derived.WalkSpells
import Derived.Lib.Hide
import Derived.Deep.RegionHeld3
import Derived.Deep.RegionWith
import Derived.Deep.QuietTactic
import Derived.BigQuiet
import Derived.StillTailTactics
namespace Go.Proofs.Ytmfekechdejefaa
open Go.ChangeShapes Go.WideShapes Go.ChangeAt Go.RowKit

theorem bcell {W w1 : World} (hb : Below W.heap.size W w1) : (∀ b o, b < W.heap.size → w1.cell? ⟨b, o, none⟩ = W.cell? ⟨b, o, none⟩) ∧ (∀ b o, b < W.heap.size → w1.frozen? ⟨b, o, none⟩ = W.frozen? ⟨b, o, none⟩) :=
  ⟨fun b o h => hb.cell (p := ⟨b, o, none⟩) h, fun b o h => hb.frozen (p := ⟨b, o, none⟩) h⟩

def clampI (n lo hi : Int) : Int := if n < lo then lo else if hi < n then hi else n
def okB (r s l t : Int) : Bool := decide (0 ≤ r ∧ r ≤ 1000000000 ∧ 1 ≤ s ∧ s ≤ 1000000000 ∧ 0 ≤ l ∧ l ≤ s ∧ 0 ≤ t ∧ t ≤ 1073741824)

theorem clamp_any (n lo hi : Int) (w : World) :
    Calls Try.prog 23 #[.int .i64 n, .int .i64 lo, .int .i64 hi] w fun e w' => e = .returned (.int .i64 (clampI n lo hi)) ∧ w = w' := by
  by_cases h1 : n < lo
  · have e : clampI n lo hi = lo := by simp [clampI, h1]
    rw [e]; clear e
    go_enter Try.func23, Try.ntmps23
    go_wp2
    go_ret
    exact ⟨rfl, rfl⟩
  · by_cases h2 : hi < n
    · have e : clampI n lo hi = hi := by simp [clampI, h1, h2]
      rw [e]; clear e
      go_enter Try.func23, Try.ntmps23
      go_wp2
      go_ret
      exact ⟨rfl, rfl⟩
    · have e : clampI n lo hi = n := by simp [clampI, h1, h2]
      rw [e]; clear e
      go_enter Try.func23, Try.ntmps23
      go_wp2
      go_ret
      exact ⟨rfl, rfl⟩

set_option maxHeartbeats 400000 in
theorem clamped_any (r s l t : Int) (w : World) :
    Calls Try.prog 22 #[.agg #[.int .i64 r, .int .i64 s, .int .i64 l, .int .i64 t]] w fun e w' => e = .returned (.agg #[.int .i64 (clampI r 0 1000000000), .int .i64 (clampI s 1 1000000000), .int .i64 (clampI l 0 (clampI s 1 1000000000)), .int .i64 (clampI t 0 1073741824)]) ∧ Below w.heap.size w w' := by
  go_enter Try.func22, Try.ntmps22
  go_wp2_with (go_at_call 23; refine (clamp_any _ _ _ _).mono ?_; rintro e w' ⟨rfl, rfl⟩)
  go_region_held3 (fun w' => w'.cell? ⟨w.heap.size, 0, none⟩ = some (.int .i64 r) ∧ w'.cell? ⟨w.heap.size, 2, none⟩ = some (.int .i64 l) ∧ w'.cell? ⟨w.heap.size, 3, none⟩ = some (.int .i64 t)) (go_keep)
    (first | (go_at_call 23; refine (clamp_any _ _ _ _).mono ?_; rintro e w' ⟨rfl, rfl⟩))
  go_wp2
  exact bodyPost_ret (v := .agg #[.int .i64 (clampI r 0 1000000000), .int .i64 (clampI s 1 1000000000), .int .i64 (clampI l 0 (clampI s 1 1000000000)), .int .i64 (clampI t 0 1073741824)]) (by simp [results, Try.results22, go_sem]) rfl ⟨rfl, by
    repeat (first | exact Below.refl _ _ | refine Below.drew ?_ | refine Below.setCell ?_ (by simp) _ | refine Below.alloc ?_ (by simp) _)⟩

theorem okB_clamp (r s l t : Int) : okB r s l t = (r == clampI r 0 1000000000 && s == clampI s 1 1000000000 && l == clampI l 0 (clampI s 1 1000000000) && t == clampI t 0 1073741824) := by
  unfold okB clampI
  rw [Bool.eq_iff_iff]
  simp only [decide_eq_true_eq, Bool.and_eq_true, beq_iff_eq]
  repeat' split
  all_goals omega


def eq4 (a b c d a' b' c' d' : Int) : Bool := a == a' && (b == b' && (c == c' && d == d'))
theorem eq4_self (a b c d : Int) : eq4 a b c d a b c d = true := by simp [eq4]
theorem eql23 (a b c d a' b' c' d' : Int) (w : World) : (binOp .eql 23 (.agg #[.int .i64 a, .int .i64 b, .int .i64 c, .int .i64 d]) (.agg #[.int .i64 a', .int .i64 b', .int .i64 c', .int .i64 d'])).run Try.prog w = .ok (.bool (eq4 a b c d a' b' c' d')) w := by
  unfold eq4
  cases h1 : a == a' <;> cases h2 : b == b' <;> cases h3 : c == c' <;> cases h4 : d == d' <;> simp [go_sem, h1, h2, h3, h4]
theorem neq23 (a b c d a' b' c' d' : Int) (w : World) : (binOp .neq 23 (.agg #[.int .i64 a, .int .i64 b, .int .i64 c, .int .i64 d]) (.agg #[.int .i64 a', .int .i64 b', .int .i64 c', .int .i64 d'])).run Try.prog w = .ok (.bool (!eq4 a b c d a' b' c' d')) w := by
  unfold eq4
  cases h1 : a == a' <;> cases h2 : b == b' <;> cases h3 : c == c' <;> cases h4 : d == d' <;> simp [go_sem, h1, h2, h3, h4]
attribute [local go_sem high] eql23 neq23

set_option maxHeartbeats 400000 in
theorem check_core (r s l t r' s' l' t' : Int) (w : World)
    (H : Hid (∀ W, Calls Try.prog 22 #[.agg #[.int .i64 r, .int .i64 s, .int .i64 l, .int .i64 t]] W fun e w' => e = .returned (.agg #[.int .i64 r', .int .i64 s', .int .i64 l', .int .i64 t']) ∧ Below W.heap.size W w')) :
    Calls Try.prog 15 #[.agg #[.int .i64 r, .int .i64 s, .int .i64 l, .int .i64 t]] w fun e w' => e = .returned (.int .i64 (if eq4 r s l t r' s' l' t' then 0 else 2)) ∧ Below w.heap.size w w' := by
  cases hq : eq4 r s l t r' s' l' t'
  all_goals
    go_enter Try.func15, Try.ntmps15
    go_wp2_with fail
    go_region_with (first | (go_at_call 22; refine (H.out _).mono ?_; rintro e w' ⟨rfl, hb⟩; obtain ⟨hc, hf⟩ := bcell hb))
    all_goals (go_wp2; go_ret; exact ⟨by simp, by refine Below.trans ?_ (hb.mono (B' := w.heap.size) (by simp)); repeat (first | exact Below.refl _ _ | refine Below.drew ?_ | refine Below.alloc ?_ (by simp) _)⟩)

theorem check_any (r s l t : Int) (w : World) :
    Calls Try.prog 15 #[.agg #[.int .i64 r, .int .i64 s, .int .i64 l, .int .i64 t]] w fun e w' => e = .returned (.int .i64 (if okB r s l t then 0 else 2)) ∧ Below w.heap.size w w' := by
  have h := check_core r s l t _ _ _ _ w (fun W => clamped_any r s l t W)
  rw [show okB r s l t = _ from okB_clamp r s l t]
  simpa [eq4, Bool.and_assoc] using h

theorem okB_cases (r s l t : Int) : (0 ≤ r ∧ r ≤ 1000000000 ∧ 1 ≤ s ∧ s ≤ 1000000000 ∧ 0 ≤ l ∧ l ≤ s ∧ 0 ≤ t ∧ t ≤ 1073741824) ∨ (r < 0) ∨ (0 ≤ r ∧ 1000000000 < r) ∨ (0 ≤ r ∧ r ≤ 1000000000 ∧ s < 1) ∨ (0 ≤ r ∧ r ≤ 1000000000 ∧ 1 ≤ s ∧ 1000000000 < s)
    ∨ (0 ≤ r ∧ r ≤ 1000000000 ∧ 1 ≤ s ∧ s ≤ 1000000000 ∧ l < 0) ∨ (0 ≤ r ∧ r ≤ 1000000000 ∧ 1 ≤ s ∧ s ≤ 1000000000 ∧ 0 ≤ l ∧ s < l) ∨ (0 ≤ r ∧ r ≤ 1000000000 ∧ 1 ≤ s ∧ s ≤ 1000000000 ∧ 0 ≤ l ∧ l ≤ s ∧ t < 0)
    ∨ (0 ≤ r ∧ r ≤ 1000000000 ∧ 1 ≤ s ∧ s ≤ 1000000000 ∧ 0 ≤ l ∧ l ≤ s ∧ 0 ≤ t ∧ 1073741824 < t) := by omega

set_option maxHeartbeats 1000000 in
theorem rcheck_any (r s l t : Int) (w : World) :
    Calls Try.prog 16 #[.agg #[.int .i64 r, .int .i64 s, .int .i64 l, .int .i64 t]] w fun e w' => e = .returned (.int .i64 (if okB r s l t then 0 else 2)) ∧ Below w.heap.size w w' := by
  rcases okB_cases r s l t with ⟨h1, h2, h3, h4, h5, h6, h7, h8⟩ | h1 | ⟨h1, h2⟩ | ⟨h1, h2, h3⟩ | ⟨h1, h2, h3, h4⟩ | ⟨h1, h2, h3, h4, h5⟩ | ⟨h1, h2, h3, h4, h5, h6⟩ | ⟨h1, h2, h3, h4, h5, h6, h7⟩ | ⟨h1, h2, h3, h4, h5, h6, h7, h8⟩
  · rw [show okB r s l t = true by simp [okB]; omega]
    go_enter Try.func16, Try.ntmps16
    go_wp2
    go_ret
    exact ⟨by simp, ((Below.refl _ _).alloc (Nat.le_refl _) _)⟩
  all_goals
    rw [show okB r s l t = false by simp [okB]; omega]
    go_enter Try.func16, Try.ntmps16
    go_wp2
    go_ret
    exact ⟨by simp, ((Below.refl _ _).alloc (Nat.le_refl _) _)⟩
end Go.Proofs.Ytmfekechdejefaa
