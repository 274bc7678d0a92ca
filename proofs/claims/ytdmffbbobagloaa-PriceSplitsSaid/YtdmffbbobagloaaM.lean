/- The closure of Amount of layer 53 (price): one product is added to the sum. -/
import Derived.Test.YtdmffbbobagloaaL
namespace Go.Proofs.Ytdmffbbobagloaa
open Go.ChangeShapes Go.WideShapes Go.ChangeAt Go.RowKit
attribute [local go_sem] ownAt ownUpon mixAt mixUpon

/-- What the closure does: the sum grows by the product, where that fits. -/
def AddOut (w : World) (g : Nat) (s p : Int) (e : Ending) (w' : World) : Prop :=
  e = .returned (.bool (decide (s + p ≤ 1000000000000))) ∧ ∃ v : Int, w' = w.setCell ⟨g, 0, none⟩ (.int .u64 v) ∧ (s + p ≤ 1000000000000 → v = s + p)
theorem u64_in (n : Int) (h : 0 ≤ n) (h' : n < 18446744073709551616) : IntKind.u64.wrap n = n := by rw [IntKind.wrap_u64]; omega
set_option maxHeartbeats 1000000 in
theorem add_any (a b s : Int) (g : Nat) (w : World) (hs : Box w g 51 #[.int .u64 s]) (h1 : 0 ≤ s) (h2 : s ≤ 1000000000000) (h3 : 0 ≤ a) (h4 : a ≤ 1000000000000) (h5 : 0 ≤ b) (h6 : b ≤ 1000000000) :
    Calls Try.prog 27 #[.int .i64 a, .int .i64 b, .pointer (some ⟨g, 0, none⟩)] w (AddOut w g s (a * b)) := by
  have k0 : 0 ≤ a * b := Int.mul_nonneg h3 h5
  have HM := Lib.hid (mul64_int a b w h3 (by omega) h5 (by omega))
  have c0 := hs.cell 0 _ rfl
  have f0 := hs.frozen 0
  have l0 := hs.lt
  have wa : IntKind.u64.wrap a = a := u64_in a h3 (by omega)
  have wb : IntKind.u64.wrap b = b := u64_in b h5 (by omega)
  generalize a * b = p at *
  rcases (show p ≤ 1000000000000 ∨ (1000000000000 < p ∧ p < 18446744073709551616) ∨ 18446744073709551616 ≤ p by omega) with hp | ⟨hp, hp2⟩ | hp
  · rw [show p / 18446744073709551616 = 0 by omega, show p % 18446744073709551616 = p by omega] at HM
    have ws : IntKind.u64.wrap (s + p) = s + p := u64_in _ (by omega) (by omega)
    go_enter Try.func27, Try.ntmps27
    go_wp2_with (go_at_call 28; refine HM.out.mono ?_; rintro e w' ⟨rfl, rfl⟩)
    go_ret
    exact ⟨rfl, _, rfl, fun _ => rfl⟩
  · rw [show p / 18446744073709551616 = 0 by omega, show p % 18446744073709551616 = p by omega] at HM
    go_enter Try.func27, Try.ntmps27
    go_wp2_with (go_at_call 28; refine HM.out.mono ?_; rintro e w' ⟨rfl, rfl⟩)
    go_ret
    exact ⟨ret_bool (by simp; omega), _, rfl, fun _ => by omega⟩
  · have z : (p / 18446744073709551616 == 0) = false := beq_eq_false_iff_ne.2 (by omega)
    generalize p / 18446744073709551616 = hi at *
    generalize p % 18446744073709551616 = lo at *
    go_enter Try.func27, Try.ntmps27
    go_wp2_with (go_at_call 28; refine HM.out.mono ?_; rintro e w' ⟨rfl, rfl⟩)
    go_ret
    exact ⟨ret_bool (by simp; omega), _, rfl, fun _ => by omega⟩
end Go.Proofs.Ytdmffbbobagloaa
