/- Four bytes of the reference, as a slice and as a string. -/
import Derived.Test.YtjcojgblnbhejaaW
namespace Go.Proofs.Ytjcojgblnbhejaa
open Go.ChangeShapes Go.WideShapes Go.ChangeAt Go.RowKit

def four4 (n : Nat) : Array Value := #[.int .u8 ((n : Int) / 16777216), .int .u8 ((n : Int) / 65536 % 256), .int .u8 ((n : Int) / 256 % 256), .int .u8 ((n : Int) % 256)]
theorem conv4 {w : World} {g n : Nat} (h : Box w g 5 (four4 n)) (hn : n < 4294967296) : (convert 59 9 (.slice (some ⟨g, 0, none⟩) 4 4)).run Try.prog w = .ok (.string (bs (num4 n))) w := by
  have hc := run_convert_bytes_back (P := Try.prog) w 59 9 5 ⟨g, 0, none⟩ 4 (num4 n) Try.underlying59 Try.underlying5 Try.underlying9 (fun j hj => by
    rw [num4_len] at hj
    rw [Go.WideShapes.add_plain, Nat.zero_add]
    refine h.cell j _ ?_
    have : j = 0 ∨ j = 1 ∨ j = 2 ∨ j = 3 := by omega
    rcases this with rfl | rfl | rfl | rfl <;> simp [num4, four4] <;> omega)
  rw [num4_len] at hc
  exact hc
theorem four_any (n : Nat) (w : World) (hn : n < 4294967296) : Calls Try.prog 59 #[.int .u32 n] w fun e w' => ∃ g, e = .returned (.slice (some ⟨g, 0, none⟩) 4 4) ∧ Box w' g 5 (four4 n) ∧ Below w.heap.size w w' := by
  go_enter Try.func59, Try.ntmps59
  go_wp2
  go_ret
  exact ⟨_, rfl, Box.new w 5 (four4 n), below_box (Below.refl _ _) _⟩
end Go.Proofs.Ytjcojgblnbhejaa
