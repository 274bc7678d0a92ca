/- Seal of the program: the walk. -/
import Derived.Test.YtjcojgblnbhejaaV
import Derived.Test.YtjcojgblnbhejaaDI
namespace Go.Proofs.Ytjcojgblnbhejaa
open Go.ChangeShapes Go.WideShapes Go.ChangeAt Go.RowKit

theorem seal_no (t : ByteArray) (w : World) (ht : 262136 < (t.size : Int)) : Calls Try.prog 39 #[.string t] w fun e w' => e = .returned (.tuple #[.string ByteArray.empty, .int .i64 3]) ∧ Below w.heap.size w w' := by
  go_enter Try.func39, Try.ntmps39
  go_wp2
  go_ret2
  exact ⟨rfl, Below.refl _ _⟩
theorem seal_yes (t : ByteArray) (w : World) (ht : (t.size : Int) ≤ 262136) : Calls Try.prog 39 #[.string t] w fun e w' => e = .returned (.tuple #[.string (bs (sealL t.data.toList)), .int .i64 0]) ∧ Below w.heap.size w w' := by
  have hl : t.data.toList.length = t.size := Array.length_toList
  have hA := Lib.hid (fun W => bytes_any t.size W (by omega))
  have hC := Lib.hid (fun W => crc_any t W (by omega))
  have hB := Lib.hid (fun W => bytes_any (crcV t.data.toList) W (by have := crcV_lt t.data.toList; omega))
  have hs : bs (sealL t.data.toList) = bs (num4 t.size) ++ bs (num4 (crcV t.data.toList)) ++ t := by
    unfold sealL
    rw [hl, ← bs_app, ← bs_app, ← bs_list t]
    apply ByteArray.ext
    simp [ByteArray.data_append, Array.append_assoc]
  rw [hs]
  have s1 := bs_size (num4 t.size)
  have s2 := bs_size (num4 (crcV t.data.toList))
  rw [num4_len] at s1 s2
  change Hid (∀ W, Calls _ _ _ W fun e w' => e = .returned (.string (bs (num4 t.size))) ∧ Below W.heap.size W w') at hA
  change Hid (∀ W, Calls _ _ _ W fun e w' => e = .returned (.string (bs (num4 (crcV t.data.toList)))) ∧ Below W.heap.size W w') at hB
  generalize bs (num4 t.size) = x at *
  generalize bs (num4 (crcV t.data.toList)) = y at *
  generalize crcV t.data.toList = z at *
  clear hs
  go_enter Try.func39, Try.ntmps39
  have hns : ¬ 9223372036854775807 < 4 + 4 + t.size := by omega
  go_wp2_with fail
  refine (hA.out _).mono ?_
  rintro _ w1 ⟨rfl, b1⟩
  go_wp2_with fail
  refine (hC.out _).mono ?_
  rintro _ w2 ⟨rfl, b2⟩
  go_wp2_with fail
  refine (hB.out _).mono ?_
  rintro _ w3 ⟨rfl, b3⟩
  have hbb := Lib.hid (below_step (below_step b1 b2) b3)
  clear b1 b2 b3
  go_wp2
  go_ret2
  exact ⟨rfl, hbb.out⟩
end Go.Proofs.Ytjcojgblnbhejaa
