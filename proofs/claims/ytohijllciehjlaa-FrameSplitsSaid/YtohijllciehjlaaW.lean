/- Seal of the program: the walk. -/
import Derived.Test.YtohijllciehjlaaV
namespace Go.Proofs.Ytohijllciehjlaa
open Go.ChangeShapes Go.WideShapes Go.ChangeAt Go.RowKit

def bs (xs : List UInt8) : ByteArray := ⟨xs.toArray⟩
theorem bs_size (xs : List UInt8) : (bs xs).size = xs.length := by simp [bs, ByteArray.size]
theorem bs_list (t : ByteArray) : t = bs t.data.toList := by simp [bs]
theorem bs_app (xs ys : List UInt8) : bs xs ++ bs ys = bs (xs ++ ys) := by
  apply ByteArray.ext
  simp [bs, ByteArray.data_append]
theorem seal_no (t : ByteArray) (w : World) (ht : 262136 < (t.size : Int)) : Calls Try.prog 16 #[.string t] w fun e w' => e = .returned (.tuple #[.string ByteArray.empty, .int .i64 3]) ∧ Below w.heap.size w w' := by
  go_enter Try.func16, Try.ntmps16
  go_wp2
  go_ret2
  exact ⟨rfl, Below.refl _ _⟩
theorem seal_yes (t : ByteArray) (w : World) (ht : (t.size : Int) ≤ 262136) : Calls Try.prog 16 #[.string t] w fun e w' => e = .returned (.tuple #[.string (bs (sealL t.data.toList)), .int .i64 0]) ∧ Below w.heap.size w w' := by
  have hl : t.data.toList.length = t.size := Array.length_toList
  have hA := Lib.hid (fun W => bytes_any t.size W (by omega))
  have hC := Lib.hid (fun W => crc_any t W (by omega))
  have hB := Lib.hid (fun W => bytes_any (crcV t.data.toList) W (by have := crcV_lt t.data.toList; omega))
  have hs : bs (sealL t.data.toList) = bs (num4 t.size) ++ bs (num4 (crcV t.data.toList)) ++ t := by
    unfold sealL
    rw [hl, ← bs_app, ← bs_app, ← bs_list t]
    apply ByteArray.ext
    simp [ByteArray.data_append, Array.append_assoc]
  rw [hs]
  have s1 := bs_size (num4 t.size)
  have s2 := bs_size (num4 (crcV t.data.toList))
  rw [num4_len] at s1 s2
  change Hid (∀ W, Calls _ _ _ W fun e w' => e = .returned (.string (bs (num4 t.size))) ∧ Below W.heap.size W w') at hA
  change Hid (∀ W, Calls _ _ _ W fun e w' => e = .returned (.string (bs (num4 (crcV t.data.toList)))) ∧ Below W.heap.size W w') at hB
  generalize bs (num4 t.size) = x at *
  generalize bs (num4 (crcV t.data.toList)) = y at *
  generalize crcV t.data.toList = z at *
  clear hs
  go_enter Try.func16, Try.ntmps16
  have hns : ¬ 9223372036854775807 < 4 + 4 + t.size := by omega
  go_wp2_with fail
  refine (hA.out _).mono ?_
  rintro _ w1 ⟨rfl, b1⟩
  go_wp2_with fail
  refine (hC.out _).mono ?_
  rintro _ w2 ⟨rfl, b2⟩
  go_wp2_with fail
  refine (hB.out _).mono ?_
  rintro _ w3 ⟨rfl, b3⟩
  have hbb := Lib.hid (below_step (below_step b1 b2) b3)
  clear b1 b2 b3
  go_wp2
  go_ret2
  exact ⟨rfl, hbb.out⟩
end Go.Proofs.Ytohijllciehjlaa
