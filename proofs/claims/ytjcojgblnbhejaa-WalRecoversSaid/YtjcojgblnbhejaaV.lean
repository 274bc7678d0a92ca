/- Numbers as four bytes, and back: the walks. -/
import Derived.Test.YtjcojgblnbhejaaR
import Derived.Test.YtjcojgblnbhejaaU
import Derived.Laws.IdiomStrings
import Derived.Test.YtjcojgblnbhejaaX
namespace Go.Proofs.Ytjcojgblnbhejaa
open Go.ChangeShapes Go.WideShapes Go.ChangeAt Go.RowKit

theorem or4 (a b c d : Nat) (ha : a < 256) (hb : b < 256) (hc : c < 256) (hd : d < 256) : bits BinOp.or IntKind.u32 (bits BinOp.or IntKind.u32 (bits BinOp.or IntKind.u32 (IntKind.u32.wrap (IntKind.u32.wrap (a : Int) * 16777216)) (IntKind.u32.wrap (IntKind.u32.wrap (b : Int) * 65536))) (IntKind.u32.wrap (IntKind.u32.wrap (c : Int) * 256))) (IntKind.u32.wrap (d : Int)) = ((((a * 256 + b) * 256 + c) * 256 + d : Nat) : Int) := by
  have e1 : IntKind.u32.wrap (IntKind.u32.wrap (a : Int) * 16777216) = ((a * 16777216 : Nat) : Int) := by rw [IntKind.wrap_u32', IntKind.wrap_u32']; omega
  have e2 : IntKind.u32.wrap (IntKind.u32.wrap (b : Int) * 65536) = ((b * 65536 : Nat) : Int) := by rw [IntKind.wrap_u32', IntKind.wrap_u32']; omega
  have e3 : IntKind.u32.wrap (IntKind.u32.wrap (c : Int) * 256) = ((c * 256 : Nat) : Int) := by rw [IntKind.wrap_u32', IntKind.wrap_u32']; omega
  have e4 : IntKind.u32.wrap (d : Int) = ((d : Nat) : Int) := by rw [IntKind.wrap_u32']; omega
  rw [e1, e2, e3, e4, u32_or_nat _ _ (by omega) (by omega), nat_join 24 _ _ (by omega) (by omega), u32_or_nat _ _ (by omega) (by omega), nat_join 16 _ _ (by omega) (by omega), u32_or_nat _ _ (by omega) (by omega), nat_join 8 _ _ (by omega) (by omega)]
  exact congrArg (fun z : Nat => (z : Int)) (by omega)
theorem at_getD (t : ByteArray) (k : Nat) (h : k < t.size) : t[k]'h = t.data.toList.getD k 0 := by
  have hk : k < t.data.size := h
  show t.data[k]'hk = _
  rw [List.getD_eq_getElem?_getD, Array.getElem?_toList, Array.getElem?_eq_getElem hk]
  rfl
theorem number_any (t : ByteArray) (w : World) (ht : 4 ≤ t.size) : Calls Try.prog 62 #[.string t] w fun e w' => e = .returned (.int .u32 (val4 t.data.toList : Nat)) ∧ Below w.heap.size w w' := by
  have h0 : 0 < t.size := by omega
  have h1 : 1 < t.size := by omega
  have h2 : 2 < t.size := by omega
  have h3 : 3 < t.size := by omega
  have g1 : (1 : Int) < t.size := by omega
  have g2 : (2 : Int) < t.size := by omega
  have g3 : (3 : Int) < t.size := by omega
  go_enter Try.func62, Try.ntmps62
  go_upto_region 1 with fail
  refine wp_region_mix [0, 0, 0, 0, 0, 0, 0, 0, 0, 0, 0, 0, 0, 0, 0, 0, 0, 0, 1] (by kernel_rfl) (by kernel_rfl) ?_
  iterate 18 (refine wpMix_calm (fun K hK => ?_); go_simp; refine hK _ ?_; clear hK K)
  refine wpMix_pure (fun K hK => ?_)
  go_simp
  refine hK _ ?_
  clear hK K
  refine wpMix_nil (fun w3 hb => ?_)
  go_wp2
  go_ret
  refine ⟨congrArg (fun z => Ending.returned (Value.int .u32 z)) ?_, hb⟩
  rw [or4 _ _ _ _ (UInt8.toNat_lt _) (UInt8.toNat_lt _) (UInt8.toNat_lt _) (UInt8.toNat_lt _)]
  unfold val4
  rw [← at_getD t 0 h0, ← at_getD t 1 h1, ← at_getD t 2 h2, ← at_getD t 3 h3]
theorem bytes_any (n : Nat) (w : World) (hn : n < 4294967296) : Calls Try.prog 55 #[.int .u32 n] w fun e w' => e = .returned (.string ⟨(num4 n).toArray⟩) ∧ Below w.heap.size w w' := by
  have hc := run_convert_bytes_back (P := Try.prog) (w.alloc (.cells #[.int .u8 ((n : Int) / 16777216), .int .u8 ((n : Int) / 65536 % 256), .int .u8 ((n : Int) / 256 % 256), .int .u8 ((n : Int) % 256)] 5)) 59 9 5 ⟨w.heap.size, 0, none⟩ 4 (num4 n) Try.underlying59 Try.underlying5 Try.underlying9 (fun j hj => by
    have hB := Box.new w 5 #[.int .u8 ((n : Int) / 16777216), .int .u8 ((n : Int) / 65536 % 256), .int .u8 ((n : Int) / 256 % 256), .int .u8 ((n : Int) % 256)]
    rw [num4_len] at hj
    rw [Go.WideShapes.add_plain, Nat.zero_add]
    refine hB.cell j _ ?_
    have : j = 0 ∨ j = 1 ∨ j = 2 ∨ j = 3 := by omega
    rcases this with rfl | rfl | rfl | rfl <;> simp [num4] <;> omega)
  rw [num4_len] at hc
  go_enter Try.func55, Try.ntmps55
  go_wp2
  go_ret
  exact ⟨rfl, below_box (Below.refl _ _) _⟩
end Go.Proofs.Ytjcojgblnbhejaa
