/- The checksum of the reference and of the program: the walks. -/
import Derived.Test.YtjcojgblnbhejaaP
import Derived.Laws.BitsAllLaws
namespace Go.Proofs.Ytjcojgblnbhejaa
open Go.ChangeShapes Go.WideShapes Go.ChangeAt Go.RowKit

def CrcRel (l : List UInt8) (w : World) (i c : Value) (wr : World) : Prop := ∃ k : Nat, i = .int .i64 k ∧ c = .int .u32 (crcL 4294967295 (l.take k) : Nat) ∧ k ≤ l.length ∧ wr = w
def ShRel (x : Nat) (w : World) (i c : Value) (wr : World) : Prop := ∃ j v : Nat, i = .int .i64 j ∧ c = .int .u32 v ∧ v < 4294967296 ∧ j ≤ 8 ∧ shN (8 - j) v = shN 8 x ∧ wr = w
theorem crcL_snoc (l : List UInt8) (k : Nat) (h : k < l.length) : crcL 4294967295 (l.take (k + 1)) = shN 8 (crcL 4294967295 (l.take k) ^^^ (l.getD k 0).toNat) := by
  have : l.take (k + 1) = l.take k ++ [l.getD k 0] := by
    rw [List.take_add_one]
    simp [h]
  rw [this]
  unfold crcL
  rw [List.foldl_append]
  rfl
set_option maxHeartbeats 1000000 in
set_option maxRecDepth 100000 in
theorem rcrc_any (t : ByteArray) (w : World) (ht : t.size ≤ 1000000) : Calls Try.prog 60 #[.string t] w fun e w' => e = .returned (.int .u32 (crcV t.data.toList : Nat)) ∧ w = w' := by
  have hl : t.data.toList.length = t.size := Array.length_toList
  go_enter Try.func60, Try.ntmps60
  go_wp2
  go_loopw [4, 3] (CrcRel t.data.toList w) (fun i _ _ => t.size - (intOf i).toNat)
  case atStart => exact ⟨0, rfl, congrArg (Value.int .u32) (by rw [List.take_zero]; unfold crcL; rfl), by omega, rfl⟩
  case round =>
    obtain ⟨k, rfl, rfl, hk, rfl⟩ := hrel
    by_cases hlt : k < t.size
    · have hst := crcL_snoc t.data.toList k (by omega)
      have hrl := crcL_lt (t.data.toList.take k) 4294967295 (by decide)
      generalize crcL 4294967295 (t.data.toList.take k) = r at *
      have hb := UInt8.toNat_lt (t.data.toList.getD k 0)
      have hlt' : k < t.data.size := hlt
      have hbk : t.data[k]'hlt' = t.data.toList.getD k 0 := by
        rw [List.getD_eq_getElem?_getD, Array.getElem?_toList, Array.getElem?_eq_getElem hlt']
        rfl
      have hx : bits BinOp.xor IntKind.u32 (r : Int) ((((t.data[k]'hlt').toNat : Nat) : Int) % 4294967296) = ((r ^^^ (t.data.toList.getD k 0).toNat : Nat) : Int) := by
        rw [hbk, Int.emod_eq_of_lt (by omega) (by omega)]
        exact u32_xor_nat r _ hrl (by omega)
      have hxl : r ^^^ (t.data.toList.getD k 0).toNat < 4294967296 := Nat.xor_lt_two_pow (n := 32) hrl (by omega)
      go_wp2
      try rw [hx]
      generalize r ^^^ (t.data.toList.getD k 0).toNat = x at *
      clear hbk hb
      go_loopw [5, 3] (ShRel x wr) (fun i _ _ => 8 - (intOf i).toNat)
      case atStart => exact ⟨0, x, rfl, congrArg (Value.int .u32) hx, hxl, by omega, rfl, rfl⟩
      case round =>
        obtain ⟨j, v, rfl, rfl, hv, hj, hsh, rfl⟩ := hrel
        clear hx
        by_cases hj8 : j < 8
        · have hand := u32_and_nat v 1 (by omega) (by decide)
          rw [nat_mask1] at hand
          have hn : shN (8 - (j + 1)) (sh v) = shN 8 x := by rw [← hsh, show 8 - j = (8 - (j + 1)) + 1 by omega]; rfl
          have hvl := sh_lt v (by omega)
          have hj2 : (j : Int) < 8 := by omega
          have hv2 : (v : Int) / 2 = ((v / 2 : Nat) : Int) := by omega
          by_cases ho : v % 2 = 1
          · have h1 : bits BinOp.and IntKind.u32 (v : Int) 1 = 1 := by rw [ho] at hand; exact hand
            have hxp : bits BinOp.xor IntKind.u32 ((v : Int) / 2) 3988292384 = ((v / 2 ^^^ poly : Nat) : Int) := by rw [hv2]; exact u32_xor_nat (v / 2) 3988292384 (by omega) (by decide)
            have hsv : sh v = v / 2 ^^^ poly := if_pos ho
            rw [hsv] at hn hvl
            have HXP := Lib.hid hxp
            clear hand ho hv2 hsv hxp
            go_wp2
            go_roundw
            case rel => exact ⟨j + 1, v / 2 ^^^ poly, by go_num, congrArg (Value.int .u32) HXP.out, hvl, by omega, hn, rfl⟩
            case measure => simp [intOf]; omega
          · have h1 : bits BinOp.and IntKind.u32 (v : Int) 1 = 0 := by rw [show v % 2 = 0 by omega] at hand; exact hand
            have hsv : sh v = v / 2 := if_neg ho
            rw [hsv] at hn hvl
            have HV2 := Lib.hid hv2
            clear hand ho hv2 hsv
            go_wp2
            go_roundw
            case rel => exact ⟨j + 1, v / 2, by go_num, congrArg (Value.int .u32) HV2.out, hvl, by omega, hn, rfl⟩
            case measure => simp [intOf]; omega
        · obtain rfl : j = 8 := by omega
          simp only [Nat.sub_self, shN] at hsh
          have HS := Lib.hid (hst.trans hsh.symm)
          clear hst hsh
          go_wp2
          go_roundw
          case rel => exact ⟨k + 1, by go_num, by rw [HS.out], by omega, rfl⟩
          case measure => simp [intOf]; omega
    · obtain rfl : k = t.size := by omega
      rw [List.take_of_length_le (by omega)]
      have hf : bits BinOp.xor IntKind.u32 IntKind.u32.max (crcL 4294967295 t.data.toList : Nat) = (crcV t.data.toList : Nat) := by
        have := u32_xor_nat 4294967295 (crcL 4294967295 t.data.toList) (by decide) (crcL_lt _ _ (by decide))
        unfold crcV
        rw [Nat.xor_comm]
        exact this
      have HF := Lib.hid hf
      clear hf
      go_wp2
      go_ret
      exact ⟨congrArg (fun z => Ending.returned (Value.int .u32 z)) HF.out, rfl⟩
end Go.Proofs.Ytjcojgblnbhejaa
