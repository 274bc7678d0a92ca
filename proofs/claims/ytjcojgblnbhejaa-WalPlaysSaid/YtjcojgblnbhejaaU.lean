/- The program's checksum: the walk. -/
import Derived.Test.YtjcojgblnbhejaaT
namespace Go.Proofs.Ytjcojgblnbhejaa
open Go.ChangeShapes Go.WideShapes Go.ChangeAt Go.RowKit

theorem tab_len (k : Nat) : (tabArr k).size = 256 := by simp [tabArr]
theorem tab_there {w : World} {g : Nat} {k : Nat} (h : Box w g 77 (tabArr k)) : w.there g 0 (tabArr 256).size := fun j hj => by
  rw [tab_len] at hj
  rw [Nat.zero_add]
  exact ⟨by rw [h.cell j _ (tabArr_get k j hj)]; rfl, h.frozen j⟩
theorem tab_one (k : Nat) : (tabArr k).all (·.oneCell') = true := by
  apply Array.all_eq_true_iff_forall_mem.2
  intro v hv
  simp only [tabArr, List.mem_toArray, List.mem_map] at hv
  obtain ⟨i, _, rfl⟩ := hv
  rfl
def CrcPRel (l : List UInt8) (w : World) (g : Nat) (i c : Value) (wr : World) : Prop := ∃ k : Nat, i = .int .i64 k ∧ c = .int .u32 (crcL 4294967295 (l.take k) : Nat) ∧ k ≤ l.length ∧ (∀ j, j < 256 → wr.cell? ⟨g, j, none⟩ = some (.int .u32 (shN 8 j : Nat))) ∧ Below w.heap.size w wr
set_option maxHeartbeats 1000000 in
set_option maxRecDepth 100000 in
theorem crc_any (t : ByteArray) (w : World) (ht : t.size ≤ 1000000) : Calls Try.prog 56 #[.string t] w fun e w' => e = .returned (.int .u32 (crcV t.data.toList : Nat)) ∧ Below w.heap.size w w' := by
  have hl : t.data.toList.length = t.size := Array.length_toList
  have HT := Lib.hid (And.intro Try.underlying77 tab_size)
  go_enter Try.func56, Try.ntmps56
  go_upto_region 1 with fail
  refine wp_region_list ?_
  refine wpList_plain rfl fun K hK => ?_
  go_simp
  go_at_call 61
  refine (table_any _).mono ?_
  rintro _ w1 ⟨rfl, hb⟩
  refine hK _ _ ?_
  clear hK K
  have hz := tab_zero_run w1
  refine wpList_plain rfl fun K hK => ?_
  go_simp
  refine hK _ _ ?_
  clear hK K hz
  have O := Box.new w1 77 (tabArr 0)
  have hB0 := below_box hb (.cells (tabArr 0) 77)
  generalize w1.alloc (.cells (tabArr 0) 77) = w2 at *
  have hg1 := hb.size
  generalize w1.heap.size = g at *
  refine wpList_store_mid rfl 77 (.tmp 3) (.tmp 6) rfl g 0 (tabArr 256) rfl rfl (tab_there O) (by rw [HT.out.2, tab_len]) (tab_one 256) ?_
  refine wpList_nil ?_
  have hth' : w2.there g 0 (tabArr 256).toList.length := by rw [Array.length_toList]; exact tab_there O
  have hrg := World.rangeAt_setCells_same w2 g 0 (tabArr 256).toList hth'
  have hcell : ∀ j, j < 256 → (w2.setCells g 0 (tabArr 256).toList).cell? ⟨g, j, none⟩ = some (.int .u32 (shN 8 j : Nat)) := fun j hj => by
    have := hrg j (.int .u32 (shN 8 j : Nat)) (by rw [Array.getElem?_toList, tabArr_get 256 j hj, if_pos hj])
    rwa [Nat.zero_add] at this
  have hB : Below w.heap.size w (w2.setCells g 0 (tabArr 256).toList) := below_setCells _ _ _ hB0 hg1
  have hgl : g < (w2.setCells g 0 (tabArr 256).toList).heap.size := World.block_lt_of_cell? _ _ (hcell 0 (by decide))
  clear hrg hth' O hB0 hb
  generalize w2.setCells g 0 (tabArr 256).toList = w3 at *
  have HC := Lib.hid hcell
  have HB := Lib.hid hB
  clear hcell hB HT hg1 hgl
  simp only [Exit.then]
  rename_i hK
  refine hK _ _ ?_
  go_wp2
  go_loopw [9, 4] (CrcPRel t.data.toList w g) (fun i _ _ => t.size - (intOf i).toNat)
  case atStart => exact ⟨0, rfl, congrArg (Value.int .u32) (by rw [List.take_zero]; unfold crcL; rfl), by omega, HC.out, HB.out⟩
  case round =>
    clear HC HB
    obtain ⟨k, rfl, rfl, hk, hc, hB⟩ := hrel
    by_cases hlt : k < t.size
    · have hrl := crcL_lt (t.data.toList.take k) 4294967295 (by decide)
      have hst : crcL 4294967295 (t.data.toList.take (k + 1)) = shN 8 ((crcL 4294967295 (t.data.toList.take k) % 256) ^^^ (t.data.toList.getD k 0).toNat) ^^^ (crcL 4294967295 (t.data.toList.take k) / 256) := by
        rw [crcL_snoc t.data.toList k (by omega)]
        exact crcS_table _ _
      generalize crcL 4294967295 (t.data.toList.take k) = r at *
      have hb := UInt8.toNat_lt (t.data.toList.getD k 0)
      have hlt' : k < t.data.size := hlt
      have hbk : t.data[k]'hlt' = t.data.toList.getD k 0 := by
        rw [List.getD_eq_getElem?_getD, Array.getElem?_toList, Array.getElem?_eq_getElem hlt']
        rfl
      have HST := Lib.hid hst
      have HBK := Lib.hid hbk
      have HC := Lib.hid hc
      clear hst hbk hc
      have hx8 : (r % 256) ^^^ (t.data.toList.getD k 0).toNat < 256 := Nat.xor_lt_two_pow (n := 8) (by omega) hb
      have h1 : bits BinOp.xor IntKind.u8 ((r : Int) % 256) ((t.data[k]'hlt').toNat : Int) = (((r % 256) ^^^ (t.data.toList.getD k 0).toNat : Nat) : Int) := by
        rw [HBK.out]
        have := u8_xor_nat (r % 256) (t.data.toList.getD k 0).toNat (by omega) hb
        rw [← this]
        rfl
      have h2 : bits BinOp.xor IntKind.u8 ((r : Int) % 256) ((t[k]'hlt).toNat : Int) = (((r % 256) ^^^ (t.data.toList.getD k 0).toNat : Nat) : Int) := h1
      have c1 := HC.out _ hx8
      have hsx := shN_lt 8 ((r % 256) ^^^ (t.data.toList.getD k 0).toNat) (Nat.lt_trans hx8 (by decide))
      generalize (r % 256) ^^^ (t.data.toList.getD k 0).toNat = x at *
      have b0 : 0 ≤ bits BinOp.xor IntKind.u8 ((r : Int) % 256) ((t[k]'hlt).toNat : Int) := by rw [h2]; omega
      have b1 : bits BinOp.xor IntKind.u8 ((r : Int) % 256) ((t[k]'hlt).toNat : Int) < 256 := by rw [h2]; omega
      have c2 : wr.cell? ⟨g, (bits BinOp.xor IntKind.u8 ((r : Int) % 256) ((t[k]'hlt).toNat : Int)).toNat, none⟩ = some (.int .u32 (shN 8 x : Nat)) := by rw [h2, Int.toNat_natCast]; exact c1
      have hxr : bits BinOp.xor IntKind.u32 ((shN 8 x : Nat) : Int) ((r : Int) / 256) = ((shN 8 x ^^^ (r / 256) : Nat) : Int) := u32_xor_nat (shN 8 x) (r / 256) hsx (by omega)
      have HXR := Lib.hid hxr
      clear h1 h2 c1 hxr
      go_wp2
      go_roundw
      case rel => exact ⟨k + 1, by go_num, by rw [HST.out]; exact congrArg (Value.int .u32) HXR.out, by omega, HC.out, hB⟩
      case measure => simp [intOf]; omega
    · obtain rfl : k = t.size := by omega
      rw [List.take_of_length_le (by omega)]
      have hf : bits BinOp.xor IntKind.u32 IntKind.u32.max (crcL 4294967295 t.data.toList : Nat) = (crcV t.data.toList : Nat) := by
        have := u32_xor_nat 4294967295 (crcL 4294967295 t.data.toList) (by decide) (crcL_lt _ _ (by decide))
        unfold crcV
        rw [Nat.xor_comm]
        exact this
      have HF := Lib.hid hf
      clear hf hc
      go_wp2
      go_ret
      exact ⟨congrArg (fun z => Ending.returned (Value.int .u32 z)) HF.out, hB⟩
end Go.Proofs.Ytjcojgblnbhejaa
