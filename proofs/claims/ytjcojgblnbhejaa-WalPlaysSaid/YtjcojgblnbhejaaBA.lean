/- Open of the program: the walk. -/
import Derived.Test.YtjcojgblnbhejaaAA
namespace Go.Proofs.Ytjcojgblnbhejaa
open Go.ChangeShapes Go.WideShapes Go.ChangeAt Go.RowKit

/-- What sealing gives. -/
def sealV (b : List UInt8) : List UInt8 × Int := if b.length ≤ 262136 then (sealL b, 0) else ([], 3)
theorem seal_any (t : ByteArray) (w : World) : Calls Try.prog 39 #[.string t] w fun e w' => e = .returned (.tuple #[.string (bs (sealV t.data.toList).1), .int .i64 (sealV t.data.toList).2]) ∧ Below w.heap.size w w' := by
  have hl : t.data.toList.length = t.size := Array.length_toList
  unfold sealV
  by_cases h : t.data.toList.length ≤ 262136
  · rw [if_pos h]; exact seal_yes t w (by omega)
  · rw [if_neg h]; exact seal_no t w (by omega)
theorem rseal_any (t : ByteArray) (w : World) : Calls Try.prog 48 #[.string t] w fun e w' => e = .returned (.tuple #[.string (bs (sealV t.data.toList).1), .int .i64 (sealV t.data.toList).2]) ∧ Below w.heap.size w w' := by
  have hl : t.data.toList.length = t.size := Array.length_toList
  unfold sealV
  by_cases h : t.data.toList.length ≤ 262136
  · rw [if_pos h]; exact rseal_yes t w (by omega)
  · rw [if_neg h]; exact rseal_no t w (by omega)
theorem ext_list (t : ByteArray) (a b : Nat) : (t.extract a b).data.toList = (t.data.toList.drop a).take (b - a) := by
  rw [ByteArray.data_extract, Array.toList_extract, List.extract_eq_take_drop]
theorem ext_size (t : ByteArray) (a b : Nat) (h : b ≤ t.size) : (t.extract a b).size = b - a := by
  rw [ByteArray.size_extract]; omega
set_option maxRecDepth 100000 in
set_option maxHeartbeats 400000 in
theorem open_short (t : ByteArray) (w : World) (h : (t.size : Int) < 8) : Calls Try.prog 57 #[.string t] w fun e w' => e = .returned (.tuple #[.string ByteArray.empty, .int .i64 0, .int .i64 14]) ∧ Below w.heap.size w w' := by
  go_enter Try.func57, Try.ntmps57
  go_wp2
  go_ret3
  exact ⟨rfl, Below.refl _ _⟩
set_option maxRecDepth 100000 in
set_option maxHeartbeats 400000 in
theorem open_big (t : ByteArray) (n : Nat) (w : World) (h : (8 : Int) ≤ t.size) (hs : (t.size : Int) ≤ 1000000) (hN : Hid (∀ W, Calls Try.prog 62 #[.string t] W fun e w' => e = .returned (.int .u32 n) ∧ Below W.heap.size W w')) (h1 : IntKind.i64.wrap (n : Int) = n) (h2 : (262136 : Int) < n) : Calls Try.prog 57 #[.string t] w fun e w' => e = .returned (.tuple #[.string ByteArray.empty, .int .i64 0, .int .i64 13]) ∧ Below w.heap.size w w' := by
  go_enter Try.func57, Try.ntmps57
  go_wp2_with fail
  refine (hN.out _).mono ?_
  rintro _ w1 ⟨rfl, hb⟩
  go_wp2
  go_ret3
  exact ⟨rfl, hb⟩
set_option maxRecDepth 100000 in
set_option maxHeartbeats 400000 in
theorem open_cut (t : ByteArray) (n : Nat) (w : World) (h : (8 : Int) ≤ t.size) (hs : (t.size : Int) ≤ 1000000) (hN : Hid (∀ W, Calls Try.prog 62 #[.string t] W fun e w' => e = .returned (.int .u32 n) ∧ Below W.heap.size W w')) (h2 : (n : Int) ≤ 262136) (h3 : (t.size : Int) - 8 < n) : Calls Try.prog 57 #[.string t] w fun e w' => e = .returned (.tuple #[.string ByteArray.empty, .int .i64 0, .int .i64 14]) ∧ Below w.heap.size w w' := by
  go_enter Try.func57, Try.ntmps57
  go_wp2_with fail
  refine (hN.out _).mono ?_
  rintro _ w1 ⟨rfl, hb⟩
  go_wp2
  go_ret3
  exact ⟨rfl, hb⟩
set_option maxRecDepth 100000 in
set_option maxHeartbeats 400000 in
theorem open_full (t : ByteArray) (n c m : Nat) (w : World) (h : (8 : Int) ≤ t.size) (hs : (t.size : Int) ≤ 1000000) (hN : Hid (∀ W, Calls Try.prog 62 #[.string t] W fun e w' => e = .returned (.int .u32 n) ∧ Below W.heap.size W w')) (h2 : (n : Int) ≤ 262136) (h3 : (n : Int) ≤ (t.size : Int) - 8)
    (hC : Hid (∀ W, Calls Try.prog 56 #[.string (t.extract 8 (8 + n))] W fun e w' => e = .returned (.int .u32 c) ∧ Below W.heap.size W w')) (hM : Hid (∀ W, Calls Try.prog 62 #[.string (t.extract 4 t.size)] W fun e w' => e = .returned (.int .u32 m) ∧ Below W.heap.size W w')) (b : Bool) (hcm : ((c : Int) != (m : Int)) = b) : Calls Try.prog 57 #[.string t] w fun e w' => e = .returned (if b then .tuple #[.string ByteArray.empty, .int .i64 0, .int .i64 13] else .tuple #[.string (t.extract 8 (8 + n)), .int .i64 (8 + n), .int .i64 0]) ∧ Below w.heap.size w w' := by
  have HC := Lib.hid hcm
  clear hcm
  go_enter Try.func57, Try.ntmps57
  go_wp2_with fail
  refine (hN.out _).mono ?_
  rintro _ w1 ⟨rfl, hb⟩
  clear hN
  go_upto_region 9 with fail
  refine wp_region_calm (by kernel_rfl) (by kernel_rfl) ?_
  have h4 : (4 : Int) ≤ t.size := by omega
  quiet_step (fail)
  quiet_step ((go_at_call 56; exact calm_of (hC.out _)))
  quiet_step (fail)
  quiet_step (fail)
  quiet_step ((go_at_call 62; exact calm_of (hM.out _)))
  quiet_step (fail)
  refine wpQuiet_nil ?_
  rintro _ ⟨⟨w7, hb7⟩, rfl⟩
  replace hb := below_step hb hb7
  clear hb7
  have hcm := HC.out
  cases b
  all_goals
    go_wp2
    go_ret3
    exact ⟨rfl, hb⟩
/-- Open of the program. -/
theorem open_any (t : ByteArray) (w : World) (hs : t.size ≤ 1000000) : Calls Try.prog 57 #[.string t] w fun e w' => e = .returned (.tuple #[.string (bs (openV t.data.toList).body), .int .i64 (openV t.data.toList).n, .int .i64 (openV t.data.toList).e]) ∧ Below w.heap.size w w' := by
  have hl : t.data.toList.length = t.size := Array.length_toList
  have hlt := val4_lt t.data.toList
  unfold openV
  by_cases h8 : t.data.toList.length < 8
  · rw [if_pos h8]; exact open_short t w (by omega)
  rw [if_neg h8]
  have hN : Hid (∀ W, Calls Try.prog 62 #[.string t] W fun e w' => e = .returned (.int .u32 (val4 t.data.toList : Nat)) ∧ Below W.heap.size W w') := Lib.hid fun W => number_any t W (by omega)
  by_cases h1 : 262136 < val4 t.data.toList
  · rw [if_pos h1]; exact open_big t _ w (by omega) (by omega) hN (IntWalk.i64_in _ (by omega)) (by omega)
  rw [if_neg h1]
  by_cases h2 : t.data.toList.length < val4 t.data.toList + 8
  · rw [if_pos h2]; exact open_cut t _ w (by omega) (by omega) hN (by omega) (by omega)
  rw [if_neg h2]
  have e1 : (t.data.toList.drop 8).take (val4 t.data.toList) = (t.extract 8 (8 + val4 t.data.toList)).data.toList := by rw [ext_list, show 8 + val4 t.data.toList - 8 = val4 t.data.toList by omega]
  have e2 : t.data.toList.drop 4 = (t.extract 4 t.size).data.toList := by rw [ext_list, List.take_of_length_le (by rw [List.length_drop]; omega)]
  have z1 := ext_size t 8 (8 + val4 t.data.toList) (by omega)
  have z2 := ext_size t 4 t.size (by omega)
  refine (open_full t _ (crcV (t.extract 8 (8 + val4 t.data.toList)).data.toList) (val4 (t.extract 4 t.size).data.toList) w (by omega) (by omega) hN (by omega) (by omega) (Lib.hid fun W => crc_any _ W (by omega)) (Lib.hid fun W => number_any _ W (by omega)) _ rfl).mono fun e w' ⟨he, hb⟩ => ⟨?_, hb⟩
  rw [he, e1, e2]
  generalize crcV (t.extract 8 (8 + val4 t.data.toList)).data.toList = c
  generalize val4 (t.extract 4 t.size).data.toList = m
  by_cases h3 : c = m
  · rw [if_neg (by simp [h3]), if_pos h3]
    dsimp only
    rw [← bs_list]
    rfl
  · rw [if_pos (bne_iff_ne.2 fun h => h3 (by omega)), if_neg h3]
    rfl
end Go.Proofs.Ytjcojgblnbhejaa
