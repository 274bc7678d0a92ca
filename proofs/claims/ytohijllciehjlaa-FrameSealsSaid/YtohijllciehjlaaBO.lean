/- FrameSeals: the walk. -/
import Derived.Test.YtohijllciehjlaaBM
namespace Go.Proofs.Ytohijllciehjlaa
open Go.ChangeShapes Go.WideShapes Go.ChangeAt Go.RowKit

def zeros (n : Nat) : List UInt8 := List.replicate n 0
theorem made_zeros (n : Nat) : (madeCells (Value.cells (.int .u8 0)) (n * 1)).toList = u8r (zeros n) := by
  rw [Nat.mul_one]
  unfold zeros u8r
  rw [List.map_replicate]
  apply List.ext_getElem?
  intro k
  by_cases hk : k < n
  · simp [madeCells, Value.cells, hk, Nat.mod_one]
  · simp [madeCells, Value.cells, hk]
set_option maxRecDepth 100000 in
set_option maxHeartbeats 2000000 in
theorem seals_main (b t : ByteArray) (long : Int) (W : World) (hb1 : (b.size : Int) ≤ 20000) (ht1 : (t.size : Int) ≤ 20000) : Calls Try.prog 5 #[.string b, .string t, .int .i64 long] W fun e w' => e = .returned (.bool true) ∧ Below W.heap.size W w' := by
  have HT := Lib.hid (show t.size ≤ 1000000 by omega)
  go_enter Try.func5, Try.ntmps5
  go_wp2_with fail
  refine (seal_any b _).mono ?_
  rintro _ w1 ⟨rfl, hB⟩
  go_wp2_with fail
  refine (rseal_any b _).mono ?_
  rintro _ w2 ⟨rfl, hb⟩
  replace hB := below_step hB hb
  clear hb
  generalize (sealV b.data.toList).1 = x
  generalize (sealV b.data.toList).2 = e1
  go_wp2_with fail
  refine (open_any t _ HT.out).mono ?_
  rintro _ w3 ⟨rfl, hb⟩
  replace hB := below_step hB hb
  clear hb
  go_wp2_with fail
  refine (ropen_any t _ HT.out).mono ?_
  rintro _ w4 ⟨rfl, hb⟩
  replace hB := below_step hB hb
  clear hb HT
  generalize (openV t.data.toList).body = y
  generalize (openV t.data.toList).n = e2
  generalize (openV t.data.toList).e = e3
  by_cases h1 : long < 262135
  · go_wp2_with fail
    refine (awake_any _).mono ?_
    rintro _ w5 ⟨rfl, hb⟩
    replace hB := below_step hB hb
    go_wp2
    go_ret
    exact ⟨rfl, hB⟩
  by_cases h2 : 262144 < long
  · have h1' : 262135 ≤ long := by omega
    clear h1
    go_wp2_with fail
    refine (awake_any _).mono ?_
    rintro _ w5 ⟨rfl, hb⟩
    replace hB := below_step hB hb
    go_wp2
    go_ret
    exact ⟨rfl, hB⟩
  obtain ⟨n, rfl⟩ : ∃ n : Nat, long = n := ⟨long.toNat, by omega⟩
  have hn1 : (262135 : Int) ≤ n := by omega
  have hn2 : (n : Int) ≤ 262144 := by omega
  clear h1 h2
  obtain ⟨i, hi, hz0, hz1, hz2⟩ := info_parts IB8
  have HI := Lib.hid (And.intro hi (And.intro hz0 (And.intro hz1 hz2)))
  clear hi hz0 hz1 hz2
  have hz := hB.size
  go_wp2_with (at_make; go_loud (refine wpList_make_full _ rfl _ _ 36 rfl W.heap.size 5 i (.int .u8 0) 1 Try.underlying36 HI.out.1 HI.out.2.1 HI.out.2.2.1 _ _ _ _ n rfl rfl rfl rfl (by rw [HI.out.2.2.2]; omega) (by unfold maxLen; omega) hz ?_); intro w5 ho hg; rw [made_zeros] at ho; have hB5 : Below W.heap.size W w5 := hB.trans (⟨hg.os, hg.tape, hg.output, hg.size, fun k hk => hg.block k (by omega) (by simp)⟩); have hcv := conv_own (show OwnB w5 W.heap.size _ (zeros n) by unfold OwnB; rw [show (zeros n).length = n by simp [zeros]]; exact ho); clear hg ho hB)
  have hse : ∀ W', Calls Try.prog 16 #[.string (bs (zeros n))] W' fun e w' => e = .returned (.tuple #[.string (bs (sealV (zeros n)).1), .int .i64 (sealV (zeros n)).2]) ∧ Below W'.heap.size W' w' := fun W' => by
    have h := seal_any (bs (zeros n)) W'
    rwa [show (bs (zeros n)).data.toList = zeros n by simp [bs]] at h
  have hzl : (zeros n).length = n := by simp [zeros]
  have HS := Lib.hid hse
  clear hse hcv
  by_cases hfit : n ≤ 262136
  · rw [show sealV (zeros n) = (sealL (zeros n), 0) from if_pos (by rw [hzl]; exact hfit)] at HS
    have hfi : (n : Int) ≤ 262136 := by omega
    clear hzl hfit
    dsimp only at HS
    generalize sealL (zeros n) = q at *
    refine (HS.out _).mono ?_
    rintro _ w6 ⟨rfl, hb⟩
    replace hB5 := below_step hB5 hb
    clear hb HS
    go_wp2_with fail
    refine (awake_any _).mono ?_
    rintro _ w7 ⟨rfl, hb⟩
    replace hB5 := below_step hB5 hb
    go_wp2
    go_ret
    exact ⟨rfl, hB5⟩
  · rw [show sealV (zeros n) = ([], 3) from if_neg (by rw [hzl]; exact hfit)] at HS
    have hfi : (262136 : Int) < n := by omega
    have htl : (bs []).toList = [] := bs_tl []
    have HF := Lib.hid (show (!decide ((n : Int) ≤ 262136)) = true by rw [decide_eq_false (by omega)]; rfl)
    clear hzl hfit
    dsimp only at HS
    refine (HS.out _).mono ?_
    rintro _ w6 ⟨rfl, hb⟩
    replace hB5 := below_step hB5 hb
    clear hb HS
    go_wp2_with fail
    refine (awake_any _).mono ?_
    rintro _ w7 ⟨rfl, hb⟩
    replace hB5 := below_step hB5 hb
    go_wp2
    go_ret
    exact ⟨congrArg (fun z => Ending.returned (Value.bool z)) HF.out, hB5⟩
set_option maxRecDepth 100000 in
set_option maxHeartbeats 1000000 in
theorem frameSeals_walk (b t : ByteArray) (long : Int) (W : World) {p0 p1 p2 : Prop} (_ : p0) (_ : p1) (_ : p2) : Calls Try.prog 5 #[.string b, .string t, .int .i64 long] W fun e w' => e = .returned (.bool true) ∧ Below W.heap.size W w' := by
  by_cases hb : 20000 < (b.size : Int)
  · go_enter Try.func5, Try.ntmps5
    go_wp2_with fail
    refine (awake_any _).mono ?_
    rintro _ w7 ⟨rfl, hB⟩
    go_wp2
    go_ret
    exact ⟨rfl, hB⟩
  have hb1 : (b.size : Int) ≤ 20000 := by omega
  by_cases ht : 20000 < (t.size : Int)
  · clear hb
    go_enter Try.func5, Try.ntmps5
    go_wp2_with fail
    refine (awake_any _).mono ?_
    rintro _ w7 ⟨rfl, hB⟩
    go_wp2
    go_ret
    exact ⟨rfl, hB⟩
  exact seals_main b t long W hb1 (by omega)
end Go.Proofs.Ytohijllciehjlaa
