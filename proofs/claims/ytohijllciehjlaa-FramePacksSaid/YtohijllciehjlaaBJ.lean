/- Join of the reference: the walk. -/
import Derived.Test.YtohijllciehjlaaBI
namespace Go.Proofs.Ytohijllciehjlaa
open Go.ChangeShapes Go.WideShapes Go.ChangeAt Go.RowKit

def RJ1 (l : List (List UInt8)) (w : World) (u i : Value) (wr : World) : Prop := ∃ (k : Nat) (j : Nat), .int .i64 j = u ∧ .int .i64 k = i ∧ k ≤ l.length ∧ j = jsum (l.take k) ∧ j ≤ 262144 ∧ Below w.heap.size w wr
def RJ2 (l : List (List UInt8)) (w : World) (u i : Value) (wr : World) : Prop := ∃ (k : Nat) (v : Value), v = u ∧ .int .i64 k = i ∧ k ≤ l.length ∧ OwnB wr w.heap.size v (joinL (l.take k)) ∧ Below w.heap.size w wr
set_option maxRecDepth 100000 in
set_option maxHeartbeats 1000000 in
theorem rjoin_seg (A : Option Addr) (ca : Nat) (l : List (List UInt8)) (w : World) (hA : Seg w A l.length (strs l)) (hmax : (l.length : Int) ≤ 1000000) : Calls Try.prog 21 #[.slice A l.length ca] w (Joined l w) := by
  have HA := Lib.hid hA
  clear hA
  obtain ⟨i, hi, hz0, hz1, hz2⟩ := info_parts IB8
  have HI := Lib.hid (And.intro hi (And.intro hz0 (And.intro hz1 hz2)))
  clear hi hz0 hz1 hz2
  generalize hn : l.length = n at *
  have HN := Lib.hid hn
  clear hn
  go_enter Try.func21, Try.ntmps21
  go_wp2
  go_loopw [4, 12] (RJ1 l w) (fun _ i _ => n - (intOf i).toNat)
  case atStart => exact ⟨0, 0, rfl, rfl, by omega, by simp [jsum, sumLen], by omega, Below.refl _ _⟩
  case round =>
    obtain ⟨k, j, rfl, rfl, hk, hj, hj2, hB⟩ := hrel
    rw [HN.out] at hk
    by_cases hlt : k < n
    · obtain ⟨b1, o1, rfl, hb1, q1⟩ := seg_str (by rw [HN.out]; exact HA.out) k (by rw [HN.out]; exact hlt)
      replace q1 := (hB.cell (p := ⟨b1, o1 + k, none⟩) hb1).trans q1
      have hki : (k : Int) < n := by omega
      have hk0 : (0 : Int) ≤ k := by omega
      have hts := take_getD l k (by rw [HN.out]; exact hlt)
      have hjs := jsum_snoc (l.take k) (l.getD k [])
      rw [← hts] at hjs
      have hbz := bs_size (l.getD k [])
      generalize l.getD k [] = x at *
      by_cases hx : x.length ≤ 262136
      · have hxi : ((bs x).size : Int) ≤ 262136 := by omega
        by_cases hfit : jsum (l.take (k + 1)) ≤ 262144
        · have hfi : (j : Int) + 8 + ((bs x).size : Int) ≤ 262144 := by omega
          have H1 := Lib.hid (show j + 8 + (bs x).size = jsum (l.take (k + 1)) by omega)
          clear hts hjs hfit hj hbz hx
          generalize bs x = y at *
          go_wp2
          go_roundw
          case rel => exact ⟨k + 1, j + 8 + y.size, by go_num, by go_num, by rw [HN.out]; omega, H1.out, by omega, hB⟩
          case measure => simp [intOf]; omega
        · have hfi : 262144 < (j : Int) + 8 + ((bs x).size : Int) := by omega
          have HJ := Lib.hid (join_no (show 262144 < jsum (l.take (k + 1)) by omega))
          clear hts hjs hfit hj hbz hx
          generalize bs x = y at *
          go_wp2
          go_ret2
          exact joined_no HJ.out rfl hB
      · have hxi : 262136 < ((bs x).size : Int) := by omega
        have HJ := Lib.hid (join_no (show 262144 < jsum (l.take (k + 1)) by omega))
        clear hts hjs hj hbz hx
        generalize bs x = y at *
        go_wp2
        go_ret2
        exact joined_no HJ.out rfl hB
    · obtain rfl : k = n := by omega
      rw [List.take_of_length_le (by rw [HN.out]; exact Nat.le_refl _)] at hj
      have HJ := Lib.hid (show jsum l ≤ 262144 by omega)
      clear hj
      have hz := hB.size
      go_wp2_with (at_make; go_loud (refine wpList_make_own _ rfl _ _ 36 rfl w.heap.size 5 i (.int .u8 0) 1 Try.underlying36 HI.out.1 HI.out.2.1 HI.out.2.2.1 _ _ _ j rfl rfl (by omega) (by rw [HI.out.2.2.2]; omega) (by unfold maxLen; omega) hz ?_); intro w2 ho hg)
      have hB2 : Below w.heap.size w w2 := hB.trans (⟨hg.os, hg.tape, hg.output, hg.size, fun k hk => hg.block k (by omega) (by simp)⟩)
      have hl0 : k - 0 = k := rfl
      clear hg hB
      go_loopw [6, 45] (RJ2 l w) (fun _ i _ => k - (intOf i).toNat)
      case atStart => exact ⟨0, _, rfl, rfl, by omega, ho, hB2⟩
      case round =>
        clear ho hB2
        obtain ⟨m, v, rfl, rfl, hm, ho, hB⟩ := hrel
        rw [HN.out] at hm
        have hz := hB.size
        by_cases hlt : m < k
        · obtain ⟨b1, o1, rfl, hb1, q1⟩ := seg_str (by rw [HN.out]; exact HA.out) m (by rw [HN.out]; exact hlt)
          replace q1 := (hB.cell (p := ⟨b1, o1 + m, none⟩) hb1).trans q1
          have hki : (m : Int) < k := by omega
          have hk0 : (0 : Int) ≤ m := by omega
          have hts := take_getD l m (by rw [HN.out]; exact hlt)
          have hjl := joinL_snoc (l.take m) (l.getD m [])
          have hjn := joinL_len (l.take m)
          have hjs := jsum_snoc (l.take m) (l.getD m [])
          have hj1 := jsum_take l (m + 1)
          have hj2 := HJ.out
          rw [← hts] at hjl hjs
          have HS : Hid (∀ W, Calls Try.prog 17 #[.string (bs (l.getD m []))] W fun e w' => e = .returned (.tuple #[.string (bs (sealV (l.getD m [])).1), .int .i64 (sealV (l.getD m [])).2]) ∧ Below W.heap.size W w') := Lib.hid fun W => by
            have h := rseal_any (bs (l.getD m [])) W
            rwa [show (bs (l.getD m [])).data.toList = l.getD m [] by simp [bs]] at h
          rw [show sealV (l.getD m []) = (sealL (l.getD m []), 0) from if_pos (by omega)] at HS
          have hsl := sealL_len (l.getD m [])
          generalize l.getD m [] = x at *
          generalize joinL (l.take m) = out at *
          have H1 := Lib.hid hjl
          have H3 := Lib.hid (show out.length + (sealL x).length < 1000000 by omega)
          clear hts hsl hjs hjl hjn hj1 hj2
          dsimp only at HS
          generalize sealL x = y at *
          go_wp2_with fail
          refine (HS.out _).mono ?_
          rintro _ w3 ⟨rfl, hb⟩
          replace ho := ho.up hb
          replace hB := below_step hB hb
          have hz2 : w.heap.size ≤ w3.heap.size := hB.size
          clear hb HS
          go_wp2_with (at_builtin; go_loud (refine wpList_pushs rfl (.tmp 56) (.tmp 57) rfl w.heap.size _ out y rfl rfl ho hB hz2 H3.out ?_); intro v' w4 ho4 hB4)
          go_roundw
          case rel => exact ⟨m + 1, _, rfl, by go_num, by rw [HN.out]; omega, by rw [H1.out]; exact ho4, hB4⟩
          case measure => simp [intOf]; omega
        · obtain rfl : m = k := by omega
          rw [List.take_of_length_le (by rw [HN.out]; exact Nat.le_refl _)] at ho
          have hcv := conv_own ho
          clear ho
          go_wp2
          go_ret2
          exact joined_yes HJ.out rfl hB
theorem rjoin_any (u : Value) (l : List (List UInt8)) (w : World) (h : Strs w u l) (hmax : l.length ≤ 1000000) : Calls Try.prog 21 #[u] w (Joined l w) := by
  obtain ⟨A, ca, rfl, hA, _⟩ := h
  exact rjoin_seg A ca l w hA (by omega)
end Go.Proofs.Ytohijllciehjlaa
