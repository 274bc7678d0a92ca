/- Join of the program and of the reference: the walks. -/
import Derived.Test.YtohijllciehjlaaBH
namespace Go.Proofs.Ytohijllciehjlaa
open Go.ChangeShapes Go.WideShapes Go.ChangeAt Go.RowKit

def jsum (l : List (List UInt8)) : Nat := 8 * l.length + sumLen l
def joinV (l : List (List UInt8)) : List UInt8 × Int := if jsum l ≤ 262144 then (joinL l, 0) else ([], 3)
theorem joinL_len (l : List (List UInt8)) : (joinL l).length = jsum l := by
  unfold jsum
  induction l with
  | nil => rfl
  | cons x l ih =>
    have e : joinL (x :: l) = sealL x ++ joinL l := by simp [joinL]
    rw [e, List.length_append, sealL_len, ih, sumLen_cons, List.length_cons]
    omega
theorem joinL_snoc (l : List (List UInt8)) (x : List UInt8) : joinL (l ++ [x]) = joinL l ++ sealL x := by simp [joinL]
theorem jsum_snoc (l : List (List UInt8)) (x : List UInt8) : jsum (l ++ [x]) = jsum l + 8 + x.length := by
  unfold jsum
  rw [sumLen_snoc, List.length_append]
  simp only [List.length_cons, List.length_nil]
  omega
theorem jsum_take (l : List (List UInt8)) (k : Nat) : jsum (l.take k) ≤ jsum l := by
  conv => rhs; rw [← List.take_append_drop k l]
  unfold jsum sumLen
  rw [List.map_append, List.sum_append, List.length_append]
  omega
theorem join_no {l : List (List UInt8)} {k : Nat} (h : 262144 < jsum (l.take k)) : joinV l = ([], 3) := if_neg (by have := jsum_take l k; omega)
def Joined (l : List (List UInt8)) (w : World) (e : Ending) (w' : World) : Prop := e = .returned (.tuple #[.string (bs (joinV l).1), .int .i64 (joinV l).2]) ∧ Below w.heap.size w w'
theorem joined_no {l : List (List UInt8)} {w w' : World} {e : Ending} (h : joinV l = ([], 3)) (he : e = .returned (.tuple #[.string ByteArray.empty, .int .i64 3])) (hb : Below w.heap.size w w') : Joined l w e w' := by
  refine ⟨?_, hb⟩
  rw [he, h]
  rfl
theorem joined_yes {l : List (List UInt8)} {w w' : World} {e : Ending} (h : jsum l ≤ 262144) (he : e = .returned (.tuple #[.string (bs (joinL l)), .int .i64 0])) (hb : Below w.heap.size w w') : Joined l w e w' := by
  refine ⟨?_, hb⟩
  unfold joinV
  rw [he, if_pos h]
theorem OwnB.form {w : World} {base : Nat} {v : Value} {l : List UInt8} (h : OwnB w base v l) : ∃ A cap, v = .slice A l.length cap := by
  rcases h.2 with ⟨rfl, h0⟩ | ⟨g, cap, cur, rfl, _⟩
  · exact ⟨none, 0, by rw [h0]⟩
  · exact ⟨_, cap, rfl⟩
def JoinRel (l : List (List UInt8)) (w : World) (u i : Value) (wr : World) : Prop := ∃ (k : Nat) (v : Value), v = u ∧ .int .i64 k = i ∧ k ≤ l.length ∧ OwnB wr w.heap.size v (joinL (l.take k)) ∧ jsum (l.take k) ≤ 262144 ∧ Below w.heap.size w wr
set_option maxRecDepth 100000 in
set_option maxHeartbeats 1000000 in
theorem join_seg (A : Option Addr) (ca : Nat) (l : List (List UInt8)) (w : World) (hA : Seg w A l.length (strs l)) (hmax : (l.length : Int) ≤ 1000000) : Calls Try.prog 20 #[.slice A l.length ca] w (Joined l w) := by
  have HA := Lib.hid hA
  clear hA
  generalize hn : l.length = n at *
  have HN := Lib.hid hn
  clear hn
  go_enter Try.func20, Try.ntmps20
  go_wp2
  go_loopw [4, 11] (JoinRel l w) (fun _ i _ => n - (intOf i).toNat)
  case atStart => exact ⟨0, _, rfl, rfl, by omega, OwnB.nil _ _, by simp [jsum, sumLen], Below.refl _ _⟩
  case round =>
    obtain ⟨k, v, rfl, rfl, hk, ho, hj, hB⟩ := hrel
    rw [HN.out] at hk
    have hz := hB.size
    by_cases hlt : k < n
    · obtain ⟨b1, o1, rfl, hb1, q1⟩ := seg_str (by rw [HN.out]; exact HA.out) k (by rw [HN.out]; exact hlt)
      replace q1 := (hB.cell (p := ⟨b1, o1 + k, none⟩) hb1).trans q1
      have hki : (k : Int) < n := by omega
      have hk0 : (0 : Int) ≤ k := by omega
      have hts := take_getD l k (by rw [HN.out]; exact hlt)
      have HS : Hid (∀ W, Calls Try.prog 16 #[.string (bs (l.getD k []))] W fun e w' => e = .returned (.tuple #[.string (bs (sealV (l.getD k [])).1), .int .i64 (sealV (l.getD k [])).2]) ∧ Below W.heap.size W w') := Lib.hid fun W => by
        have h := seal_any (bs (l.getD k [])) W
        rwa [show (bs (l.getD k [])).data.toList = l.getD k [] by simp [bs]] at h
      by_cases hx : (l.getD k []).length ≤ 262136
      · rw [show sealV (l.getD k []) = (sealL (l.getD k []), 0) from if_pos hx] at HS
        have hsl := sealL_len (l.getD k [])
        have hjs := jsum_snoc (l.take k) (l.getD k [])
        have hjl := joinL_snoc (l.take k) (l.getD k [])
        have hjn := joinL_len (l.take k)
        rw [← hts] at hjs hjl
        generalize l.getD k [] = x at *
        generalize joinL (l.take k) = out at *
        obtain ⟨A2, cap2, rfl⟩ := ho.form
        have hbz := bs_size (sealL x)
        by_cases hfit : jsum (l.take (k + 1)) ≤ 262144
        · have hfi : ((out.length : Nat) : Int) + ((bs (sealL x)).size : Int) ≤ 262144 := by omega
          have hf0 : (0 : Int) ≤ (bs (sealL x)).size := by omega
          have hf1 : out.length + (sealL x).length < 1000000 := by omega
          have H1 := Lib.hid hjl
          have H2 := Lib.hid hfit
          have H3 := Lib.hid hf1
          clear hts hsl hjs hjl hjn hbz hfit hf1 hj
          dsimp only at HS
          generalize sealL x = y at *
          go_wp2_with fail
          refine (HS.out _).mono ?_
          rintro _ w2 ⟨rfl, hb⟩
          replace ho := ho.up hb
          replace hB := below_step hB hb
          have hz2 : w.heap.size ≤ w2.heap.size := hB.size
          clear hb HS
          go_wp2_with (at_builtin; go_loud (refine wpList_pushs rfl (.tmp 30) (.tmp 31) rfl w.heap.size _ out y rfl rfl ho hB hz2 H3.out ?_); intro v' w3 ho3 hB3)
          go_roundw
          case rel => exact ⟨k + 1, _, rfl, by go_num, by rw [HN.out]; omega, by rw [H1.out]; exact ho3, H2.out, hB3⟩
          case measure => simp [intOf]; omega
        · have hfi : 262144 < ((out.length : Nat) : Int) + ((bs (sealL x)).size : Int) := by omega
          have hf2 : ((bs (sealL x)).size : Int) ≤ 1000000 := by omega
          have hf3 : ((out.length : Nat) : Int) ≤ 1000000 := by omega
          have HJ := Lib.hid (join_no (show 262144 < jsum (l.take (k + 1)) by omega))
          clear hts hsl hjs hjl hjn hbz hfit hj
          dsimp only at HS
          generalize sealL x = y at *
          go_wp2_with fail
          refine (HS.out _).mono ?_
          rintro _ w2 ⟨rfl, hb⟩
          replace hB := below_step hB hb
          clear hb HS ho
          go_wp2
          go_ret2
          exact joined_no HJ.out rfl hB
      · rw [show sealV (l.getD k []) = ([], 3) from if_neg hx] at HS
        have HJ := Lib.hid (join_no (show 262144 < jsum (l.take (k + 1)) by rw [hts, jsum_snoc]; omega))
        clear hts ho hj hx
        dsimp only at HS
        generalize l.getD k [] = x at *
        go_wp2_with fail
        refine (HS.out _).mono ?_
        rintro _ w2 ⟨rfl, hb⟩
        replace hB := below_step hB hb
        clear hb HS
        go_wp2
        go_ret2
        exact joined_no HJ.out rfl hB
    · obtain rfl : k = n := by omega
      rw [List.take_of_length_le (by rw [HN.out]; exact Nat.le_refl _)] at hj ho
      have HJ := Lib.hid hj
      have hcv := conv_own ho
      clear hj ho
      go_wp2
      go_ret2
      exact joined_yes HJ.out rfl hB
theorem join_any (u : Value) (l : List (List UInt8)) (w : World) (h : Strs w u l) (hmax : l.length ≤ 1000000) : Calls Try.prog 20 #[u] w (Joined l w) := by
  obtain ⟨A, ca, rfl, hA, _⟩ := h
  exact join_seg A ca l w hA (by omega)
end Go.Proofs.Ytohijllciehjlaa
