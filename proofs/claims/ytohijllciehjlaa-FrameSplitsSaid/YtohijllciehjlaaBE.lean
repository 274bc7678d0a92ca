/- The total of a list of strings: the walk. -/
import Derived.Test.YtohijllciehjlaaBD
namespace Go.Proofs.Ytohijllciehjlaa
open Go.ChangeShapes Go.WideShapes Go.ChangeAt Go.RowKit

def sumLen (l : List (List UInt8)) : Nat := (l.map List.length).sum
theorem sumLen_snoc (l : List (List UInt8)) (x : List UInt8) : sumLen (l ++ [x]) = sumLen l + x.length := by simp [sumLen]
theorem sumLen_cons (l : List (List UInt8)) (x : List UInt8) : sumLen (x :: l) = x.length + sumLen l := by simp [sumLen]
theorem sumLen_mem {l : List (List UInt8)} {x : List UInt8} (h : x ∈ l) : x.length ≤ sumLen l := by
  induction l with
  | nil => cases h
  | cons a l ih =>
    rw [sumLen_cons]
    rcases List.mem_cons.1 h with rfl | h
    · omega
    · have := ih h; omega
def TotRel (l : List (List UInt8)) (w : World) (u i : Value) (wr : World) : Prop := ∃ (k : Nat) (v : Int), .int .i64 v = u ∧ i = .int .i64 k ∧ k ≤ l.length ∧ 0 ≤ v ∧ v ≤ 140737488355328 ∧ (v ≤ 20000 → ((l.length + sumLen (l.take k) : Nat) : Int) ≤ v) ∧ Below w.heap.size w wr
/-- The total: at most 20000 only where it is. -/
def Tot (l : List (List UInt8)) (w : World) (e : Ending) (w' : World) : Prop := ∃ v : Int, e = .returned (.int .i64 v) ∧ (v ≤ 20000 → l.length + sumLen l ≤ 20000) ∧ Below w.heap.size w w'
set_option maxRecDepth 100000 in
set_option maxHeartbeats 1000000 in
theorem total_seg (A : Option Addr) (ca : Nat) (l : List (List UInt8)) (w : World) (hA : Seg w A l.length (strs l)) (hl : (l.length : Int) ≤ 140737488355328) (hm : ∀ x ∈ l, x.length ≤ 140737488355328) : Calls Try.prog 9 #[.slice A l.length ca] w (Tot l w) := by
  have HA := Lib.hid hA
  have HM := Lib.hid hm
  clear hA hm
  generalize hn : l.length = n at *
  have HN := Lib.hid hn
  clear hn
  go_enter Try.func9, Try.ntmps9
  go_wp2
  go_loopw [3, 9] (TotRel l w) (fun _ i _ => n - (intOf i).toNat)
  case atStart => exact ⟨0, n, rfl, rfl, by omega, by omega, by omega, fun h => by rw [HN.out]; simp [sumLen], Below.refl _ _⟩
  case round =>
    obtain ⟨k, v, rfl, rfl, hk, hv0, hv1, hv, hBw⟩ := hrel
    have HV := Lib.hid hv
    clear hv
    rw [HN.out] at hk
    by_cases hlt : k < n
    · obtain ⟨b1, o1, rfl, hb1, q1⟩ := seg_str (by rw [HN.out]; exact HA.out) k (by rw [HN.out]; exact hlt)
      replace q1 := (hBw.cell (p := ⟨b1, o1 + k, none⟩) hb1).trans q1
      have hki : (k : Int) < n := by omega
      have hk0 : (0 : Int) ≤ k := by omega
      have hmem := HM.out (l.getD k []) (by
        rw [List.getD_eq_getElem?_getD, List.getElem?_eq_getElem (by rw [HN.out]; exact hlt)]
        exact List.getElem_mem _)
      have hxs := bs_size (l.getD k [])
      have HX := Lib.hid hxs
      rw [← hxs] at hmem
      clear hxs
      generalize bs (l.getD k []) = x at *
      have hx0 : (0 : Int) ≤ x.size := by omega
      have hx1 : (x.size : Int) ≤ 140737488355328 := by omega
      clear hmem
      by_cases hmin : 1000000 ≤ v + (x.size : Int)
      all_goals
        go_wp2
        go_roundw
        case rel => exact ⟨k + 1, _, rfl, by go_num, by rw [HN.out]; omega, by omega, by omega, fun h => by rw [take_getD l k (by rw [HN.out]; exact hlt), sumLen_snoc, ← HX.out]; have := HV.out (by omega); omega, hBw⟩
        case measure => simp [intOf]; omega
    · obtain rfl : k = n := by omega
      go_wp2
      go_ret
      exact ⟨v, rfl, fun h => by have := HV.out h; rw [List.take_of_length_le (by rw [HN.out]; exact Nat.le_refl _)] at this; omega, hBw⟩
end Go.Proofs.Ytohijllciehjlaa
