/- Two lists of strings compared: the walk. -/
import Derived.Test.YtjcojgblnbhejaaBC
namespace Go.Proofs.Ytjcojgblnbhejaa
open Go.ChangeShapes Go.WideShapes Go.ChangeAt Go.RowKit

theorem seg_str {w : World} {A : Option Addr} {l : List (List UInt8)} (h : Seg w A l.length (strs l)) (k : Nat) (hk : k < l.length) : ∃ b o, A = some ⟨b, o, none⟩ ∧ b < w.heap.size ∧ w.cell? ⟨b, o + k, none⟩ = some (.string (bs (l.getD k []))) := h k hk
def SameRel (l m : List (List UInt8)) (w : World) (i : Value) (wr : World) : Prop := ∃ k : Nat, i = .int .i64 k ∧ k ≤ l.length ∧ l.take k = m.take k ∧ Below w.heap.size w wr
theorem take_getD (l : List (List UInt8)) (k : Nat) (h : k < l.length) : l.take (k + 1) = l.take k ++ [l.getD k []] := by
  rw [List.take_succ_eq_append_getElem h]
  simp [h]
set_option maxRecDepth 100000 in
set_option maxHeartbeats 1000000 in
theorem same_eq (A B : Option Addr) (ca cb : Nat) (l m : List (List UInt8)) (w : World) (hA : Seg w A l.length (strs l)) (hB : Seg w B l.length (strs m)) (hl : m.length = l.length) (hmax : (l.length : Int) ≤ 1000000) : Calls Try.prog 13 #[.slice A l.length ca, .slice B l.length cb] w fun e w' => e = .returned (.bool (decide (l = m))) ∧ Below w.heap.size w w' := by
  have HA := Lib.hid hA
  have HB := Lib.hid hB
  have HL := Lib.hid hl
  clear hA hB hl
  generalize hn : l.length = n at *
  have HN := Lib.hid hn
  clear hn
  go_enter Try.func13, Try.ntmps13
  go_wp2
  go_loopw [13] (SameRel l m w) (fun i _ => n - (intOf i).toNat)
  case atStart => exact ⟨0, rfl, by omega, by simp, Below.refl _ _⟩
  case round =>
    obtain ⟨k, rfl, hk, hall, hBw⟩ := hrel
    have HT := Lib.hid hall
    clear hall
    rw [HN.out] at hk
    by_cases hlt : k < n
    · obtain ⟨b1, o1, rfl, hb1, q1⟩ := seg_str (by rw [HN.out]; exact HA.out) k (by rw [HN.out]; exact hlt)
      obtain ⟨b2, o2, rfl, hb2, q2⟩ := seg_str (by rw [HL.out]; exact HB.out) k (by rw [HL.out]; exact hlt)
      replace q1 := (hBw.cell (p := ⟨b1, o1 + k, none⟩) hb1).trans q1
      replace q2 := (hBw.cell (p := ⟨b2, o2 + k, none⟩) hb2).trans q2
      have hki : (k : Int) < n := by omega
      have hk0 : (0 : Int) ≤ k := by omega
      by_cases hs : l.getD k [] = m.getD k []
      · have hs2 : (!(bs (l.getD k [])).toList == (bs (m.getD k [])).toList) = false := by rw [bs_same, decide_eq_true hs]; rfl
        have HS := Lib.hid hs
        clear hs
        generalize bs (l.getD k []) = x at *
        generalize bs (m.getD k []) = y at *
        go_upto_region 6 with fail
        go_quiet (fail)
        clear hs2
        have hb : Below w.heap.size w (wr.drewN nq) := below_step hBw (drewN_below _ _)
        generalize wr.drewN nq = w1 at *
        go_wp2
        go_roundw
        case rel => exact ⟨k + 1, by go_num, by rw [HN.out]; omega, by rw [take_getD l k (by rw [HN.out]; exact hlt), take_getD m k (by rw [HL.out]; exact hlt), HT.out, HS.out], hb⟩
        case measure => simp [intOf]; omega
      · have hs2 : (!(bs (l.getD k [])).toList == (bs (m.getD k [])).toList) = true := by rw [bs_same, decide_eq_false hs]; rfl
        have hf : decide (l = m) = false := decide_eq_false (fun h => hs (by rw [h]))
        have HF := Lib.hid hf
        clear hs hf
        generalize bs (l.getD k []) = x at *
        generalize bs (m.getD k []) = y at *
        go_upto_region 6 with fail
        go_quiet (fail)
        clear hs2
        have hb : Below w.heap.size w (wr.drewN nq) := below_step hBw (drewN_below _ _)
        generalize wr.drewN nq = w1 at *
        go_wp2
        go_ret
        exact ⟨congrArg (fun z => Ending.returned (Value.bool z)) HF.out.symm, hb⟩
    · obtain rfl : k = n := by omega
      have hf : decide (l = m) = true := decide_eq_true (by
        have h := HT.out
        rwa [List.take_of_length_le (by rw [HN.out]; exact Nat.le_refl _), List.take_of_length_le (by rw [HL.out]; exact Nat.le_refl _)] at h)
      have HF := Lib.hid hf
      clear hf
      go_wp2
      go_ret
      exact ⟨congrArg (fun z => Ending.returned (Value.bool z)) HF.out.symm, hBw⟩
theorem same_ne (A B : Option Addr) (n m ca cb : Nat) (w : World) (h : ((n : Int) != m) = true) : Calls Try.prog 13 #[.slice A n ca, .slice B m cb] w fun e w' => e = .returned (.bool false) ∧ Below w.heap.size w w' := by
  go_enter Try.func13, Try.ntmps13
  go_wp2
  go_ret
  exact ⟨rfl, Below.refl _ _⟩
/-- Two slices of strings compared. -/
theorem same_any (v u : Value) (l m : List (List UInt8)) (w : World) (hv : Strs w v l) (hu : Strs w u m) (hmax : l.length ≤ 1000000) : Calls Try.prog 13 #[v, u] w fun e w' => e = .returned (.bool (decide (l = m))) ∧ Below w.heap.size w w' := by
  obtain ⟨A, ca, rfl, hA, _⟩ := hv
  obtain ⟨B, cb, rfl, hB, _⟩ := hu
  by_cases h : m.length = l.length
  · rw [h] at hB ⊢
    exact same_eq A B ca cb l m w hA hB h (by omega)
  · rw [decide_eq_false (fun e => h (by rw [e]))]
    exact same_ne A B _ _ ca cb w (bne_iff_ne.2 (by omega))
end Go.Proofs.Ytjcojgblnbhejaa
