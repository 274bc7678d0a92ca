/- Contracts of identifiers: ident.ID and faasref05.ID say the same of every string. -/
import Derived.Test.YtfcihloebncmdaaDoorH
import Derived.Laws.RangeAny
namespace Go.Proofs.YtfcihloebncmdaaDoor
open Go.ChangeShapes Go.WideShapes Go.ChangeAt Go.RowKit

def letB (c : Int) : Bool := decide (97 ≤ c ∧ c ≤ 122 ∨ 48 ≤ c ∧ c ≤ 57 ∨ 65 ≤ c ∧ c ≤ 90 ∨ c = 45 ∨ c = 95 ∨ c = 46 ∨ c = 58 ∨ c = 47)
def idL (s : List UInt8) : Bool := s.all fun b => letB b.toNat
def idB (s : ByteArray) : Bool := decide (1 ≤ s.size ∧ s.size ≤ 64) && idL s.data.toList

theorem let_cases (c : Int) : (c < 45) ∨ (c = 45) ∨ (c = 46) ∨ (c = 47) ∨ (48 ≤ c ∧ c ≤ 57) ∨ (c = 58) ∨ (59 ≤ c ∧ c ≤ 64) ∨ (65 ≤ c ∧ c ≤ 90) ∨ (91 ≤ c ∧ c ≤ 94) ∨ (c = 95) ∨ (c = 96) ∨ (97 ≤ c ∧ c ≤ 122) ∨ (122 < c) := by omega

theorem ret_bool {a b : Bool} (h : a = b) : Ending.returned (.bool a) = .returned (.bool b) := by rw [h]
set_option maxHeartbeats 1000000 in
theorem letter_any (c : Int) (w : World) : Calls Tryd.prog 27 #[.int .i32 c] w fun e w' => e = .returned (.bool (letB c)) ∧ w = w' := by
  go_enter Tryd.func27, Tryd.ntmps27
  go_wp2
  all_goals
    go_ret
    refine ⟨ret_bool ?_, rfl⟩
    unfold letB
    rw [Bool.eq_iff_iff]
    first | (simp; done) | (simp; omega)
set_option maxHeartbeats 1000000 in
theorem part_any (c : Int) (w : World) : Calls Tryd.prog 28 #[.int .u8 c] w fun e w' => e = .returned (.bool (letB c)) ∧ w = w' := by
  go_enter Tryd.func28, Tryd.ntmps28
  go_wp2
  all_goals
    go_ret
    refine ⟨ret_bool ?_, rfl⟩
    unfold letB
    rw [Bool.eq_iff_iff]
    first | (simp; done) | (simp; omega)

theorem take_snoc (s : ByteArray) (k : Nat) (h : k < s.size) : s.data.toList.take (k + 1) = s.data.toList.take k ++ [s[k]] := by
  rw [List.take_succ_eq_append_getElem (by simpa using h)]; rfl
theorem idL_snoc (s : ByteArray) (k : Nat) (h : k < s.size) : idL (s.data.toList.take (k + 1)) = (idL (s.data.toList.take k) && letB (s[k].toNat : Int)) := by
  rw [take_snoc s k h]; simp [idL]
theorem idL_no (s : ByteArray) (k : Nat) (h : k < s.size) (hb : letB (s[k].toNat : Int) = false) : idL s.data.toList = false := by
  unfold idL
  rw [List.all_eq_false]
  exact ⟨s[k], by show s.data[k] ∈ _; simp, by simpa using hb⟩
theorem idL_all (s : ByteArray) (k : Nat) (h : s.size ≤ k) : s.data.toList.take k = s.data.toList := List.take_of_length_le (by simpa using h)
theorem letB_high (c : Int) (h : 128 ≤ c) : letB c = false := by simp [letB]; omega

theorem below_iter (w : World) (s : ByteArray) (p : Nat) : Below w.heap.size w (w.iter s p) := (Below.refl _ w).alloc (Nat.le_refl _) _

set_option maxHeartbeats 1000000 in
theorem id_any (s : ByteArray) (w : World) (hs : s.size ≤ maxLen) : Calls Tryd.prog 21 #[.string s] w fun e w' => e = .returned (.bool (idB s)) ∧ Below w.heap.size w w' := by
  unfold maxLen at hs
  go_enter Tryd.func21, Tryd.ntmps21
  go_wp2
  go_loopw [] (fun wr => ∃ k : Nat, k ≤ s.size ∧ idL (s.data.toList.take k) = true ∧ wr = w.iter s k) (fun wr => s.size - wr.iterPos w.heap.size)
  case atStart => exact ⟨0, Nat.zero_le _, rfl, rfl⟩
  case round =>
    obtain ⟨k, hk, hl, rfl⟩ := hrel
    have HL := Lib.hid hl
    clear hl
    by_cases hp : k < s.size
    · by_cases ha : s[k].toNat < 128
      · have hnx : ∀ ty, (Instr.next (.pointer (some ⟨w.heap.size, 0, none⟩)) true ty).run Tryd.prog (w.iter s k) = _ := fun ty => run_next_ascii w s k ty hp ha
        cases hb : letB (s[k].toNat : Int)
        · have HS := Lib.hid (show idB s = false by unfold idB; rw [idL_no s k hp hb]; simp)
          have HC : Hid (∀ W, _) := fun W => letter_any (s[k].toNat : Int) W
          rw [hb] at HC
          clear hb
          go_wp2_with (go_at_call 27; refine (HC.out _).mono ?_; rintro _ w' ⟨rfl, rfl⟩)
          go_ret
          exact ⟨ret_bool HS.out.symm, below_iter _ _ _⟩
        · have HS := Lib.hid (show idL (s.data.toList.take (k + 1)) = true by rw [idL_snoc s k hp, HL.out, hb]; rfl)
          have HC : Hid (∀ W, _) := fun W => letter_any (s[k].toNat : Int) W
          rw [hb] at HC
          clear hb
          go_wp2_with (go_at_call 27; refine (HC.out _).mono ?_; rintro _ w' ⟨rfl, rfl⟩)
          go_roundw
          case rel => exact ⟨k + 1, by omega, HS.out, rfl⟩
          case measure => simp; omega
      · have hnx : ∀ ty, (Instr.next (.pointer (some ⟨w.heap.size, 0, none⟩)) true ty).run Tryd.prog (w.iter s k) = _ := fun ty => run_next_any w s k ty hp
        have hd := (decode_high s k hp (by omega)).1
        have HS := Lib.hid (show idB s = false by unfold idB; rw [idL_no s k hp (letB_high _ (by omega))]; simp)
        have HC : Hid (∀ W, _) := fun W => letter_any ((Utf8.decode s k).1 : Int) W
        rw [letB_high _ (by omega)] at HC
        go_wp2_with (go_at_call 27; refine (HC.out _).mono ?_; rintro _ w' ⟨rfl, rfl⟩)
        go_ret
        exact ⟨ret_bool HS.out.symm, below_iter _ _ _⟩
    · have hnx : ∀ ty, (Instr.next (.pointer (some ⟨w.heap.size, 0, none⟩)) true ty).run Tryd.prog (w.iter s k) = _ := fun ty => run_next_end w s k ty hp
      have h2 : idB s = decide (1 ≤ s.size ∧ s.size ≤ 64) := by unfold idB; rw [← idL_all s k (by omega), HL.out]; simp
      by_cases g1 : 1 ≤ s.size
      · by_cases g2 : s.size ≤ 64
        · have HS := Lib.hid (h2.trans (by simp; omega : _ = true))
          clear h2
          have e1 : decide ((1 : Int) ≤ (s.size : Int)) = true := by simp; omega
          have e2 : decide ((s.size : Int) ≤ 64) = true := by simp; omega
          go_wp2
          go_ret
          exact ⟨ret_bool HS.out.symm, below_iter _ _ _⟩
        · have HS := Lib.hid (h2.trans (by simp; omega : _ = false))
          clear h2
          have e1 : decide ((1 : Int) ≤ (s.size : Int)) = true := by simp; omega
          have e2 : decide ((s.size : Int) ≤ 64) = false := by simp; omega
          go_wp2
          go_ret
          exact ⟨ret_bool HS.out.symm, below_iter _ _ _⟩
      · have HS := Lib.hid (h2.trans (by simp; omega : _ = false))
        clear h2
        have e1 : decide ((1 : Int) ≤ (s.size : Int)) = false := by simp; omega
        go_wp2
        go_ret
        exact ⟨ret_bool HS.out.symm, below_iter _ _ _⟩

set_option maxHeartbeats 1000000 in
theorem rid_any (s : ByteArray) (w : World) (hs : s.size ≤ maxLen) : Calls Tryd.prog 23 #[.string s] w fun e w' => e = .returned (.bool (idB s)) ∧ w = w' := by
  unfold maxLen at hs
  by_cases g1 : 1 ≤ s.size
  · by_cases g2 : s.size ≤ 64
    · have h2 : idB s = idL s.data.toList := by unfold idB; rw [decide_eq_true (by omega)]; simp
      have H2 := Lib.hid h2
      clear h2
      have e1 : decide ((s.size : Int) < 1) = false := by simp; omega
      have e2 : decide ((64 : Int) < (s.size : Int)) = false := by simp; omega
      go_enter Tryd.func23, Tryd.ntmps23
      go_wp2_with fail
      go_loop [3] (fun i => ∃ k : Nat, k ≤ s.size ∧ i = .int .i64 k ∧ idL (s.data.toList.take k) = true) (fun i => s.size - (intOf i).toNat)
      case atStart => exact ⟨0, Nat.zero_le _, rfl, rfl⟩
      case round =>
        obtain ⟨k, hk, rfl, hl⟩ := hrel
        have HL := Lib.hid hl
        clear hl
        by_cases hp : k < s.size
        · have HC : Hid (∀ W, _) := fun W => part_any (s[k].toNat : Int) W
          cases hb : letB (s[k].toNat : Int)
          · have HS := Lib.hid (H2.out.trans (idL_no s k hp hb))
            rw [hb] at HC
            clear hb
            go_wp2_with (go_at_call 28; refine (HC.out _).mono ?_; rintro _ w' ⟨rfl, rfl⟩)
            go_ret
            exact ⟨ret_bool HS.out.symm, rfl⟩
          · have HS := Lib.hid (show idL (s.data.toList.take (k + 1)) = true by rw [idL_snoc s k hp, HL.out, hb]; rfl)
            rw [hb] at HC
            clear hb
            go_wp2_with (go_at_call 28; refine (HC.out _).mono ?_; rintro _ w' ⟨rfl, rfl⟩)
            go_round
            case rel => exact ⟨k + 1, by omega, by go_num, HS.out⟩
            case measure => simp [intOf]; omega
        · have HS := Lib.hid (H2.out.trans ((congrArg idL (idL_all s k (by omega))).symm.trans HL.out))
          go_wp2_with fail
          go_ret
          exact ⟨ret_bool HS.out.symm, rfl⟩
    · rw [show idB s = false by unfold idB; rw [decide_eq_false (by omega)]; rfl]
      have e1 : decide ((s.size : Int) < 1) = false := by simp; omega
      have e2 : decide ((64 : Int) < (s.size : Int)) = true := by simp; omega
      go_enter Tryd.func23, Tryd.ntmps23
      go_wp2_with fail
      go_ret
      exact ⟨rfl, rfl⟩
  · rw [show idB s = false by unfold idB; rw [decide_eq_false (by omega)]; rfl]
    have e1 : decide ((s.size : Int) < 1) = true := by simp; omega
    go_enter Tryd.func23, Tryd.ntmps23
    go_wp2_with fail
    go_ret
    exact ⟨rfl, rfl⟩

def timeB (n : Int) : Bool := decide (0 ≤ n ∧ n ≤ 1073741824)
set_option maxHeartbeats 400000 in
theorem time_any (n : Int) (w : World) : Calls Tryd.prog 22 #[.int .i64 n] w fun e w' => e = .returned (.bool (timeB n)) ∧ w = w' := by
  by_cases h1 : 0 ≤ n
  · by_cases h2 : n ≤ 1073741824
    · rw [show timeB n = true by simp [timeB]; omega]
      go_enter Tryd.func22, Tryd.ntmps22
      go_wp2
      go_ret
      exact ⟨rfl, rfl⟩
    · rw [show timeB n = false by simp [timeB]; omega]
      go_enter Tryd.func22, Tryd.ntmps22
      go_wp2
      go_ret
      exact ⟨rfl, rfl⟩
  · rw [show timeB n = false by simp [timeB]; omega]
    go_enter Tryd.func22, Tryd.ntmps22
    go_wp2
    go_ret
    exact ⟨rfl, rfl⟩
set_option maxHeartbeats 400000 in
theorem span_any (n : Int) (w : World) : Calls Tryd.prog 24 #[.int .i64 n] w fun e w' => e = .returned (.bool (timeB n)) ∧ w = w' := by
  by_cases h1 : 0 ≤ n
  · by_cases h2 : n ≤ 1073741824
    · rw [show timeB n = true by simp [timeB]; omega]
      go_enter Tryd.func24, Tryd.ntmps24
      go_wp2
      go_ret
      exact ⟨rfl, rfl⟩
    · rw [show timeB n = false by simp [timeB]; omega]
      go_enter Tryd.func24, Tryd.ntmps24
      go_wp2
      go_ret
      exact ⟨rfl, rfl⟩
  · rw [show timeB n = false by simp [timeB]; omega]
    go_enter Tryd.func24, Tryd.ntmps24
    go_wp2
    go_ret
    exact ⟨rfl, rfl⟩
end Go.Proofs.YtfcihloebncmdaaDoor
