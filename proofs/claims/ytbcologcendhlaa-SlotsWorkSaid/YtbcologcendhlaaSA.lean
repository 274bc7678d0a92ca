/- Names: the walks of the program (it goes by characters) and of the reference (it goes by bytes). -/
import Derived.Test.YtbcologcendhlaaSP
import Derived.Lib.OthersKept
import Derived.Laws.IdiomStrings
namespace Go.Proofs.Ytbcologcendhlaa
open Go.ChangeShapes Go.WideShapes Go.ChangeAt Go.RowKit

theorem bs_get (l : List UInt8) (i : Nat) (h : i < (bs l).size) : (bs l)[i]'h = l.getD i 0 := by
  rw [bs_size] at h
  show (bs l).data[i]'_ = _
  simp [bs, h]
theorem dec_cast (a b : Nat) : decide ((a : Int) ≤ (b : Int)) = decide (a ≤ b) := by simp
theorem ret_bool {a b : Bool} (h : a = b) : Ending.returned (.bool a) = .returned (.bool b) := by rw [h]
theorem beq_cast (a b : Nat) : ((a : Int) == (b : Int)) = (a == b) := by
  rw [Bool.eq_iff_iff, beq_iff_eq, beq_iff_eq]
  omega
theorem small_any (c : Nat) (w : World) : Calls Try.prog 36 #[.int .i32 c] w fun e w' => e = .returned (.bool (smallB c)) ∧ w = w' := by
  have h0 : smallB c = (decide ((97 : Int) ≤ c) && decide ((c : Int) ≤ 122)) := by
    unfold smallB
    rw [← dec_cast 97 c, ← dec_cast c 122]
    rfl
  rw [h0]
  go_enter Try.func36, Try.ntmps36
  go_wp2
  all_goals
    go_ret
    refine ⟨ret_bool ?_, rfl⟩
    simp_all <;> omega
theorem digit_any (c : Nat) (w : World) : Calls Try.prog 37 #[.int .i32 c] w fun e w' => e = .returned (.bool (digitB c)) ∧ w = w' := by
  have h0 : digitB c = (decide ((48 : Int) ≤ c) && decide ((c : Int) ≤ 57)) := by
    unfold digitB
    rw [← dec_cast 48 c, ← dec_cast c 57]
    rfl
  rw [h0]
  go_enter Try.func37, Try.ntmps37
  go_wp2
  all_goals
    go_ret
    refine ⟨ret_bool ?_, rfl⟩
    simp_all <;> omega
theorem rsmall_any (c : Nat) (w : World) : Calls Try.prog 34 #[.int .u8 c] w fun e w' => e = .returned (.bool (smallB c)) ∧ w = w' := by
  have h0 : smallB c = (decide ((97 : Int) ≤ c) && decide ((c : Int) ≤ 122)) := by
    unfold smallB
    rw [← dec_cast 97 c, ← dec_cast c 122]
    rfl
  rw [h0]
  go_enter Try.func34, Try.ntmps34
  go_wp2
  all_goals
    go_ret
    refine ⟨ret_bool ?_, rfl⟩
    simp_all <;> omega
theorem rdigit_any (c : Nat) (w : World) : Calls Try.prog 35 #[.int .u8 c] w fun e w' => e = .returned (.bool (digitB c)) ∧ w = w' := by
  have h0 : digitB c = (decide ((48 : Int) ≤ c) && decide ((c : Int) ≤ 57)) := by
    unfold digitB
    rw [← dec_cast 48 c, ← dec_cast c 57]
    rfl
  rw [h0]
  go_enter Try.func35, Try.ntmps35
  go_wp2
  all_goals
    go_ret
    refine ⟨ret_bool ?_, rfl⟩
    simp_all <;> omega
theorem okAt_eq (i c : Nat) : okAt i c = (smallB c || (!((i : Int) == 0) && (digitB c || ((c : Int) == 45) || ((c : Int) == 95)))) := by
  unfold okAt
  have h1 : decide (i ≠ 0) = !((i : Int) == 0) := by
    rw [Bool.eq_iff_iff]
    simp
  have h2 : ((c : Int) == 45) = (c == 45) := beq_cast c 45
  have h3 : ((c : Int) == 95) = (c == 95) := beq_cast c 95
  rw [h1, h2, h3]
theorem i32_wrap (c : Nat) (h : c ≤ 2147483647) : IntKind.i32.wrap (c : Int) = c := by rw [IntKind.wrap_i32]; omega
def NameRel (s : Key) (k : Nat) (w wr : World) : Prop := ∃ pos : Nat, pos ≤ s.length ∧ wr.heap[k]? = some (.stringIter (bs s) pos) ∧ Below w.heap.size w wr ∧ ∀ i, i < pos → okAt i (s.getD i 0).toNat = true
set_option maxHeartbeats 2000000 in
theorem name_any (s : Key) (w : World) (hmax : (s.length : Int) ≤ 9223372036854775807) : Calls Try.prog 29 #[.string (bs s)] w fun e w' => e = .returned (.bool (nameV s)) ∧ Below w.heap.size w w' := by
  have hsz := bs_size s
  go_enter Try.func29, Try.ntmps29
  go_wp2
  go_loopw [3] (fun _ wr => NameRel s w.heap.size w wr) (fun _ wr => s.length - wr.iterPos w.heap.size)
  case atStart => exact ⟨0, Nat.zero_le _, World.iter_heap w (bs s) 0, (Below.refl _ _).alloc (Nat.le_refl _) _, fun i hi => absurd hi (by omega)⟩
  case round =>
    obtain ⟨pos, hp, hit, hB, hall⟩ := hrel
    have hmu : wr.iterPos w.heap.size = pos := by simp [World.iterPos, hit]
    by_cases hlt : pos < s.length
    · have hnx : ∀ ty, (Instr.next (.pointer (some ⟨w.heap.size, 0, none⟩)) true ty).run Try.prog wr = _ := fun ty => Lib.run_next_any_at wr w.heap.size (bs s) pos ty hit (by rw [hsz]; exact hlt)
      have hit2 := Lib.iterAt_heap wr w.heap.size (bs s) pos (pos + (Utf8.decode (bs s) pos).2) hit
      have hB2 := Lib.below_iterAt hB (Nat.le_refl _) (bs s) (pos + (Utf8.decode (bs s) pos).2)
      generalize wr.iterAt w.heap.size (bs s) (pos + (Utf8.decode (bs s) pos).2) = W1 at hnx hit2 hB2
      have hget := bs_get s pos (by rw [hsz]; exact hlt)
      by_cases ha : (s.getD pos 0).toNat < 128
      · have hd : Utf8.decode (bs s) pos = ((s.getD pos 0).toNat, 1) := by
          rw [decode_ascii (bs s) pos (by rw [hsz]; exact hlt) (by rw [hget]; exact ha), hget]
        rw [hd] at hnx hit2
        simp only at hnx hit2
        have HK := Lib.hid (fun (h : okAt pos (s.getD pos 0).toNat = true) (i : Nat) (hi : i < pos + 1) => (show okAt i (s.getD i 0).toNat = true by
          rcases (show i < pos ∨ i = pos by omega) with h1 | rfl
          · exact hall i h1
          · exact h))
        have HN := Lib.hid (fun h => (show nameV s = false by
          unfold nameV
          rw [allB_no (i := pos) hlt h]
          simp))
        have HE := Lib.hid (okAt_eq pos (s.getD pos 0).toNat)
        have hc : (s.getD pos 0).toNat ≤ 2147483647 := by omega
        have hwc := i32_wrap _ hc
        clear hget hd hit hB hall ha
        generalize hgc : (s.getD pos 0).toNat = c at *
        clear hgc
        have HS := Lib.hid (fun W => small_any c W)
        have HD := Lib.hid (fun W => digit_any c W)
        cases hS : smallB c
        · by_cases h0 : ((pos : Int) == 0) = true
          · go_wp2_with fail
            refine (HS.out _).mono ?_
            rintro _ _ ⟨rfl, rfl⟩
            rw [hS]
            go_wp2
            go_ret
            exact ⟨ret_bool (HN.out (by rw [HE.out]; simp [*])).symm, hB2⟩
          · replace h0 : ((pos : Int) == 0) = false := by simpa using h0
            cases hD : digitB c
            · by_cases h45 : ((c : Int) == 45) = true
              · have n45 : ((c : Int) != 45) = false := by rw [bne, h45]; rfl
                go_wp2_with fail
                refine (HS.out _).mono ?_
                rintro _ _ ⟨rfl, rfl⟩
                rw [hS]
                go_wp2_with fail
                refine (HD.out _).mono ?_
                rintro _ _ ⟨rfl, rfl⟩
                rw [hD]
                go_wp2
                go_roundw
                case rel => exact ⟨pos + 1, by omega, hit2, hB2, HK.out (by rw [HE.out]; simp [*])⟩
                case measure =>
                  have hmu2 : W1.iterPos w.heap.size = pos + 1 := by simp [World.iterPos, hit2]
                  rw [hmu, hmu2]
                  omega
              · replace h45 : ((c : Int) == 45) = false := by simpa using h45
                have n45 : ((c : Int) != 45) = true := by rw [bne, h45]; rfl
                by_cases h95 : ((c : Int) == 95) = true
                · have n95 : ((c : Int) != 95) = false := by rw [bne, h95]; rfl
                  go_wp2_with fail
                  refine (HS.out _).mono ?_
                  rintro _ _ ⟨rfl, rfl⟩
                  rw [hS]
                  go_wp2_with fail
                  refine (HD.out _).mono ?_
                  rintro _ _ ⟨rfl, rfl⟩
                  rw [hD]
                  go_wp2
                  go_roundw
                  case rel => exact ⟨pos + 1, by omega, hit2, hB2, HK.out (by rw [HE.out]; simp [*])⟩
                  case measure =>
                    have hmu2 : W1.iterPos w.heap.size = pos + 1 := by simp [World.iterPos, hit2]
                    rw [hmu, hmu2]
                    omega
                · replace h95 : ((c : Int) == 95) = false := by simpa using h95
                  have n95 : ((c : Int) != 95) = true := by rw [bne, h95]; rfl
                  go_wp2_with fail
                  refine (HS.out _).mono ?_
                  rintro _ _ ⟨rfl, rfl⟩
                  rw [hS]
                  go_wp2_with fail
                  refine (HD.out _).mono ?_
                  rintro _ _ ⟨rfl, rfl⟩
                  rw [hD]
                  go_wp2
                  go_ret
                  exact ⟨ret_bool (HN.out (by rw [HE.out]; simp [*])).symm, hB2⟩
            · go_wp2_with fail
              refine (HS.out _).mono ?_
              rintro _ _ ⟨rfl, rfl⟩
              rw [hS]
              go_wp2_with fail
              refine (HD.out _).mono ?_
              rintro _ _ ⟨rfl, rfl⟩
              rw [hD]
              go_wp2
              go_roundw
              case rel => exact ⟨pos + 1, by omega, hit2, hB2, HK.out (by rw [HE.out]; simp [*])⟩
              case measure =>
                have hmu2 : W1.iterPos w.heap.size = pos + 1 := by simp [World.iterPos, hit2]
                rw [hmu, hmu2]
                omega
        · go_wp2_with fail
          refine (HS.out _).mono ?_
          rintro _ _ ⟨rfl, rfl⟩
          rw [hS]
          go_wp2
          go_roundw
          case rel => exact ⟨pos + 1, by omega, hit2, hB2, HK.out (by rw [HE.out]; simp [*])⟩
          case measure =>
            have hmu2 : W1.iterPos w.heap.size = pos + 1 := by simp [World.iterPos, hit2]
            rw [hmu, hmu2]
            omega
      · have hge : 128 ≤ (Utf8.decode (bs s) pos).1 := (decode_high (bs s) pos (by rw [hsz]; exact hlt) (by rw [hget]; omega)).1
        have hle := decode_le (bs s) pos
        have HN : Hid (nameV s = false) := Lib.hid (by
          unfold nameV
          rw [allB_no (i := pos) hlt (okAt_high _ _ (by omega))]
          simp)
        have hwc := i32_wrap _ hle
        generalize (Utf8.decode (bs s) pos).1 = c at *
        clear hget hit hB hall hit2
        have HS := Lib.hid (fun W => small_any c W)
        have HD := Lib.hid (fun W => digit_any c W)
        have hS : smallB c = false := by
          unfold smallB
          rw [show decide (c ≤ 122) = false from decide_eq_false (by omega)]
          simp
        have hD : digitB c = false := by
          unfold digitB
          rw [show decide (c ≤ 57) = false from decide_eq_false (by omega)]
          simp
        have h45 : ((c : Int) == 45) = false := beq_eq_false_iff_ne.2 (by omega)
        have h95 : ((c : Int) == 95) = false := beq_eq_false_iff_ne.2 (by omega)
        have n45 : ((c : Int) != 45) = true := by rw [bne, h45]; rfl
        have n95 : ((c : Int) != 95) = true := by rw [bne, h95]; rfl
        by_cases h0 : ((pos : Int) == 0) = true
        · go_wp2_with fail
          refine (HS.out _).mono ?_
          rintro _ _ ⟨rfl, rfl⟩
          rw [hS]
          go_wp2
          go_ret
          exact ⟨ret_bool HN.out.symm, hB2⟩
        · replace h0 : ((pos : Int) == 0) = false := by simpa using h0
          go_wp2_with fail
          refine (HS.out _).mono ?_
          rintro _ _ ⟨rfl, rfl⟩
          rw [hS]
          go_wp2_with fail
          refine (HD.out _).mono ?_
          rintro _ _ ⟨rfl, rfl⟩
          rw [hD]
          go_wp2
          go_ret
          exact ⟨ret_bool HN.out.symm, hB2⟩
    · obtain rfl : pos = s.length := by omega
      have hnx : ∀ ty, (Instr.next (.pointer (some ⟨w.heap.size, 0, none⟩)) true ty).run Try.prog wr = _ := fun ty => Lib.run_next_end_at wr w.heap.size (bs s) s.length ty hit (by rw [hsz]; omega)
      have hnv : nameV s = (decide ((1 : Int) ≤ s.length) && decide ((s.length : Int) ≤ 24)) := by
        unfold nameV
        rw [(allB_iff s).2 hall, Bool.and_true, ← dec_cast 1 s.length, ← dec_cast s.length 24]
        rfl
      have HN := Lib.hid hnv
      clear hall hit hnv hmu
      go_wp2
      all_goals
        go_ret
        refine ⟨ret_bool ?_, hB⟩
        rw [HN.out]
        simp_all <;> omega
end Go.Proofs.Ytbcologcendhlaa
