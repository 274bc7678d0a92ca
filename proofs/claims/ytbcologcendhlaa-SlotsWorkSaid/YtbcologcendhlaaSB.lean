/- Names: the walk of the reference. -/
import Derived.Test.YtbcologcendhlaaSA
namespace Go.Proofs.Ytbcologcendhlaa
open Go.ChangeShapes Go.WideShapes Go.ChangeAt Go.RowKit

def RNameRel (s : Key) (i : Value) (w wr : World) : Prop := ∃ k : Nat, i = .int .i64 k ∧ 1 ≤ k ∧ k ≤ s.length ∧ w = wr ∧ ∀ j, j < k → okAt j (s.getD j 0).toNat = true
theorem nameV_no {s : Key} {i : Nat} (hi : i < s.length) (h : okAt i (s.getD i 0).toNat = false) : nameV s = false := by
  unfold nameV
  rw [allB_no hi h]
  simp
set_option maxHeartbeats 2000000 in
theorem rname_any (s : Key) (w : World) : Calls Try.prog 23 #[.string (bs s)] w fun e w' => e = .returned (.bool (nameV s)) ∧ w = w' := by
  have hsz := bs_size s
  by_cases h1 : (s.length : Int) < 1
  · have hn : nameV s = false := by
      unfold nameV
      rw [show decide (1 ≤ s.length) = false from decide_eq_false (by omega)]
      simp
    rw [hn]
    go_enter Try.func23, Try.ntmps23
    go_wp2
    go_ret
    exact ⟨rfl, rfl⟩
  by_cases h2 : (24 : Int) < s.length
  · have hn : nameV s = false := by
      unfold nameV
      rw [show decide (s.length ≤ 24) = false from decide_eq_false (by omega)]
      simp
    rw [hn]
    go_enter Try.func23, Try.ntmps23
    go_wp2
    go_ret
    exact ⟨rfl, rfl⟩
  have hget0 := bs_get s 0 (by rw [hsz]; omega)
  have HS := Lib.hid (fun c W => rsmall_any c W)
  have HD := Lib.hid (fun c W => rdigit_any c W)
  generalize hx0 : s.getD 0 0 = x0 at *
  have hok0 := okAt_eq 0 x0.toNat
  have h00 : (0 : Int) < s.length := by omega
  have HX : Hid (∀ b, okAt 0 x0.toNat = b → okAt 0 (s.getD 0 0).toNat = b) := Lib.hid (fun b h => by rw [hx0]; exact h)
  clear hx0
  generalize hgc0 : x0.toNat = c0 at *
  cases hS0 : smallB c0
  · have hn : nameV s = false := nameV_no (i := 0) (by omega) (HX.out _ (by rw [hok0, hS0]; rfl))
    rw [hn]
    clear hn hok0
    go_enter Try.func23, Try.ntmps23
    go_wp2_with fail
    refine (HS.out _ _).mono ?_
    rintro _ _ ⟨rfl, rfl⟩
    rw [hS0]
    go_wp2
    go_ret
    exact ⟨rfl, rfl⟩
  have hok : okAt 0 (s.getD 0 0).toNat = true := HX.out _ (by rw [hok0, hS0]; rfl)
  have HOK := Lib.hid hok
  clear hok hok0
  go_enter Try.func23, Try.ntmps23
  go_wp2_with fail
  refine (HS.out _ _).mono ?_
  rintro _ _ ⟨rfl, rfl⟩
  rw [hS0]
  clear hS0 hget0 hgc0
  go_wp2
  go_loopw [3] (fun i wr => RNameRel s i w wr) (fun i _ => s.length - (intOf i).toNat)
  case atStart => exact ⟨1, rfl, by omega, by omega, rfl, fun j hj => by
    obtain rfl : j = 0 := by omega
    exact HOK.out⟩
  case round =>
    obtain ⟨pos, rfl, hp1, hp, rfl, hall⟩ := hrel
    by_cases hlt : (pos : Int) < s.length
    · have hget := bs_get s pos (by rw [hsz]; omega)
      have HK := Lib.hid (fun (h : okAt pos (s.getD pos 0).toNat = true) (i : Nat) (hi : i < pos + 1) => (show okAt i (s.getD i 0).toNat = true by
        rcases (show i < pos ∨ i = pos by omega) with h1 | rfl
        · exact hall i h1
        · exact h))
      have HN := Lib.hid (fun h => nameV_no (s := s) (i := pos) (by omega) h)
      have HE := Lib.hid (okAt_eq pos (s.getD pos 0).toNat)
      have hpne : ((pos : Int) == 0) = false := beq_eq_false_iff_ne.2 (by omega)
      have hp0 : (0 : Int) ≤ pos := by omega
      clear hall HOK
      have HP := Lib.hid (And.intro hp1 hp)
      clear hp1 hp
      generalize hgx : s.getD pos 0 = x at *
      generalize hgc : x.toNat = c at *
      clear hgx
      cases hS : smallB c
      · cases hD : digitB c
        · by_cases h45 : ((c : Int) == 45) = true
          · have n45 : ((c : Int) != 45) = false := by rw [bne, h45]; rfl
            go_wp2_with fail
            refine (HS.out _ _).mono ?_
            rintro _ _ ⟨rfl, rfl⟩
            rw [hS]
            go_wp2_with fail
            refine (HD.out _ _).mono ?_
            rintro _ _ ⟨rfl, rfl⟩
            rw [hD]
            go_wp2
            go_roundw
            case rel => exact ⟨pos + 1, by go_num, by omega, by omega, rfl, HK.out (by rw [HE.out]; simp [*])⟩
            case measure => simp [intOf]; omega
          · replace h45 : ((c : Int) == 45) = false := by simpa using h45
            have n45 : ((c : Int) != 45) = true := by rw [bne, h45]; rfl
            by_cases h95 : ((c : Int) == 95) = true
            · have n95 : ((c : Int) != 95) = false := by rw [bne, h95]; rfl
              go_wp2_with fail
              refine (HS.out _ _).mono ?_
              rintro _ _ ⟨rfl, rfl⟩
              rw [hS]
              go_wp2_with fail
              refine (HD.out _ _).mono ?_
              rintro _ _ ⟨rfl, rfl⟩
              rw [hD]
              go_wp2
              go_roundw
              case rel => exact ⟨pos + 1, by go_num, by omega, by omega, rfl, HK.out (by rw [HE.out]; simp [*])⟩
              case measure => simp [intOf]; omega
            · replace h95 : ((c : Int) == 95) = false := by simpa using h95
              have n95 : ((c : Int) != 95) = true := by rw [bne, h95]; rfl
              go_wp2_with fail
              refine (HS.out _ _).mono ?_
              rintro _ _ ⟨rfl, rfl⟩
              rw [hS]
              go_wp2_with fail
              refine (HD.out _ _).mono ?_
              rintro _ _ ⟨rfl, rfl⟩
              rw [hD]
              go_wp2
              go_ret
              exact ⟨ret_bool (HN.out (by rw [HE.out]; simp [*])).symm, rfl⟩
        · go_wp2_with fail
          refine (HS.out _ _).mono ?_
          rintro _ _ ⟨rfl, rfl⟩
          rw [hS]
          go_wp2_with fail
          refine (HD.out _ _).mono ?_
          rintro _ _ ⟨rfl, rfl⟩
          rw [hD]
          go_wp2
          go_roundw
          case rel => exact ⟨pos + 1, by go_num, by omega, by omega, rfl, HK.out (by rw [HE.out]; simp [*])⟩
          case measure => simp [intOf]; omega
      · go_wp2_with fail
        refine (HS.out _ _).mono ?_
        rintro _ _ ⟨rfl, rfl⟩
        rw [hS]
        go_wp2
        go_roundw
        case rel => exact ⟨pos + 1, by go_num, by omega, by omega, rfl, HK.out (by rw [HE.out]; simp [*])⟩
        case measure => simp [intOf]; omega
    · obtain rfl : pos = s.length := by omega
      have hnv : nameV s = true := by
        unfold nameV
        rw [(allB_iff s).2 hall, show decide (1 ≤ s.length) = true from decide_eq_true (by omega), show decide (s.length ≤ 24) = true from decide_eq_true (by omega)]
        rfl
      have HN := Lib.hid hnv
      clear hall hnv
      go_wp2
      go_ret
      exact ⟨ret_bool HN.out.symm, rfl⟩
end Go.Proofs.Ytbcologcendhlaa
