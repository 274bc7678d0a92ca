/- Check of the reference; SlotsCheck: the walks. -/
import Derived.Test.YtbcologcendhlaaSO
namespace Go.Proofs.Ytbcologcendhlaa
open Go.ChangeShapes Go.WideShapes Go.ChangeAt Go.RowKit

def RChkRel (total least : Int) (R : KL) (w : World) (u i : Value) (wr : World) : Prop := ∃ (k : Nat) (sum : Int), u = .int .i64 sum ∧ i = .int .i64 k ∧ k ≤ R.length ∧ 0 ≤ sum ∧ sum ≤ total + total * k ∧ Below w.heap.size w wr ∧ checkV total least R = chk total sum (keys (R.take k)) (R.drop k)
def RInRel (R : KL) (x : Key) (k : Nat) (w : World) (i : Value) (wr : World) : Prop := ∃ j : Nat, i = .int .i64 j ∧ j ≤ k ∧ x ∉ keys (R.take j) ∧ Below w.heap.size w wr
theorem keys_take (R : KL) (k : Nat) (hk : k < R.length) : keys (R.take (k + 1)) = keys (R.take k) ++ [(R.getD k ([], 0)).1] := by
  unfold keys
  rw [List.take_succ_eq_append_getElem hk, List.map_append, List.getD_eq_getElem?_getD, List.getElem?_eq_getElem hk]
  rfl
theorem drop_getD (R : KL) (k : Nat) (hk : k < R.length) : R.drop k = R.getD k ([], 0) :: R.drop (k + 1) := by
  rw [List.drop_eq_getElem_cons hk, List.getD_eq_getElem?_getD, List.getElem?_eq_getElem hk]
  rfl
theorem keys_less (R : KL) {j k : Nat} (h : j ≤ k) {x : Key} (hx : x ∈ keys (R.take j)) : x ∈ keys (R.take k) := by
  unfold keys at *
  obtain ⟨q, hq, he⟩ := List.mem_map.1 hx
  exact List.mem_map.2 ⟨q, (List.take_sublist_take_left h).subset hq, he⟩
set_option maxHeartbeats 2000000 in
theorem rcheck_any (total least : Int) (A : Option Addr) (ca : Nat) (R : KL) (w : World) (hR : Seg w A (R.length * 2) (rCell R)) : Calls Try.prog 27 #[.int .i64 total, .int .i64 least, .slice A R.length ca] w fun e w' => e = .returned (.int .i64 (checkV total least R)) ∧ Below w.heap.size w w' := by
  by_cases h0 : total < 0 ∨ 1000000000 < total ∨ least < 0 ∨ total < least
  · have hv : checkV total least R = 2 := if_pos h0
    rw [hv]
    go_enter Try.func27, Try.ntmps27
    by_cases h1 : total < 0
    · go_wp2
      go_ret
      exact ⟨rfl, Below.refl _ _⟩
    by_cases h2 : 1000000000 < total
    · go_wp2
      go_ret
      exact ⟨rfl, Below.refl _ _⟩
    by_cases h3 : least < 0
    · go_wp2
      go_ret
      exact ⟨rfl, Below.refl _ _⟩
    have h4 : total < least := by omega
    clear h0
    go_wp2
    go_ret
    exact ⟨rfl, Below.refl _ _⟩
  have h1 : ¬ total < 0 := by omega
  have h2 : ¬ 1000000000 < total := by omega
  have h3 : ¬ least < 0 := by omega
  have h4 : ¬ total < least := by omega
  by_cases h32 : (32 : Int) < R.length
  · have hv : checkV total least R = 3 := by unfold checkV; rw [if_neg h0, if_pos (by omega)]
    rw [hv]
    clear h0
    go_enter Try.func27, Try.ntmps27
    go_wp2
    go_ret
    exact ⟨rfl, Below.refl _ _⟩
  have hv : checkV total least R = chk total least [] R := by unfold checkV; rw [if_neg h0, if_neg (by omega)]
  have HV := Lib.hid hv
  have HR := Lib.hid hR
  clear h0 hv hR
  go_enter Try.func27, Try.ntmps27
  go_wp2
  go_loopw [7, 31] (RChkRel total least R w) (fun _ i _ => R.length - (intOf i).toNat)
  case atStart => exact ⟨0, least, rfl, rfl, by omega, by omega, by omega, Below.refl _ _, HV.out⟩
  case round =>
  obtain ⟨k, sum, rfl, rfl, hk, hs0, hs1, hB, hch⟩ := hrel
  by_cases hlt : k < R.length
  · obtain ⟨b1, o1, rfl, hb1, q0, q1⟩ := rseg HR.out k hlt
    have d0 := (hB.cell (p := ⟨b1, o1 + k * 2, none⟩) hb1).trans q0
    have hb2 : b1 < wr.heap.size := Nat.lt_of_lt_of_le hb1 hB.size
    have hdr := drop_getD R k hlt
    have htk := keys_take R k hlt
    generalize R.getD k ([], 0) = e at *
    obtain ⟨x, c⟩ := e
    simp only at q0 q1 d0 htk
    rw [hdr] at hch
    have HK := Lib.hid htk
    have HQ := Lib.hid (And.intro q0 (And.intro q1 hb1))
    clear hdr htk q0 q1
    have HN := Lib.hid (fun W => rname_any x W)
    cases hn : nameV x
    · have h4 : checkV total least R = 4 := by rw [hch, chk, if_pos hn]
      rw [hn] at HN
      have H4 := Lib.hid h4
      clear hch h4 hn
      go_wp2_with fail
      refine (HN.out _).mono ?_
      rintro _ _ ⟨rfl, rfl⟩
      go_wp2
      go_ret
      rw [H4.out]
      exact ⟨rfl, hB⟩
    rw [hn] at HN
    have HC := Lib.hid hch
    have HNM := Lib.hid hn
    clear hch hn
    go_wp2_with fail
    refine (HN.out _).mono ?_
    rintro _ _ ⟨rfl, rfl⟩
    clear d0
    go_wp2
    go_loopw [42] (RInRel R x k w) (fun j _ => k - (intOf j).toNat)
    case atStart => exact ⟨0, rfl, by omega, by simp [keys], hB⟩
    case round =>
    clear hB hb2
    obtain ⟨j, rfl, hj, hnin, hB⟩ := hrel
    have hb2 : b1 < wr.heap.size := Nat.lt_of_lt_of_le hb1 hB.size
    by_cases hjk : j < k
    · obtain ⟨b3, o3, he, hb3, p0, _⟩ := rseg HR.out j (by omega)
      injection he with he
      injection he with e1 e2
      subst e1 e2
      have htj := keys_take R j (by omega)
      generalize (R.getD j ([], 0)).1 = y at *
      have c1 := (hB.cell (p := ⟨b1, o1 + k * 2, none⟩) hb3).trans HQ.out.1
      have c2 := (hB.cell (p := ⟨b1, o1 + j * 2, none⟩) hb3).trans p0
      have hdn := fun n => below_step hB (drewN_below wr n)
      by_cases hxy : y = x
      · subst hxy
        have h6 : checkV total least R = 6 := by
          rw [HC.out, chk, if_neg (by rw [HNM.out]; decide), if_pos (keys_less R (show j + 1 ≤ k by omega) (by rw [htj]; simp))]
        have H6 := Lib.hid h6
        clear h6 htj hnin p0
        go_upto_region 14 with fail
        go_quiet (fail)
        go_wp2
        go_ret
        rw [H6.out]
        exact ⟨rfl, hdn _⟩
      · have hne : ((bs y).toList == (bs x).toList) = false := by rw [bs_same]; exact decide_eq_false hxy
        have HX := Lib.hid (show x ∉ keys (R.take (j + 1)) by
          rw [htj]
          intro h
          rcases List.mem_append.1 h with h | h
          · exact hnin h
          · exact hxy (List.mem_singleton.1 h).symm)
        clear htj hnin hxy p0
        go_upto_region 14 with fail
        go_quiet (fail)
        go_wp2
        go_roundw
        case rel => exact ⟨j + 1, by go_num, by omega, HX.out, hdn _⟩
        case measure => simp [intOf]; omega
    · obtain rfl : j = k := by omega
      have c1 := (hB.cell (p := ⟨b1, o1 + j * 2 + 1, none⟩) hb1).trans HQ.out.2.1
      by_cases hc : c < 0 ∨ total < c
      · have h2' : checkV total least R = 2 := by rw [HC.out, chk, if_neg (by rw [HNM.out]; decide), if_neg hnin, if_pos hc]
        have H2 := Lib.hid h2'
        clear h2' hnin
        by_cases hc0 : c < 0
        · go_wp2
          go_ret
          rw [H2.out]
          exact ⟨rfl, hB⟩
        · have hc1 : total < c := by omega
          clear hc
          go_wp2
          go_ret
          rw [H2.out]
          exact ⟨rfl, hB⟩
      · have hc0 : ¬ c < 0 := by omega
        have hc1 : ¬ total < c := by omega
        have hch' : checkV total least R = chk total (sum + c) (keys (R.take (j + 1))) (R.drop (j + 1)) := by rw [HC.out, chk, if_neg (by rw [HNM.out]; decide), if_neg hnin, if_neg hc, HK.out]
        have HC2 := Lib.hid hch'
        have hprod : total * (j : Int) ≤ 1000000000 * 32 := by
          have h5 : total * (j : Int) ≤ 1000000000 * (j : Int) := Int.mul_le_mul_of_nonneg_right (by omega) (by omega)
          omega
        have hsum : IntKind.i64.wrap (sum + c) = sum + c := by rw [IntKind.wrap_i64]; omega
        have hk1 : total + total * (j + 1 : Nat) = (total + total * j) + total := by push_cast; rw [Int.mul_add]; omega
        have HQ2 : Hid (0 ≤ sum + c ∧ sum + c ≤ total + total * (j + 1 : Nat)) := Lib.hid ⟨by omega, by rw [hk1]; omega⟩
        clear hch' hnin hc hprod hk1 hs0 hs1
        go_wp2
        go_roundw
        case rel => exact ⟨j + 1, sum + c, rfl, by go_num, by omega, HQ2.out.1, HQ2.out.2, hB, HC2.out⟩
        case measure => simp [intOf]; omega
  · obtain rfl : k = R.length := by omega
    rw [List.drop_length, chk] at hch
    have HC := Lib.hid hch
    clear hch
    by_cases hov : total < sum
    · have h3' : checkV total least R = 3 := by rw [HC.out, if_pos hov]
      have H3 := Lib.hid h3'
      clear h3'
      go_wp2
      go_ret
      rw [H3.out]
      exact ⟨rfl, hB⟩
    · have h3' : checkV total least R = 0 := by rw [HC.out, if_neg hov]
      have H3 := Lib.hid h3'
      clear h3'
      go_wp2
      go_ret
      rw [H3.out]
      exact ⟨rfl, hB⟩
end Go.Proofs.Ytbcologcendhlaa
