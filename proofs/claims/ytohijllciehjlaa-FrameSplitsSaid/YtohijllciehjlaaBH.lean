/- Unpack of the reference: the walk. -/
import Derived.Test.YtohijllciehjlaaBG
namespace Go.Proofs.Ytohijllciehjlaa
open Go.ChangeShapes Go.WideShapes Go.ChangeAt Go.RowKit
attribute [local go_sem] ownAt ownUpon mixAt mixUpon

def RUnpRel (s : List UInt8) (n : Nat) (w : World) (u4 u5 u16 : Value) (wr : World) : Prop := ∃ (k p : Nat) (l : List (List UInt8)) (v : Value), v = u4 ∧ .int .i64 p = u5 ∧ .int .i64 k = u16 ∧ k ≤ n ∧ p ≤ s.length ∧ l.length = k ∧ OwnS wr w.heap.size v l ∧ Below w.heap.size w wr ∧ unpackV s = rest2 (n - k) l (s.drop p)
theorem drop_getD (s : List UInt8) (p i : Nat) : (s.drop p).getD i 0 = s.getD (p + i) 0 := by
  rw [List.getD_eq_getElem?_getD, List.getD_eq_getElem?_getD, List.getElem?_drop]
set_option maxRecDepth 100000 in
set_option maxHeartbeats 1000000 in
theorem runpack_any (t : ByteArray) (w : World) (ht : t.size ≤ 1000000) : Calls Try.prog 14 #[.string t] w (Unpacked t.data.toList w) := by
  have hl : t.data.toList.length = t.size := Array.length_toList
  generalize hs' : t.data.toList = s at *
  have HS := Lib.hid hs'
  clear hs'
  by_cases h0 : t.size < 1
  · have HH := Lib.hid (show unpackV s = ([], 14) by rw [List.eq_nil_of_length_eq_zero (show s.length = 0 by omega)]; rfl)
    have h0i : (t.size : Int) < 1 := by omega
    clear h0 hl ht
    go_enter Try.func14, Try.ntmps14
    go_wp2
    go_ret2
    exact unpacked_no HH.out rfl (Below.refl _ _)
  have h0' : 0 < t.size := by omega
  have h1i : (1 : Int) ≤ t.size := by omega
  have hb0 := at_getD t 0 h0'
  rw [HS.out] at hb0
  have a0 := UInt8.toNat_lt (t[0]'h0')
  by_cases h64 : 64 < (s.getD 0 0).toNat
  · have HH := Lib.hid (show unpackV s = ([], 13) by unfold unpackV; rw [if_neg (by omega), if_pos h64])
    rw [← hb0] at h64
    have h64' : (64 : Int) < (t[0]'h0').toNat := by omega
    clear h0 hl ht hb0 h64
    go_enter Try.func14, Try.ntmps14
    go_wp2
    go_ret2
    exact unpacked_no HH.out rfl (Below.refl _ _)
  have HST := Lib.hid (unp_start (s := s) (by omega) (by omega))
  rw [← hb0] at h64 HST
  have hn64 : ((t[0]'h0').toNat : Int) ≤ 64 := by omega
  have h64' : ¬ (64 : Int) < (t[0]'h0').toNat := by omega
  clear hb0 a0 h64
  go_enter Try.func14, Try.ntmps14
  go_wp2
  generalize (t[0]'h0').toNat = n at *
  go_loopw [4, 5, 16] (RUnpRel s n w) (fun _ _ i _ => n - (intOf i).toNat)
  case atStart => exact ⟨0, 1, [], _, rfl, rfl, rfl, Nat.zero_le _, by omega, rfl, OwnS.nil _ _, Below.refl _ _, HST.out⟩
  case round =>
    clear HST h64'
    obtain ⟨k, p, l, v, rfl, rfl, rfl, hk, hp, hlk, ho, hB, hu⟩ := hrel
    by_cases hlt : k < n
    · have hki : (k : Int) < n := by omega
      obtain ⟨m, hm⟩ : ∃ m, n - k = m + 1 := ⟨n - (k + 1), by omega⟩
      have hm2 : n - (k + 1) = m := by omega
      have hz := hB.size
      rw [hm] at hu
      have hdl : (s.drop p).length = t.size - p := by rw [List.length_drop, hl]
      have hsi : (t.size : Int) ≤ 1000000 := by omega
      have hpi : (p : Int) ≤ t.size := by omega
      have hp0 : (0 : Int) ≤ p := by omega
      by_cases h2 : (s.drop p).length < 2
      · have HH := Lib.hid (hu.trans (rest2_short h2))
        have h2i : (t.size : Int) - p < 2 := by omega
        clear hu hm hm2 ho
        go_wp2
        go_ret2
        exact unpacked_no HH.out rfl hB
      have h2i : (2 : Int) ≤ (t.size : Int) - p := by omega
      have h2n : ¬ (t.size : Int) - p < 2 := by omega
      have z0 : p < t.size := by omega
      have z1 : p + 1 < t.size := by omega
      have z0i : (p : Int) < t.size := by omega
      have z1i : (p : Int) + 1 < t.size := by omega
      have z1p : (0 : Int) ≤ (p : Int) + 1 := by omega
      have zw : IntKind.i64.wrap ((p : Int) + 1) = p + 1 := IntWalk.i64_in _ (by omega)
      have zn : ((p : Int) + 1).toNat = p + 1 := by omega
      have g0 := at_getD t p z0
      have g1 := at_getD t (p + 1) z1
      have l0 := UInt8.toNat_lt (t[p]'z0)
      have l1 := UInt8.toNat_lt (t[p + 1]'z1)
      have hor : ((t[p]'z0).toNat : Int) * 256 + ((t[p + 1]'z1).toNat : Int) = ((sz2 (s.drop p) : Nat) : Int) := by
        unfold sz2
        have e0 := drop_getD s p 0
        have e1 := drop_getD s p 1
        rw [Nat.add_zero] at e0
        rw [e0, e1, g0, g1, HS.out]
        omega
      have HOR := Lib.hid hor
      clear hor g0 g1
      go_upto_region 11 with fail
      go_quiet (fail)
      rw [HOR.out]
      replace hB : Below w.heap.size w (wr.drewN nq) := below_step hB (drewN_below _ _)
      replace ho : OwnS (wr.drewN nq) w.heap.size v l := ho.up (drewN_below _ _)
      replace hz : w.heap.size ≤ (wr.drewN nq).heap.size := hB.size
      generalize wr.drewN nq = w2 at *
      clear HOR l0 l1 h2n zw
      by_cases h4 : 4000 < sz2 (s.drop p)
      · have HH := Lib.hid (hu.trans (rest2_big h2 h4))
        clear hu hm hm2 hdl ho
        generalize sz2 (s.drop p) = z at *
        have h4i : (4000 : Int) < z := by omega
        go_wp2
        go_ret2
        exact unpacked_no HH.out rfl hB
      by_cases h5 : (s.drop p).length < sz2 (s.drop p) + 2
      · have HH := Lib.hid (hu.trans (rest2_cut h2 h4 h5))
        clear hu hm hm2 ho
        generalize sz2 (s.drop p) = z at *
        have h4i : (z : Int) ≤ 4000 := by omega
        have h5i : (t.size : Int) - p - 2 < z := by omega
        clear hdl
        go_wp2
        go_ret2
        exact unpacked_no HH.out rfl hB
      rw [rest2_next h2 h4 h5, List.drop_drop, List.drop_drop] at hu
      generalize sz2 (s.drop p) = z at *
      have h4i : (z : Int) ≤ 4000 := by omega
      have h50 : (0 : Int) ≤ z := by omega
      have h5i : (p : Int) + 2 + z ≤ t.size := by omega
      have h5n : ¬ (t.size : Int) - p - 2 < z := by omega
      have hx : t.extract (p + 2) (p + 2 + z) = bs ((s.drop (p + 2)).take z) := by
        rw [bs_list (t.extract (p + 2) (p + 2 + z)), ext_list, HS.out, Nat.add_sub_cancel_left]
      have HX := Lib.hid hx
      have HU := Lib.hid hu
      have HL := Lib.hid hlk
      clear hu hlk hx hdl h2i
      have O := (Box.new w2 9 #[.string (bs ((s.drop (p + 2)).take z))]).cell 0 _ rfl
      have HO := Lib.hid O
      clear O
      have hx := HX.out
      have hl2 : l.length < 1000000 := by rw [HL.out]; omega
      go_wp2_with (at_builtin; go_loud (refine wpList_push rfl (.tmp 43) (.tmp 52) rfl w.heap.size v l _ w2.heap.size 1 rfl rfl (ho.up (below_box (Below.refl _ _) _)) HO.out (below_box hB _) (by simp; omega) hl2 ?_); intro v' w3 ho3 hB3; clear hl2 hx)
      go_roundw
      case rel => exact ⟨k + 1, p + 2 + z, _, _, rfl, by go_num, by go_num, by omega, by omega, by rw [List.length_append, HL.out]; rfl, ho3, hB3, by rw [hm2, Nat.add_assoc, Nat.add_comm 2 z]; exact HU.out⟩
      case measure => simp [intOf]; omega
    · obtain rfl : k = n := by omega
      rw [Nat.sub_self] at hu
      have hdl : (s.drop p).length = t.size - p := by rw [List.length_drop, hl]
      by_cases hr0 : (s.drop p).length = 0
      · have HH := Lib.hid (hu.trans (rest2_zero hr0))
        have hpi : ¬ (p : Int) < t.size := by omega
        have HS2 := Lib.hid ho.strs
        clear ho hu hr0 hlk hdl
        go_wp2
        go_ret2
        exact unpacked_of HH.out ⟨_, rfl, HS2.out, hB⟩
      · have HH := Lib.hid (hu.trans (rest2_more hr0))
        have hpi : (p : Int) < t.size := by omega
        clear ho hu hr0 hlk hdl
        go_wp2
        go_ret2
        exact unpacked_no HH.out rfl hB
end Go.Proofs.Ytohijllciehjlaa
