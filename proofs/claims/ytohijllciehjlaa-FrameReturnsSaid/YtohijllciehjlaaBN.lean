/- FrameReturns: the walk. -/
import Derived.Test.YtohijllciehjlaaBM
namespace Go.Proofs.Ytohijllciehjlaa
open Go.ChangeShapes Go.WideShapes Go.ChangeAt Go.RowKit

theorem bs_eta (t : ByteArray) : bs t.data.toList = t := (bs_list t).symm
theorem unpack_bs (s : List UInt8) (W : World) (h : s.length ≤ 1000000) : Calls Try.prog 13 #[.string (bs s)] W (Unpacked s W) := by
  have h1 := unpack_any (bs s) W (by rw [bs_size]; exact h)
  rwa [show (bs s).data.toList = s by simp [bs]] at h1
theorem packL_len (l : List (List UInt8)) (h : Packs l) : (packL l).length ≤ 1000000 := by
  have : ∀ m : List (List UInt8), (∀ f ∈ m, f.length ≤ 4000) → (encs m).length ≤ m.length * 4002 := by
    intro m hm
    induction m with
    | nil => simp [encs]
    | cons x m ih =>
      have e : encs (x :: m) = enc x ++ encs m := by simp [encs]
      have h1 := ih (fun f hf => hm f (List.mem_cons_of_mem _ hf))
      have h2 := hm x List.mem_cons_self
      rw [e, List.length_append, enc_len, List.length_cons]
      omega
  have h1 := this l h.2
  have h2 := h.1
  unfold packL
  rw [List.length_cons]
  omega
set_option maxRecDepth 100000 in
set_option maxHeartbeats 2000000 in
theorem frameReturns_walk (A : Option Addr) (n cap : Nat) (l : List (List UInt8)) (t : ByteArray) (cut : Int) (W : World) (harg : Arg W A n cap l) {p1 p2 : Prop} (_ : p1) (_ : p2) : Calls Try.prog 4 #[.slice A n cap, .string t, .int .i64 cut] W fun e w' => e = .returned (.bool true) ∧ Below W.heap.size W w' := by
  obtain ⟨hln, hs, hm, hmax⟩ := harg
  have HT := Lib.hid (total_any _ l W hs (by omega) hm)
  have hln2 := hln
  clear hm hln
  go_enter Try.func4, Try.ntmps4
  go_wp2_with fail
  refine HT.out.mono ?_
  rintro _ w1 ⟨v, rfl, hv, hB⟩
  clear HT
  replace hs := hs.up hB
  by_cases hv1 : 20000 < v
  · clear hv hln2
    go_wp2_with fail
    refine (awake_any _).mono ?_
    rintro _ w2 ⟨rfl, hb⟩
    replace hB := below_step hB hb
    go_wp2
    go_ret
    exact ⟨rfl, hB⟩
  have hv2 := hv (by omega)
  have hv3 : v ≤ 20000 := by omega
  clear hv hv1
  by_cases ht : 20000 < (t.size : Int)
  · clear hv2 hln2
    go_wp2_with fail
    refine (awake_any _).mono ?_
    rintro _ w2 ⟨rfl, hb⟩
    replace hB := below_step hB hb
    go_wp2
    go_ret
    exact ⟨rfl, hB⟩
  have ht2 : (t.size : Int) ≤ 20000 := by omega
  have HL := Lib.hid (show l.length ≤ 1000000 ∧ t.size ≤ 1000000 by omega)
  clear ht hv2 hln2
  go_wp2_with fail
  refine (unpack_any t _ HL.out.2).mono ?_
  rintro _ w2 ⟨v1, rfl, s1, hb⟩
  replace hs := hs.up hb
  replace hB := below_step hB hb
  clear hb
  -- the first half: only packed forms are accepted
  have first : ∀ e1, (unpackV t.data.toList).2 = e1 → e1 = 0 → Hid (∀ W', Strs W' v1 (unpackV t.data.toList).1 → Calls Try.prog 11 #[v1] W' fun e w' => e = .returned (.tuple #[.string t, .int .i64 0]) ∧ Below W'.heap.size W' w') := fun e1 h1 h2 => Lib.hid fun W' hst => by
    obtain ⟨q1, q2⟩ := pack_unpack t.data.toList (h1.trans h2)
    refine (pack_any v1 _ W' hst).mono fun e w' h => ?_
    unfold Packed packV at h
    rw [if_pos q1] at h
    dsimp only at h
    rw [q2, bs_eta] at h
    exact h
  generalize hu2 : (unpackV t.data.toList).2 = ue at *
  have FH := first ue rfl
  have HS1 := Lib.hid s1
  clear first hu2 s1
  by_cases hP : Packs l
  · have HP := Lib.hid (show ∀ W', Strs W' (.slice A n cap) l → Calls Try.prog 11 #[.slice A n cap] W' fun e w' => e = .returned (.tuple #[.string (bs (packL l)), .int .i64 0]) ∧ Below W'.heap.size W' w' from fun W' hst => by
      refine (pack_any _ l W' hst).mono fun e w' h => ?_
      unfold Packed packV at h
      rw [if_pos hP] at h
      exact h)
    have HU := Lib.hid (show ∀ W', Calls Try.prog 13 #[.string (bs (packL l))] W' fun e w' => ∃ v, e = .returned (.tuple #[v, .int .i64 0]) ∧ Strs w' v l ∧ Below W'.heap.size W' w' from fun W' => by
      refine (unpack_bs (packL l) W' (packL_len l hP)).mono fun e w' h => ?_
      unfold Unpacked at h
      rw [unpack_pack l hP] at h
      exact h)
    have HC := Lib.hid (show ∀ W' k, (k : Nat) < (packL l).length → Calls Try.prog 13 #[.string ((bs (packL l)).extract 0 k)] W' fun e w' => ∃ v, e = .returned (.tuple #[v, .int .i64 14]) ∧ Below W'.heap.size W' w' from fun W' k hk => by
      have hx : (bs (packL l)).extract 0 k = bs ((packL l).take k) := by
        rw [bs_list ((bs (packL l)).extract 0 k), ext_list, show (bs (packL l)).data.toList = packL l by simp [bs]]
        rfl
      rw [hx]
      have hlen := packL_len l hP
      refine (unpack_bs _ W' (by rw [List.length_take]; omega)).mono fun e w' h => ?_
      unfold Unpacked at h
      obtain ⟨v, h1, _, h3⟩ := h
      rw [unpack_torn l k hP hk] at h1
      exact ⟨v, h1, h3⟩)
    have hbz := bs_size (packL l)
    have HZ := Lib.hid hbz
    have hlen : ((bs (packL l)).size : Int) ≤ 1000000 := by have := packL_len l hP; omega
    clear hbz hP
    generalize hy : bs (packL l) = y at *
    clear hy
    by_cases h0 : ue = 0
    all_goals
      first
      | (subst h0
         have FG := FH rfl
         clear FH
         go_wp2_with fail
         refine (FG.out _ HS1.out).mono ?_
         rintro _ w3 ⟨rfl, hb⟩
         replace hs := hs.up hb
         replace hB := below_step hB hb
         clear hb)
      | (have h0b : (ue == 0) = false := beq_eq_false_iff_ne.2 h0
         clear h0)
      go_wp2_with fail
      refine (HP.out _ hs).mono ?_
      rintro _ w4 ⟨rfl, hb⟩
      replace hs := hs.up hb
      replace hB := below_step hB hb
      clear hb
      go_wp2_with fail
      refine (HU.out _).mono ?_
      rintro _ w5 ⟨v2, rfl, s2, hb⟩
      replace hs := hs.up hb
      replace hB := below_step hB hb
      clear hb
      go_wp2_with fail
      refine (same_yes v2 _ l _ s2 hs HL.out.1).mono ?_
      rintro _ w6 ⟨rfl, hb⟩
      replace hB := below_step hB hb
      clear hb s2 hs
      by_cases hc : cut < 0
      · go_wp2_with fail
        refine (awake_any _).mono ?_
        rintro _ w7 ⟨rfl, hb⟩
        replace hB := below_step hB hb
        go_wp2
        go_ret
        exact ⟨rfl, hB⟩
      by_cases hc2 : (y.size : Int) ≤ cut
      · have hc0 : 0 ≤ cut := by omega
        clear hc
        go_wp2_with fail
        refine (awake_any _).mono ?_
        rintro _ w7 ⟨rfl, hb⟩
        replace hB := below_step hB hb
        go_wp2
        go_ret
        exact ⟨rfl, hB⟩
      have hc0 : 0 ≤ cut := by omega
      obtain ⟨k, rfl⟩ : ∃ k : Nat, cut = k := ⟨cut.toNat, by omega⟩
      have hk : (k : Int) < y.size := by omega
      have HK := Lib.hid (show k < (packL l).length by rw [← HZ.out]; omega)
      clear hc hc2
      go_wp2_with fail
      refine (HC.out _ k HK.out).mono ?_
      rintro _ w7 ⟨v3, rfl, hb⟩
      replace hB := below_step hB hb
      clear hb
      go_wp2_with fail
      refine (awake_any _).mono ?_
      rintro _ w8 ⟨rfl, hb⟩
      replace hB := below_step hB hb
      go_wp2
      go_ret
      exact ⟨rfl, hB⟩
  · have HP := Lib.hid (show ∀ W', Strs W' (.slice A n cap) l → Calls Try.prog 11 #[.slice A n cap] W' fun e w' => e = .returned (.tuple #[.string (bs []), .int .i64 3]) ∧ Below W'.heap.size W' w' from fun W' hst => by
      refine (pack_any _ l W' hst).mono fun e w' h => ?_
      unfold Packed packV at h
      rw [if_neg hP] at h
      exact h)
    clear hP
    by_cases h0 : ue = 0
    all_goals
      first
      | (subst h0
         have FG := FH rfl
         clear FH
         go_wp2_with fail
         refine (FG.out _ HS1.out).mono ?_
         rintro _ w3 ⟨rfl, hb⟩
         replace hs := hs.up hb
         replace hB := below_step hB hb
         clear hb)
      | (have h0b : (ue == 0) = false := beq_eq_false_iff_ne.2 h0
         clear h0)
      go_wp2_with fail
      refine (HP.out _ hs).mono ?_
      rintro _ w4 ⟨rfl, hb⟩
      replace hB := below_step hB hb
      clear hb hs
      go_wp2_with fail
      refine (awake_any _).mono ?_
      rintro _ w8 ⟨rfl, hb⟩
      replace hB := below_step hB hb
      go_wp2
      go_ret
      exact ⟨rfl, hB⟩
end Go.Proofs.Ytohijllciehjlaa
