/- FrameTorn: the walk. -/
import Derived.Test.YtohijllciehjlaaBM
namespace Go.Proofs.Ytohijllciehjlaa
open Go.ChangeShapes Go.WideShapes Go.ChangeAt Go.RowKit

theorem jsum_cons (l : List (List UInt8)) (x : List UInt8) : jsum (x :: l) = 8 + x.length + jsum l := by
  unfold jsum
  rw [sumLen_cons, List.length_cons]
  omega
theorem wholeF_take (l : List (List UInt8)) (cut k : Nat) (hk : k ≤ l.length) (hj : jsum (l.take k) ≤ cut) (hs : k < l.length → cut < jsum (l.take (k + 1))) : wholeF l cut = (l.take k, jsum (l.take k)) := by
  induction l generalizing cut k with
  | nil =>
    simp only [List.length_nil, Nat.le_zero] at hk
    subst hk
    rfl
  | cons x l ih =>
    rw [wholeF]
    match k, hk, hj, hs with
    | 0, _, _, hs =>
      have h := hs (by simp)
      rw [List.take_succ_cons, List.take_zero, jsum_cons] at h
      rw [if_neg (by unfold jsum at h; simp [sumLen] at h; omega)]
      rfl
    | k + 1, hk, hj, hs =>
      rw [List.take_succ_cons, jsum_cons] at hj
      rw [List.length_cons] at hk hs
      rw [if_pos (by omega), ih (cut - (8 + x.length)) k (by omega) (by omega) (fun h => by
        have := hs (by omega)
        rw [List.take_succ_cons, jsum_cons] at this
        omega)]
      simp only [List.take_succ_cons, jsum_cons]
theorem Strs.take {w : World} {A : Option Addr} {n cap : Nat} {l : List (List UInt8)} (h : Strs w (.slice A n cap) l) (k : Nat) (hk : k ≤ n) : Strs w (.slice A k cap) (l.take k) := by
  obtain ⟨B, d, h1, h2, h3, h4⟩ := h
  injection h1 with e1 e2 e3
  subst e1 e2 e3
  have hl : (l.take k).length = k := by rw [List.length_take]; omega
  exact ⟨_, _, by rw [hl], seg_take h2 k hk, fun h => by rw [hl]; have := h3 h; omega, by rw [hl]; omega⟩
def TornRel (l : List (List UInt8)) (w : World) (u7 u8 u40 : Value) (c : Nat) (wr : World) : Prop := ∃ k : Nat, .int .i64 k = u7 ∧ .int .i64 (jsum (l.take k) : Nat) = u8 ∧ .int .i64 k = u40 ∧ k ≤ l.length ∧ jsum (l.take k) ≤ c ∧ Below w.heap.size w wr
set_option maxRecDepth 100000 in
set_option maxHeartbeats 2000000 in
theorem frameTorn_walk (A : Option Addr) (n cap : Nat) (l : List (List UInt8)) (cut : Int) (W : World) (harg : Arg W A n cap l) {p1 : Prop} (_ : p1) : Calls Try.prog 7 #[.slice A n cap, .int .i64 cut] W fun e w' => e = .returned (.bool true) ∧ Below W.heap.size W w' := by
  obtain ⟨hln, hs, hm, hmax⟩ := harg
  have HT := Lib.hid (total_any _ l W hs (by omega) hm)
  have hln2 := hln
  have HS0 := Lib.hid hs
  clear hm hln
  go_enter Try.func7, Try.ntmps7
  go_wp2_with fail
  refine HT.out.mono ?_
  rintro _ w1 ⟨v, rfl, hv, hB⟩
  clear HT
  replace hs := hs.up hB
  by_cases hv1 : 20000 < v
  · clear hv hln2
    go_wp2_with fail
    refine (awake_any _).mono ?_
    rintro _ w2 ⟨rfl, hb⟩
    replace hB := below_step hB hb
    go_wp2
    go_ret
    exact ⟨rfl, hB⟩
  have hv2 := hv (by omega)
  have hv3 : v ≤ 20000 := by omega
  clear hv hv1
  have HN := Lib.hid hln2
  have HL := Lib.hid (show l.length ≤ 1000000 by omega)
  have hn2 : (n : Int) ≤ 20000 := by omega
  have hjt : jsum l ≤ 262144 := by unfold jsum; omega
  have HJ := Lib.hid hjt
  have hsg := hs
  obtain ⟨A', cap', hA', hseg, _, hcap⟩ := hsg
  have hcapi : (n : Int) ≤ cap := by injection hA' with _ _ e3; subst e3; omega
  have HCAP := Lib.hid hcapi
  clear hv2 hln2 hjt hA' hseg hcap hcapi
  have HP := Lib.hid (show ∀ W', Strs W' (.slice A n cap) l → Calls Try.prog 20 #[.slice A n cap] W' fun e w' => e = .returned (.tuple #[.string (bs (joinL l)), .int .i64 0]) ∧ Below W'.heap.size W' w' from fun W' hst => by
    refine (join_any _ l W' hst HL.out).mono fun e w' h => ?_
    unfold Joined joinV at h
    rw [if_pos HJ.out] at h
    exact h)
  have HBZ := Lib.hid (show (bs (joinL l)).size = jsum l by rw [bs_size, joinL_len])
  have hyz : ((bs (joinL l)).size : Int) ≤ 262144 := by rw [HBZ.out]; have := HJ.out; omega
  have HSA : Hid (∀ c : Nat, c ≤ (bs (joinL l)).size → Hid (∀ W', Calls Try.prog 22 #[.string ((bs (joinL l)).extract 0 c)] W' fun e w' => ∃ v, e = .returned (.tuple #[v, .int .i64 (wholeF l c).2]) ∧ Strs w' v (wholeF l c).1 ∧ Below W'.heap.size W' w')) := Lib.hid fun c hc => Lib.hid fun W' => by
    have hjb := HJ.out
    have hyz2 := HBZ.out
    refine (split_any ((bs (joinL l)).extract 0 c) W' (by rw [ext_size _ _ _ hc]; omega)).mono fun e w' h => ?_
    unfold Splits at h
    rw [ext_list, List.drop_zero, Nat.sub_zero, show (bs (joinL l)).data.toList = joinL l by simp [bs], split_torn l c (fun b hb => by
      have := sumLen_mem hb
      have := List.length_pos_of_mem hb
      unfold jsum at hjb
      omega)] at h
    exact h
  generalize hy : bs (joinL l) = y at *
  clear hy
  have HSS : Hid (∀ k, k ≤ n → ∀ W', Below W.heap.size W W' → Strs W' (.slice A k cap) (l.take k)) := Lib.hid fun k hk W' hb => (HS0.out.take k hk).up hb
  go_wp2_with fail
  refine (HP.out _ hs).mono ?_
  rintro _ w2 ⟨rfl, hb⟩
  replace hB := below_step hB hb
  clear hb HP
  by_cases hc : cut < 0
  · go_wp2_with fail
    refine (awake_any _).mono ?_
    rintro _ w7 ⟨rfl, hb⟩
    replace hB := below_step hB hb
    go_wp2
    go_ret
    exact ⟨rfl, hB⟩
  by_cases hc2 : (y.size : Int) < cut
  · have hc0 : 0 ≤ cut := by omega
    clear hc
    go_wp2_with fail
    refine (awake_any _).mono ?_
    rintro _ w7 ⟨rfl, hb⟩
    replace hB := below_step hB hb
    go_wp2
    go_ret
    exact ⟨rfl, hB⟩
  have hc0 : 0 ≤ cut := by omega
  obtain ⟨c, rfl⟩ : ∃ c : Nat, cut = c := ⟨cut.toNat, by omega⟩
  have hcy : (c : Int) ≤ y.size := by omega
  have HSP := Lib.hid (HSA.out c (by omega))
  clear hc hc2 HSA
  obtain ⟨A', cap', hA', hseg, _, _⟩ := HS0.out
  obtain ⟨rfl, rfl⟩ : A = A' ∧ cap = cap' := by injection hA' with e1 _ e3; exact ⟨e1, e3⟩
  have HG := Lib.hid hseg
  clear hA' hseg hs
  go_wp2
  go_loopw [7, 8, 40] (fun u7 u8 u40 wr => TornRel l W u7 u8 u40 c wr) (fun _ _ i _ => n - (intOf i).toNat)
  case atStart => exact ⟨0, rfl, rfl, rfl, by omega, by simp [jsum, sumLen], hB⟩
  case round =>
    clear hB
    obtain ⟨k, rfl, rfl, rfl, hk, hj, hB⟩ := hrel
    rw [HN.out] at hk
    have hjk := jsum_take l k
    have hjj := HJ.out
    by_cases hlt : k < n
    · obtain ⟨b1, o1, rfl, hb1, q1⟩ := seg_str HG.out k (by rw [HN.out]; exact hlt)
      replace q1 := (hB.cell (p := ⟨b1, o1 + k, none⟩) hb1).trans q1
      have hki : (k : Int) < n := by omega
      have hk0 : (0 : Int) ≤ k := by omega
      have hts := take_getD l k (by rw [HN.out]; exact hlt)
      have hjs := jsum_snoc (l.take k) (l.getD k [])
      rw [← hts] at hjs
      have hbz := bs_size (l.getD k [])
      generalize l.getD k [] = x at *
      by_cases hfit : jsum (l.take (k + 1)) ≤ c
      · have H1 := Lib.hid (show jsum (l.take (k + 1)) = jsum (l.take k) + 8 + (bs x).size by omega)
        have H2 := Lib.hid hfit
        have hfi : ((jsum (l.take k) : Nat) : Int) + 8 + ((bs x).size : Int) ≤ c := by omega
        have hj0 : ((jsum (l.take k) : Nat) : Int) ≤ 262144 := by omega
        clear hts hjs hfit hbz hjk hjj hj
        generalize bs x = z at *
        generalize jsum (l.take k) = j at *
        go_wp2
        go_roundw
        case rel => exact ⟨k + 1, by go_num, by rw [H1.out]; go_num, by go_num, by rw [HN.out]; omega, H2.out, hB⟩
        case measure => simp [intOf]; omega
      · have hfi : (c : Int) < ((jsum (l.take k) : Nat) : Int) + 8 + ((bs x).size : Int) := by omega
        have hj0 : ((jsum (l.take k) : Nat) : Int) ≤ 262144 := by omega
        have hzz : ((bs x).size : Int) ≤ 1000000 := by
          have h1 := jsum_take l (k + 1)
          omega
        have hw : wholeF l c = (l.take k, jsum (l.take k)) ∧ True := ⟨wholeF_take l c k (by rw [HN.out]; omega) hj (fun _ => by omega), trivial⟩
        clear hts hjs hfit hbz hjk hjj hj
        generalize bs x = z at *
        generalize hjg : jsum (l.take k) = j at *
        have HJG := Lib.hid hjg
        clear hjg
        have hsp := HSP.out.out
        obtain ⟨hws, _⟩ := hw
        simp only [hws] at hsp
        have HSQ := Lib.hid hsp
        have hkl : ((l.take k).length : Nat) = k := by rw [List.length_take, HN.out]; omega
        have hci : (c : Int) ≤ y.size := by omega
        have hc0 : (0 : Int) ≤ c := by omega
        have hk0' : (0 : Int) ≤ k := by omega
        have hni : (n : Int) ≤ cap := HCAP.out
        have hnk : (k : Int) ≤ n := by omega
        have hnk2 : (k : Int) ≤ cap := by omega
        have HKL := Lib.hid hkl
        have hss := Lib.hid (HSS.out k (by omega))
        clear hws hkl hsp
        go_wp2_with fail
        refine (HSQ.out _).mono ?_
        rintro _ w5 ⟨v1, rfl, s1, hb⟩
        replace hB := below_step hB hb
        have H5 := hss.out _ hB
        clear hb
        go_wp2_with fail
        refine (same_yes v1 _ _ _ s1 H5 (by rw [HKL.out]; omega)).mono ?_
        rintro _ w6 ⟨rfl, hb⟩
        replace hB := below_step hB hb
        clear hb s1 H5
        go_wp2_with fail
        refine (awake_any _).mono ?_
        rintro _ w7 ⟨rfl, hb⟩
        replace hB := below_step hB hb
        go_wp2
        go_ret
        exact ⟨rfl, hB⟩
    · have hw : wholeF l c = (l.take k, jsum (l.take k)) ∧ True := ⟨wholeF_take l c k (by rw [HN.out]; omega) hj (fun h => by rw [HN.out] at h; omega), trivial⟩
      have hj0 : ((jsum (l.take k) : Nat) : Int) ≤ 262144 := by omega
      clear hjk hjj hj
      have hlt2 : (n : Int) ≤ k := by omega
      generalize hjg : jsum (l.take k) = j at *
      have HJG := Lib.hid hjg
      clear hjg
      have hsp := HSP.out.out
      obtain ⟨hws, _⟩ := hw
      simp only [hws] at hsp
      have HSQ := Lib.hid hsp
      have hkl : ((l.take k).length : Nat) = k := by rw [List.length_take, HN.out]; omega
      have hci : (c : Int) ≤ y.size := by omega
      have hc0 : (0 : Int) ≤ c := by omega
      have hk0' : (0 : Int) ≤ k := by omega
      have hni : (n : Int) ≤ cap := HCAP.out
      have hnk : (k : Int) ≤ n := by omega
      have hnk2 : (k : Int) ≤ cap := by omega
      have HKL := Lib.hid hkl
      have hss := Lib.hid (HSS.out k (by omega))
      clear hws hkl hsp
      go_wp2_with fail
      refine (HSQ.out _).mono ?_
      rintro _ w5 ⟨v1, rfl, s1, hb⟩
      replace hB := below_step hB hb
      have H5 := hss.out _ hB
      clear hb
      go_wp2_with fail
      refine (same_yes v1 _ _ _ s1 H5 (by rw [HKL.out]; omega)).mono ?_
      rintro _ w6 ⟨rfl, hb⟩
      replace hB := below_step hB hb
      clear hb s1 H5
      go_wp2_with fail
      refine (awake_any _).mono ?_
      rintro _ w7 ⟨rfl, hb⟩
      replace hB := below_step hB hb
      go_wp2
      go_ret
      exact ⟨rfl, hB⟩
end Go.Proofs.Ytohijllciehjlaa
