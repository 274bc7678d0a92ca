/- WalSplits, WalOpens, WalNobody: the walks. -/
import Derived.Test.YtjcojgblnbhejaaWH
namespace Go.Proofs.Ytjcojgblnbhejaa
open Go.ChangeShapes Go.WideShapes Go.ChangeAt Go.RowKit

theorem walSplits_walk (t : ByteArray) (W : World) {p0 : Prop} (_ : p0) : Calls Try.prog 5 #[.string t] W fun e w' => e = .returned (.bool true) ∧ Below W.heap.size W w' := by
  by_cases h : (4000 : Int) < t.size
  · go_enter Try.func5, Try.ntmps5
    go_wp2_with fail
    refine (awake_any _).mono ?_
    rintro _ w1 ⟨rfl, hb⟩
    go_wp2
    go_ret
    exact ⟨rfl, hb⟩
  · have HA := Lib.hid (fun w => recover_any t w (by omega))
    have HB := Lib.hid (fun w => rrecover_any t w (by omega))
    have hc := split_count t.data.toList
    rw [Array.length_toList] at hc
    have hcn : (splitV t.data.toList).1.length ≤ 1000000 := by
      have : t.data.size = t.size := rfl
      omega
    have h' : (t.size : Int) ≤ 4000 := by omega
    clear h hc
    unfold Splits at HA HB
    generalize splitV t.data.toList = p at *
    have HC := Lib.hid hcn
    clear hcn
    go_enter Try.func5, Try.ntmps5
    go_wp2_with fail
    refine (HA.out _).mono ?_
    rintro _ w1 ⟨v1, rfl, ⟨hs1, _⟩, hb1⟩
    go_wp2_with fail
    refine (HB.out _).mono ?_
    rintro _ w2 ⟨v2, rfl, ⟨hs2, _⟩, hb2⟩
    replace hs1 := hs1.up hb2
    go_wp2_with fail
    refine (same_any _ _ _ _ _ hs1 hs2 HC.out).mono ?_
    rintro _ w3 ⟨rfl, hb3⟩
    rw [show decide (p.1 = p.1) = true from decide_eq_true rfl]
    go_wp2_with fail
    refine (awake_any _).mono ?_
    rintro _ w4 ⟨rfl, hb4⟩
    go_wp2
    go_ret
    exact ⟨rfl, below_step (below_step (below_step hb1 hb2) hb3) hb4⟩
theorem write_up (s : DS) (x : List UInt8) (h : Holds s [] []) (hl : (x.length : Int) ≤ s.sz) : writeV s x = (0, { s with app := x }) := by
  unfold writeV
  have hc : (cont s).length = 0 := by rw [h.cont]; rfl
  rw [if_pos (rdy_up s h.sz h.down), if_pos (by omega), h.rep, if_neg (by decide), h.app]
  rfl
theorem sync_up (s : DS) (hz : 1 ≤ s.sz) (hd : s.down = false) : syncV s = (0, ⟨s.sz, cont s, [], false, [], s.down⟩) := by
  unfold syncV
  rw [if_pos (rdy_up s hz hd)]
theorem walOpens_walk (t : ByteArray) (W : World) {p0 : Prop} (_ : p0) : Calls Try.prog 7 #[.string t] W fun e w' => e = .returned (.bool true) ∧ Below W.heap.size W w' := by
  rw [bs_list t]
  generalize t.data.toList = x
  have hsz := bs_size x
  have H0 := Holds.made 10000 (by decide) (by decide)
  by_cases h : (4000 : Int) < x.length
  · have HF := Lib.hid H0
    clear H0
    go_enter Try.func7, Try.ntmps7
    go_wp2_with fail
    refine (dk_new (w0 := W) 10000 (Below.refl _ _) (by decide) (by decide)).mono ?_
    rintro _ w1 ⟨g, rfl, h1⟩
    go_wp2_with fail
    refine (awake_any _).mono ?_
    rintro _ w2 ⟨rfl, hb⟩
    go_wp2
    go_ret
    exact ⟨rfl, (h1.up hb).below⟩
  · have e1 := write_up _ x H0 (by show (x.length : Int) ≤ 10000; omega)
    have f1 := write_fit H0.fit e1
    have e2 := sync_up { (⟨10000, [], [], false, [], false⟩ : DS) with app := x } (show (1 : Int) ≤ 10000 by decide) rfl
    have f2 := sync_fit f1.1 e2
    have hcx : cont { (⟨10000, [], [], false, [], false⟩ : DS) with app := x } = x := by
      unfold cont
      simp
    rw [hcx] at e2 f2
    have d2 : (⟨10000, x, [], false, [], false⟩ : DS).down = false := rfl
    have z2 : 1 ≤ (⟨10000, x, [], false, [], false⟩ : DS).sz := show (1 : Int) ≤ 10000 by decide
    have c2 : cont (⟨10000, x, [], false, [], false⟩ : DS) = x := by
      unfold cont
      simp
    have f3 := opened_fit _ f2.1 d2
    have c3 := opened_cont (⟨10000, x, [], false, [], false⟩ : DS)
    rw [c2] at c3
    have z3 : 1 ≤ (opened (⟨10000, x, [], false, [], false⟩ : DS)).sz := by rw [f3.2.1]; exact z2
    have v3 := contV_up _ z3 f3.2.2
    rw [c3] at v3
    have g3 := opened_again (⟨10000, x, [], false, [], false⟩ : DS)
    have n3 := recs_count _ f3.1
    have hle := split_le x
    have HE := Lib.hid (And.intro e1 (And.intro f1.1 (And.intro e2 (And.intro f2.1 (And.intro z2 d2)))))
    have HG := Lib.hid (And.intro f3.1 (And.intro z3 (And.intro f3.2.2 (And.intro v3 (And.intro g3 n3)))))
    have HF := Lib.hid H0
    have h' : (x.length : Int) ≤ 4000 := by omega
    clear H0 e1 f1 e2 f2 hcx d2 z2 c2 f3 c3 z3 v3 g3 n3 h
    generalize (⟨10000, x, [], false, [], false⟩ : DS) = s2 at *
    generalize ho : opened s2 = s3 at *
    have HO := Lib.hid ho
    clear ho
    generalize ({ (⟨10000, [], [], false, [], false⟩ : DS) with app := x } : DS) = s1 at *
    generalize (splitV x).2 = n at *
    go_enter Try.func7, Try.ntmps7
    go_wp2_with fail
    refine (dk_new (w0 := W) 10000 (Below.refl _ _) (by decide) (by decide)).mono ?_
    rintro _ w1 ⟨g, rfl, h1⟩
    go_wp2_with fail
    refine (dk_write x h1 HF.out.fit HE.out.1).mono ?_
    clear h1
    rintro _ w2 ⟨rfl, h2⟩
    go_wp2_with fail
    refine (dk_sync h2 HE.out.2.1 HE.out.2.2.1).mono ?_
    clear h2
    rintro _ w3 ⟨rfl, h3⟩
    go_wp2_with fail
    refine (atx_open h3 HE.out.2.2.2.1 HE.out.2.2.2.2.1 HE.out.2.2.2.2.2).mono ?_
    clear h3
    rintro _ w4 ⟨lg, rfl, h4⟩
    rw [HO.out] at h4
    have HM := Lib.hid (show lgX lg g ∈ [lgX lg g] from List.mem_cons_self)
    go_wp2_with fail
    refine (dk_contents h4 HG.out.1).mono ?_
    clear h4
    rintro _ w5 ⟨rfl, h5, _⟩
    rw [HG.out.2.2.2.1]
    have hsn : (bs (x.take n)).size = n := by rw [bs_size, List.length_take]; omega
    have hcut : (bs x).extract 0 n = bs (x.take n) := bs_take x n
    go_wp2_with fail
    refine (lg_records h5 HM.out HG.out.1 HG.out.2.1).mono ?_
    clear h5
    rintro _ w6 ⟨v6, Y, rfl, h6, hs6⟩
    go_wp2_with fail
    refine (atx_open h6 HG.out.1 HG.out.2.1 HG.out.2.2.1).mono ?_
    clear h6
    rintro _ w7 ⟨lg2, rfl, h7⟩
    rw [HG.out.2.2.2.2.1] at h7
    have HM2 := Lib.hid (show lgX lg2 g ∈ lgX lg2 g :: (Y ++ [lgX lg g]) from List.mem_cons_self)
    go_wp2_with fail
    refine (dk_contents h7 HG.out.1).mono ?_
    clear h7
    rintro _ w8 ⟨rfl, h8, _⟩
    rw [HG.out.2.2.2.1]
    go_wp2_with fail
    refine (lg_records h8 HM2.out HG.out.1 HG.out.2.1).mono ?_
    clear h8
    rintro _ w9 ⟨v9, Y2, rfl, h9, hs9⟩
    have hst9 := h9.strs hs9 (fun x hx => List.mem_append_left _ hx)
    have hst6 := h9.strs hs6 (fun x hx => List.mem_append_right _ (List.mem_cons_of_mem _ (List.mem_append_left _ hx)))
    go_wp2_with fail
    refine (same_any _ _ _ _ _ hst9 hst6 (by have := HG.out.2.2.2.2.2; omega)).mono ?_
    rintro _ w10 ⟨rfl, hb10⟩
    rw [show decide (recs s3 = recs s3) = true from decide_eq_true rfl]
    have h10 := (h9.up hb10).below
    clear h9 hst9 hst6 hs9 hs6 hb10
    go_wp2_with fail
    refine (awake_any _).mono ?_
    rintro _ w11 ⟨rfl, hb11⟩
    go_wp2
    go_ret
    exact ⟨rfl, below_step h10 hb11⟩
theorem append_nil (lg : Value) (t : ByteArray) (w : World) (HM : Hid (Calls Try.prog 38 #[lg] w fun e w' => e = .returned (.bool false) ∧ w = w')) : Calls Try.prog 12 #[lg, .string t] w fun e w' => e = .returned (.int .i64 10) ∧ w = w' := by
  go_enter Try.func12, Try.ntmps12
  go_wp2_with fail
  refine HM.out.mono ?_
  rintro _ _ ⟨rfl, rfl⟩
  go_wp2
  go_ret
  exact ⟨rfl, rfl⟩
theorem compact_nil (lg : Value) (t : ByteArray) (w : World) (HM : Hid (Calls Try.prog 38 #[lg] w fun e w' => e = .returned (.bool false) ∧ w = w')) : Calls Try.prog 15 #[lg, .string t] w fun e w' => e = .returned (.int .i64 10) ∧ w = w' := by
  go_enter Try.func15, Try.ntmps15
  go_wp2_with fail
  refine HM.out.mono ?_
  rintro _ _ ⟨rfl, rfl⟩
  go_wp2
  go_ret
  exact ⟨rfl, rfl⟩
theorem wsync_nil (lg : Value) (w : World) (HM : Hid (Calls Try.prog 38 #[lg] w fun e w' => e = .returned (.bool false) ∧ w = w')) : Calls Try.prog 17 #[lg] w fun e w' => e = .returned (.int .i64 10) ∧ w = w' := by
  go_enter Try.func17, Try.ntmps17
  go_wp2_with fail
  refine HM.out.mono ?_
  rintro _ _ ⟨rfl, rfl⟩
  go_wp2
  go_ret
  exact ⟨rfl, rfl⟩
theorem records_nil (lg : Value) (w : World) (HM : Hid (Calls Try.prog 38 #[lg] w fun e w' => e = .returned (.bool false) ∧ w = w')) : Calls Try.prog 14 #[lg] w fun e w' => e = .returned (.slice none 0 0) ∧ w = w' := by
  go_enter Try.func14, Try.ntmps14
  go_wp2_with fail
  refine HM.out.mono ?_
  rintro _ _ ⟨rfl, rfl⟩
  go_wp2
  go_ret
  exact ⟨rfl, rfl⟩
theorem durable_nil (lg : Value) (w : World) (HM : Hid (Calls Try.prog 38 #[lg] w fun e w' => e = .returned (.bool false) ∧ w = w')) : Calls Try.prog 16 #[lg] w fun e w' => e = .returned (.int .i64 0) ∧ w = w' := by
  go_enter Try.func16, Try.ntmps16
  go_wp2_with fail
  refine HM.out.mono ?_
  rintro _ _ ⟨rfl, rfl⟩
  go_wp2
  go_ret
  exact ⟨rfl, rfl⟩
theorem open_nil (w : World) : Calls Try.prog 10 #[.pointer none] w fun e w' => e = .returned (.tuple #[.pointer none, .int .i64 10]) ∧ w = w' := by
  go_enter Try.func10, Try.ntmps10
  go_wp2
  go_ret2
  exact ⟨rfl, rfl⟩
set_option maxRecDepth 100000 in
set_option maxHeartbeats 2000000 in
theorem walNobody_walk (t : ByteArray) (W : World) {p0 : Prop} (_ : p0) : Calls Try.prog 4 #[.string t] W fun e w' => e = .returned (.bool true) ∧ Below W.heap.size W w' := by
  have hb1 := below_box (Below.refl _ W) (.cells #[.pointer none] 39)
  have hB1 := Box.new W 39 #[.pointer none]
  have hz1 : (W.alloc (.cells #[.pointer none] 39)).heap.size = W.heap.size + 1 := by simp
  have HK := Lib.hid (And.intro hb1 (And.intro hB1 hz1))
  clear hb1 hB1 hz1
  go_enter Try.func4, Try.ntmps4
  go_wp2_with fail
  generalize hw1 : W.alloc (.cells #[.pointer none] 39) = w1 at *
  obtain ⟨hb1, hB1, hz1⟩ := HK.out
  clear hw1 HK
  have hb2 := below_box (Below.refl _ w1) (.cells #[.pointer none, .pointer (some ⟨W.heap.size, 0, none⟩)] 27)
  have hB2 := Box.new w1 27 #[.pointer none, .pointer (some ⟨W.heap.size, 0, none⟩)]
  rw [hz1] at hB2
  generalize hw2 : w1.alloc (.cells #[.pointer none, .pointer (some ⟨W.heap.size, 0, none⟩)] 27) = w2 at *
  have hB := below_step hb1 hb2
  have hL := hB1.next hb2
  have HB := Lib.hid hB
  have HN := Lib.hid (fun w => made_nil w)
  have HZ := Lib.hid (made_zero w2 _ hL)
  generalize hbW : W.heap.size = b at *
  have HBW := Lib.hid hbW
  clear hbW
  have c0 := hB2.cell 0 _ rfl
  have c1 := hB2.cell 1 _ rfl
  clear hw2 hb1 hB1 hz1 hb2 hB2 hB hL
  refine wp_loop_rounds 3 ?_
  rw [rounds_succ]
  go_wp2_with fail
  refine (append_nil _ _ _ (Lib.hid (HN.out _))).mono ?_
  rintro _ _ ⟨rfl, rfl⟩
  go_wp2_with fail
  refine (wsync_nil _ _ (Lib.hid (HN.out _))).mono ?_
  rintro _ _ ⟨rfl, rfl⟩
  go_wp2_with fail
  refine (compact_nil _ _ _ (Lib.hid (HN.out _))).mono ?_
  rintro _ _ ⟨rfl, rfl⟩
  go_wp2_with fail
  refine (records_nil _ _ (Lib.hid (HN.out _))).mono ?_
  rintro _ _ ⟨rfl, rfl⟩
  go_wp2_with fail
  refine (durable_nil _ _ (Lib.hid (HN.out _))).mono ?_
  rintro _ _ ⟨rfl, rfl⟩
  go_wp2_with fail
  rw [rounds_succ]
  go_wp2_with fail
  refine (append_nil _ _ _ HZ).mono ?_
  rintro _ _ ⟨rfl, rfl⟩
  go_wp2_with fail
  refine (wsync_nil _ _ HZ).mono ?_
  rintro _ _ ⟨rfl, rfl⟩
  go_wp2_with fail
  refine (compact_nil _ _ _ HZ).mono ?_
  rintro _ _ ⟨rfl, rfl⟩
  go_wp2_with fail
  refine (records_nil _ _ HZ).mono ?_
  rintro _ _ ⟨rfl, rfl⟩
  go_wp2_with fail
  refine (durable_nil _ _ HZ).mono ?_
  rintro _ _ ⟨rfl, rfl⟩
  go_wp2_with fail
  rw [rounds_succ]
  go_wp2_with fail
  refine (open_nil _).mono ?_
  rintro _ _ ⟨rfl, rfl⟩
  go_wp2_with fail
  refine (awake_any _).mono ?_
  rintro _ w3 ⟨rfl, hb3⟩
  go_wp2
  go_ret
  have hW : Below W.heap.size W w2 := by rw [HBW.out]; exact HB.out
  exact ⟨rfl, below_step hW hb3⟩
end Go.Proofs.Ytjcojgblnbhejaa
