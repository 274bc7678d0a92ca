/- WalPlays: the walk. -/
import Derived.Test.YtjcojgblnbhejaaWM
namespace Go.Proofs.Ytjcojgblnbhejaa
open Go.ChangeShapes Go.WideShapes Go.ChangeAt Go.RowKit
attribute [local go_sem] ownAtC ownUponC

def PlRel (W : World) (g r n : Nat) (u6 u8 u9 u10 i : Value) (wr : World) : Prop := ∃ (k : Nat) (s : DS) (lg rl : Nat), u6 = .int .i64 0 ∧ u8 = .int .i64 0 ∧ u9 = .pointer (some ⟨lg, 0, none⟩) ∧ u10 = .pointer (some ⟨rl, 0, none⟩) ∧ i = .int .i64 k ∧ k ≤ n ∧ AtX W wr g s [rX r s, rlX rl r, lgX lg g] ∧ Fit s ∧ 1 ≤ s.sz ∧ s.down = false
set_option maxRecDepth 100000 in
theorem walPlays_no (sz : Int) (A : Option Addr) (n cap : Nat) (W : World) (h : sz < 1 ∨ (1 ≤ sz ∧ 262144 < sz)) : Calls Try.prog 8 #[.int .i64 sz, .slice A n cap] W fun e w' => e = .returned (.bool true) ∧ Below W.heap.size W w' := by
  have H := Lib.hid h
  clear h
  go_enter Try.func8, Try.ntmps8
  go_wp2_with fail
  refine (newDisk_no sz _ H.out).mono ?_
  rintro _ _ ⟨rfl, rfl⟩
  go_wp2_with fail
  refine (rnew_no sz _ H.out).mono ?_
  rintro _ _ ⟨rfl, rfl⟩
  go_wp2_with fail
  refine (awake_any _).mono ?_
  rintro _ w3 ⟨rfl, hb⟩
  go_wp2
  go_ret
  exact ⟨rfl, hb⟩
set_option maxRecDepth 100000 in
set_option maxHeartbeats 16000000 in
theorem walPlays_yes (sz : Int) (A : Option Addr) (n cap : Nat) (os : List OpV) (W : World) (hz : Script W A n os) (hz1 : 1 ≤ sz) (hz2 : sz ≤ 262144) : Calls Try.prog 8 #[.int .i64 sz, .slice A n cap] W fun e w' => e = .returned (.bool true) ∧ Below W.heap.size W w' := by
  obtain ⟨hn, hs, hmax⟩ := hz
  have hmx : (n : Int) ≤ 9223372036854775807 := by unfold maxLen at hmax; omega
  have HS := Lib.hid hs
  have HM := Lib.hid (fun w (h : Below W.heap.size W w) => small_any A n cap os w hmx (hs.next h))
  have H0 := Lib.hid (Holds.made sz hz1 hz2)
  clear hs hn hmax
  go_enter Try.func8, Try.ntmps8
  go_wp2_with fail
  refine (dk_new (w0 := W) sz (Below.refl _ _) hz1 hz2).mono ?_
  rintro _ w1 ⟨g, rfl, h1⟩
  go_wp2_with fail
  refine (rk_new sz h1 hz1 hz2).mono ?_
  clear h1
  rintro _ w2 ⟨r, rfl, h2⟩
  go_wp2_with fail
  refine (HM.out _ h2.below).mono ?_
  rintro _ w3 ⟨b, rfl, hb3⟩
  replace h2 := h2.up hb3
  clear hb3 HM
  cases b
  · go_wp2_with fail
    refine (awake_any _).mono ?_
    rintro _ w4 ⟨rfl, hb⟩
    replace h2 := (h2.up hb).below
    clear hb
    go_wp2
    go_ret
    exact ⟨rfl, h2⟩
  go_wp2_with fail
  refine (atx_open h2 H0.out.fit H0.out.sz H0.out.down).mono ?_
  clear h2
  rintro _ w4 ⟨lg, rfl, h4⟩
  rw [H0.out.opened] at h4
  replace h4 := h4.perm (List.Perm.swap _ _ _)
  go_wp2_with fail
  refine (atx_ropen h4 H0.out.fit H0.out.sz H0.out.down).mono ?_
  clear h4
  rintro _ w5 ⟨rl, rfl, h5⟩
  rw [H0.out.opened] at h5
  go_wp2
  go_loopw [6, 8, 9, 10, 45] (PlRel W g r n) (fun _ _ _ _ i _ => n - (intOf i).toNat)
  case atStart => exact ⟨0, _, _, _, rfl, rfl, rfl, rfl, rfl, by omega, h5, H0.out.fit, H0.out.sz, H0.out.down⟩
  case round =>
  clear h5
  obtain ⟨k, s, lg, rl, rfl, rfl, rfl, rfl, rfl, hk, h, hf, hz, hd⟩ := hrel
  by_cases hlt : k < n
  case neg =>
    obtain rfl : k = n := by omega
    have HB := Lib.hid h.below
    clear h
    go_wp2_with fail
    refine (awake_any _).mono ?_
    rintro _ w6 ⟨rfl, hb⟩
    go_wp2
    go_ret
    exact ⟨rfl, below_step HB.out hb⟩
  obtain ⟨b1, o1, rfl, hb1, q0, q1, q2⟩ := oseg HS.out k hlt
  have hB := h.below
  have p0 := (hB.cell (p := ⟨b1, o1 + k * 3, none⟩) hb1).trans q0
  have hb2 : b1 < wr.heap.size := Nat.lt_of_lt_of_le hb1 hB.size
  clear hB
  rw [bs_list (os.getD k OpV.z).t] at q1
  generalize (os.getD k OpV.z).t.data.toList = t at *
  generalize (os.getD k OpV.z).k = kk at *
  generalize (os.getD k OpV.z).n = nn at *
  have HQ := Lib.hid (And.intro q1 q2)
  clear q0 q1 q2
  have HI := Lib.hid (show lgX lg g ∈ [rX r s, rlX rl r, lgX lg g] by simp)
  by_cases k0 : kk = 0
  · subst k0
    rcases hv : appendV s t with ⟨er, s'⟩
    have HF : Hid (Fit s' ∧ 1 ≤ s'.sz ∧ s'.down = false) := Lib.hid (by
      obtain ⟨k1, k2⟩ := append_fit hf hv
      exact ⟨k1, by omega, (append_down hv).trans hd⟩)
    have HV := Lib.hid (And.intro hf hv)
    clear hf hv hz hd
    go_upto_region 17 with fail
    clear p0
    let c : Cls := ⟨fun w => Below W.heap.size W w, wr, h.below, fun h k => below_step h k⟩
    have j1 : ∀ i : IdxC c, i.at.cell? ⟨b1, o1 + k * 3 + 1, none⟩ = some (.string (bs t)) := fun i => (i.prop.cell (p := ⟨b1, o1 + k * 3 + 1, none⟩) hb1).trans HQ.out.1
    refine wp_region_mixC (c := c) [0, 0, 0, 0, 0, 0, 2, 0, 0, 0, 0, 0, 0, 2, 0] [0, 1, 2, 3, 4, 5, 7, 8, 9, 10, 11, 12, 6, 13, 14] (by kernel_rfl) (by kernel_rfl) rfl ?_
    iterate 12 (refine wpMixC_calm (fun K hK => ?_); go_simp; refine hK _ ?_; clear hK K)
    refine wpMixC_own (fun wa hb K hK => ?_)
    replace h := h.up hb
    clear hb
    go_simp
    go_at_call 12
    refine (lg_append t h HI.out HV.out.1 HV.out.2).mono ?_
    clear h
    rintro _ wb ⟨rfl, h⟩
    replace h := h.perm (List.Perm.refl _)
    refine ⟨_, rfl, h.below, hK _ _ ?_⟩
    clear hK K
    refine wpMixC_own (fun wa hb K hK => ?_)
    replace h := h.up hb
    clear hb
    go_simp
    go_at_call 28
    refine (rl_append t h (List.mem_cons_self) HV.out.1 HV.out.2).mono ?_
    clear h
    rintro _ wb ⟨rfl, h⟩
    refine ⟨_, rfl, h.below, hK _ _ ?_⟩
    clear hK K
    iterate 1 (refine wpMixC_calm (fun K hK => ?_); go_simp; refine hK _ ?_; clear hK K)
    refine wpMixC_nil (fun wd hb => ?_)
    replace h := h.up hb
    clear hb
    have HT := Lib.hid (show lgX lg g ∈ [rX r s', rlX rl r, lgX lg g] by simp)
    have HT2 := Lib.hid (show rlX rl r ∈ [rX r s', rlX rl r, lgX lg g] by simp)
    have HT3 := Lib.hid (show rX r s' ∈ [rX r s', rlX rl r, lgX lg g] by simp)
    go_wp2_with fail
    refine (lg_records h HT.out HF.out.1 HF.out.2.1).mono ?_
    clear h
    rintro _ wx ⟨vx, Yx, rfl, h, hsx⟩
    go_wp2_with fail
    refine (rl_records (s := s') h (List.mem_append_right _ HT3.out) (List.mem_append_right _ HT2.out) HF.out.1 HF.out.2.1).mono ?_
    clear h
    rintro _ wy ⟨vy, Yy, rfl, h, hsy⟩
    have stx := h.strs hsx (fun x hx => List.mem_append_right _ (List.mem_append_left _ hx))
    have sty := h.strs hsy (fun x hx => List.mem_append_left _ hx)
    replace h := (h.sub (List.sublist_append_right _ _)).sub (List.sublist_append_right _ _)
    clear hsx hsy
    go_wp2_with fail
    refine (same_any _ _ _ _ _ stx sty (by have := recs_count _ HF.out.1; omega)).mono ?_
    clear stx sty
    rintro _ wz ⟨rfl, hb⟩
    replace h := h.up hb
    clear hb
    rw [show decide (recs s' = recs s') = true from decide_eq_true rfl]
    go_wp2_with fail
    refine (lg_durable h HT.out HF.out.1 HF.out.2.1).mono ?_
    clear h
    rintro _ wu ⟨rfl, h, _⟩
    go_wp2_with fail
    refine (rl_durable (s := s') h HT3.out HT2.out HF.out.1 HF.out.2.1).mono ?_
    clear h
    rintro _ wv ⟨rfl, h⟩
    generalize ((durs s').length : Int) = nd
    go_wp2_with fail
    refine (dk_contents h HF.out.1).mono ?_
    clear h
    rintro _ ws ⟨rfl, h, _⟩
    go_wp2_with fail
    refine (rk_contents (s := s') h HT3.out HF.out.1).mono ?_
    clear h
    rintro _ wt ⟨rfl, h⟩
    generalize bs (contV s') = ct
    go_wp2
    go_roundw
    case rel => exact ⟨k + 1, s', _, _, rfl, rfl, rfl, rfl, by go_num, by omega, h, HF.out.1, HF.out.2.1, HF.out.2.2⟩
    case measure => simp [intOf]; omega
  have e0 : (kk == 0) = false := by simpa using k0
  by_cases k1 : kk = 1
  · subst k1
    rcases hv : syncV s with ⟨er, s'⟩
    have HF : Hid (Fit s' ∧ 1 ≤ s'.sz ∧ s'.down = false) := Lib.hid (by
      obtain ⟨k1, k2⟩ := sync_fit hf hv
      exact ⟨k1, by omega, (sync_down hv).trans hd⟩)
    have HV := Lib.hid (And.intro hf hv)
    clear hf hv hz hd
    go_wp2_with fail
    refine (lg_sync h HI.out HV.out.1 HV.out.2).mono ?_
    clear h p0
    rintro _ wa ⟨rfl, h⟩
    go_wp2_with fail
    refine (rl_sync h (List.mem_cons_self) HV.out.1 HV.out.2).mono ?_
    clear h
    rintro _ wb ⟨rfl, h⟩
    have HT := Lib.hid (show lgX lg g ∈ [rX r s', rlX rl r, lgX lg g] by simp)
    have HT2 := Lib.hid (show rlX rl r ∈ [rX r s', rlX rl r, lgX lg g] by simp)
    have HT3 := Lib.hid (show rX r s' ∈ [rX r s', rlX rl r, lgX lg g] by simp)
    go_wp2_with fail
    refine (lg_records h HT.out HF.out.1 HF.out.2.1).mono ?_
    clear h
    rintro _ wx ⟨vx, Yx, rfl, h, hsx⟩
    go_wp2_with fail
    refine (rl_records (s := s') h (List.mem_append_right _ HT3.out) (List.mem_append_right _ HT2.out) HF.out.1 HF.out.2.1).mono ?_
    clear h
    rintro _ wy ⟨vy, Yy, rfl, h, hsy⟩
    have stx := h.strs hsx (fun x hx => List.mem_append_right _ (List.mem_append_left _ hx))
    have sty := h.strs hsy (fun x hx => List.mem_append_left _ hx)
    replace h := (h.sub (List.sublist_append_right _ _)).sub (List.sublist_append_right _ _)
    clear hsx hsy
    go_wp2_with fail
    refine (same_any _ _ _ _ _ stx sty (by have := recs_count _ HF.out.1; omega)).mono ?_
    clear stx sty
    rintro _ wz ⟨rfl, hb⟩
    replace h := h.up hb
    clear hb
    rw [show decide (recs s' = recs s') = true from decide_eq_true rfl]
    go_wp2_with fail
    refine (lg_durable h HT.out HF.out.1 HF.out.2.1).mono ?_
    clear h
    rintro _ wu ⟨rfl, h, _⟩
    go_wp2_with fail
    refine (rl_durable (s := s') h HT3.out HT2.out HF.out.1 HF.out.2.1).mono ?_
    clear h
    rintro _ wv ⟨rfl, h⟩
    generalize ((durs s').length : Int) = nd
    go_wp2_with fail
    refine (dk_contents h HF.out.1).mono ?_
    clear h
    rintro _ ws ⟨rfl, h, _⟩
    go_wp2_with fail
    refine (rk_contents (s := s') h HT3.out HF.out.1).mono ?_
    clear h
    rintro _ wt ⟨rfl, h⟩
    generalize bs (contV s') = ct
    go_wp2
    go_roundw
    case rel => exact ⟨k + 1, s', _, _, rfl, rfl, rfl, rfl, by go_num, by omega, h, HF.out.1, HF.out.2.1, HF.out.2.2⟩
    case measure => simp [intOf]; omega
  have e1 : (kk == 1) = false := by simpa using k1
  by_cases k2 : kk = 2
  · subst k2
    rcases hv : compactV s t with ⟨er, s'⟩
    have HF : Hid (Fit s' ∧ 1 ≤ s'.sz ∧ s'.down = false) := Lib.hid (by
      obtain ⟨k1, k2⟩ := compact_fit hf hv
      exact ⟨k1, by omega, (compact_down hv).trans hd⟩)
    have HV := Lib.hid (And.intro hf hv)
    clear hf hv hz hd
    go_upto_region 23 with fail
    clear p0
    let c : Cls := ⟨fun w => Below W.heap.size W w, wr, h.below, fun h k => below_step h k⟩
    have j1 : ∀ i : IdxC c, i.at.cell? ⟨b1, o1 + k * 3 + 1, none⟩ = some (.string (bs t)) := fun i => (i.prop.cell (p := ⟨b1, o1 + k * 3 + 1, none⟩) hb1).trans HQ.out.1
    refine wp_region_mixC (c := c) [0, 0, 0, 0, 0, 0, 2, 0, 0, 0, 0, 0, 0, 2, 0] [0, 1, 2, 3, 4, 5, 7, 8, 9, 10, 11, 12, 6, 13, 14] (by kernel_rfl) (by kernel_rfl) rfl ?_
    iterate 12 (refine wpMixC_calm (fun K hK => ?_); go_simp; refine hK _ ?_; clear hK K)
    refine wpMixC_own (fun wa hb K hK => ?_)
    replace h := h.up hb
    clear hb
    go_simp
    go_at_call 15
    refine (lg_compact t h HI.out HV.out.1 HV.out.2).mono ?_
    clear h
    rintro _ wb ⟨rfl, h⟩
    replace h := h.perm (List.Perm.refl _)
    refine ⟨_, rfl, h.below, hK _ _ ?_⟩
    clear hK K
    refine wpMixC_own (fun wa hb K hK => ?_)
    replace h := h.up hb
    clear hb
    go_simp
    go_at_call 30
    refine (rl_compact t h (List.mem_cons_self) HV.out.1 HV.out.2).mono ?_
    clear h
    rintro _ wb ⟨rfl, h⟩
    refine ⟨_, rfl, h.below, hK _ _ ?_⟩
    clear hK K
    iterate 1 (refine wpMixC_calm (fun K hK => ?_); go_simp; refine hK _ ?_; clear hK K)
    refine wpMixC_nil (fun wd hb => ?_)
    replace h := h.up hb
    clear hb
    have HT := Lib.hid (show lgX lg g ∈ [rX r s', rlX rl r, lgX lg g] by simp)
    have HT2 := Lib.hid (show rlX rl r ∈ [rX r s', rlX rl r, lgX lg g] by simp)
    have HT3 := Lib.hid (show rX r s' ∈ [rX r s', rlX rl r, lgX lg g] by simp)
    go_wp2_with fail
    refine (lg_records h HT.out HF.out.1 HF.out.2.1).mono ?_
    clear h
    rintro _ wx ⟨vx, Yx, rfl, h, hsx⟩
    go_wp2_with fail
    refine (rl_records (s := s') h (List.mem_append_right _ HT3.out) (List.mem_append_right _ HT2.out) HF.out.1 HF.out.2.1).mono ?_
    clear h
    rintro _ wy ⟨vy, Yy, rfl, h, hsy⟩
    have stx := h.strs hsx (fun x hx => List.mem_append_right _ (List.mem_append_left _ hx))
    have sty := h.strs hsy (fun x hx => List.mem_append_left _ hx)
    replace h := (h.sub (List.sublist_append_right _ _)).sub (List.sublist_append_right _ _)
    clear hsx hsy
    go_wp2_with fail
    refine (same_any _ _ _ _ _ stx sty (by have := recs_count _ HF.out.1; omega)).mono ?_
    clear stx sty
    rintro _ wz ⟨rfl, hb⟩
    replace h := h.up hb
    clear hb
    rw [show decide (recs s' = recs s') = true from decide_eq_true rfl]
    go_wp2_with fail
    refine (lg_durable h HT.out HF.out.1 HF.out.2.1).mono ?_
    clear h
    rintro _ wu ⟨rfl, h, _⟩
    go_wp2_with fail
    refine (rl_durable (s := s') h HT3.out HT2.out HF.out.1 HF.out.2.1).mono ?_
    clear h
    rintro _ wv ⟨rfl, h⟩
    generalize ((durs s').length : Int) = nd
    go_wp2_with fail
    refine (dk_contents h HF.out.1).mono ?_
    clear h
    rintro _ ws ⟨rfl, h, _⟩
    go_wp2_with fail
    refine (rk_contents (s := s') h HT3.out HF.out.1).mono ?_
    clear h
    rintro _ wt ⟨rfl, h⟩
    generalize bs (contV s') = ct
    go_wp2
    go_roundw
    case rel => exact ⟨k + 1, s', _, _, rfl, rfl, rfl, rfl, by go_num, by omega, h, HF.out.1, HF.out.2.1, HF.out.2.2⟩
    case measure => simp [intOf]; omega
  have e2 : (kk == 2) = false := by simpa using k2
  by_cases k3 : kk = 3
  · subst k3
    obtain ⟨ea, s1, eb, s2, hv1, hv2, f1, z1, f2, z2, d2⟩ := crash_up s nn hf hz
    have HS2 : Hid (Fit s2 ∧ 1 ≤ s2.sz ∧ s2.down = false) := Lib.hid ⟨f2, by omega, d2 hd⟩
    have HV := Lib.hid (And.intro hf (And.intro hv1 (And.intro hv2 (And.intro f1 z1))))
    clear hf hz hd hv1 hv2 f1 z1 f2 z2 d2
    have HU := Lib.hid (show lgX lg g ∈ [rX r s1, rlX rl r, lgX lg g] by simp)
    have HU2 := Lib.hid (show rlX rl r ∈ [rX r s1, rlX rl r, lgX lg g] by simp)
    have HU3 := Lib.hid (show rX r s1 ∈ [rX r s1, rlX rl r, lgX lg g] by simp)
    go_upto_region 26 with fail
    clear p0
    let c : Cls := ⟨fun w => Below W.heap.size W w, wr, h.below, fun h k => below_step h k⟩
    have j2 : ∀ i : IdxC c, i.at.cell? ⟨b1, o1 + k * 3 + 2, none⟩ = some (.int .i64 nn) := fun i => (i.prop.cell (p := ⟨b1, o1 + k * 3 + 2, none⟩) hb1).trans HQ.out.2
    refine wp_region_mixC (c := c) [0, 0, 0, 0, 0, 0, 2, 0, 0, 0, 0, 0, 0, 2, 0, 0, 0, 2, 0, 0, 2, 0, 0, 0, 0, 0, 2, 0, 2, 0, 0] [0, 1, 2, 3, 4, 5, 7, 8, 9, 10, 11, 12, 6, 13, 14, 15, 16, 19, 17, 18, 20, 21, 22, 23, 24, 25, 27, 26, 28, 29, 30] (by kernel_rfl) (by kernel_rfl) rfl ?_
    iterate 12 (refine wpMixC_calm (fun K hK => ?_); go_simp; refine hK _ ?_; clear hK K)
    refine wpMixC_own (fun wa hb K hK => ?_)
    replace h := h.up hb
    clear hb
    go_simp
    go_at_call 21
    refine (dk_crash nn h HV.out.1 HV.out.2.1).mono ?_
    clear h
    rintro _ wb ⟨rfl, h⟩
    refine ⟨_, rfl, h.below, hK _ _ ?_⟩
    clear hK K
    refine wpMixC_own (fun wa hb K hK => ?_)
    replace h := h.up hb
    clear hb
    go_simp
    go_at_call 31
    refine (rk_crash nn h HV.out.1 HV.out.2.1).mono ?_
    clear h
    rintro _ wb ⟨rfl, h⟩
    refine ⟨_, rfl, h.below, hK _ _ ?_⟩
    clear hK K
    iterate 4 (refine wpMixC_calm (fun K hK => ?_); go_simp; refine hK _ ?_; clear hK K)
    refine wpMixC_own (fun wa hb K hK => ?_)
    replace h := h.up hb
    clear hb
    go_simp
    go_at_call 14
    refine (lg_records h HU.out HV.out.2.2.2.1 HV.out.2.2.2.2).mono ?_
    clear h
    rintro _ wb ⟨vx, Yx, rfl, h, hsx⟩
    obtain ⟨Ax, capx, rfl, _⟩ := h.strs hsx (fun x hx => List.mem_append_left _ hx)
    replace h := h.sub (List.sublist_append_right _ _)
    clear hsx
    refine ⟨_, rfl, h.below, hK _ _ ?_⟩
    clear hK K
    iterate 1 (refine wpMixC_calm (fun K hK => ?_); go_simp; refine hK _ ?_; clear hK K)
    refine wpMixC_own (fun wa hb K hK => ?_)
    replace h := h.up hb
    clear hb
    go_simp
    go_at_call 32
    refine (rl_records (s := s1) h HU3.out HU2.out HV.out.2.2.2.1 HV.out.2.2.2.2).mono ?_
    clear h
    rintro _ wb ⟨vy, Yy, rfl, h, hsy⟩
    obtain ⟨Ay, capy, rfl, _⟩ := h.strs hsy (fun x hx => List.mem_append_left _ hx)
    replace h := h.sub (List.sublist_append_right _ _)
    clear hsy
    refine ⟨_, rfl, h.below, hK _ _ ?_⟩
    clear hK K
    generalize hnr : (recs s1).length = nr
    clear hnr
    iterate 6 (refine wpMixC_calm (fun K hK => ?_); go_simp; refine hK _ ?_; clear hK K)
    refine wpMixC_own (fun wa hb K hK => ?_)
    replace h := h.up hb
    clear hb
    go_simp
    go_at_call 22
    refine (dk_restart h HV.out.2.2.1).mono ?_
    clear h
    rintro _ wb ⟨rfl, h⟩
    refine ⟨_, rfl, h.below, hK _ _ ?_⟩
    clear hK K
    refine wpMixC_own (fun wa hb K hK => ?_)
    replace h := h.up hb
    clear hb
    go_simp
    go_at_call 33
    refine (rk_restart h HV.out.2.2.2.1 HV.out.2.2.1).mono ?_
    clear h
    rintro _ wb ⟨rfl, h⟩
    refine ⟨_, rfl, h.below, hK _ _ ?_⟩
    clear hK K
    iterate 2 (refine wpMixC_calm (fun K hK => ?_); go_simp; refine hK _ ?_; clear hK K)
    refine wpMixC_nil (fun wd hb => ?_)
    replace h := h.up hb
    clear hb
    go_wp2_with fail
    refine (atx_open h HS2.out.1 HS2.out.2.1 HS2.out.2.2).mono ?_
    clear h
    rintro _ wo ⟨lg2, rfl, h⟩
    replace h := (h.sub (show [lgX lg2 g, rX r s2].Sublist _ from List.Sublist.cons_cons _ (List.Sublist.cons_cons _ (List.nil_sublist _)))).perm (List.Perm.swap _ _ _)
    go_wp2_with fail
    refine (atx_ropen h HS2.out.1 HS2.out.2.1 HS2.out.2.2).mono ?_
    clear h
    rintro _ wp ⟨rl2, rfl, h⟩
    have HF : Hid (Fit (opened s2) ∧ 1 ≤ (opened s2).sz ∧ (opened s2).down = false) := Lib.hid (by
      obtain ⟨k1, k2, k3⟩ := opened_fit _ HS2.out.1 HS2.out.2.2
      exact ⟨k1, by rw [k2]; exact HS2.out.2.1, k3⟩)
    generalize opened s2 = st at *
    have HT := Lib.hid (show lgX lg2 g ∈ [rX r st, rlX rl2 r, lgX lg2 g] by simp)
    have HT2 := Lib.hid (show rlX rl2 r ∈ [rX r st, rlX rl2 r, lgX lg2 g] by simp)
    have HT3 := Lib.hid (show rX r st ∈ [rX r st, rlX rl2 r, lgX lg2 g] by simp)
    go_wp2_with fail
    refine (lg_records h HT.out HF.out.1 HF.out.2.1).mono ?_
    clear h
    rintro _ wx ⟨vx, Yx, rfl, h, hsx⟩
    go_wp2_with fail
    refine (rl_records (s := st) h (List.mem_append_right _ HT3.out) (List.mem_append_right _ HT2.out) HF.out.1 HF.out.2.1).mono ?_
    clear h
    rintro _ wy ⟨vy, Yy, rfl, h, hsy⟩
    have stx := h.strs hsx (fun x hx => List.mem_append_right _ (List.mem_append_left _ hx))
    have sty := h.strs hsy (fun x hx => List.mem_append_left _ hx)
    replace h := (h.sub (List.sublist_append_right _ _)).sub (List.sublist_append_right _ _)
    clear hsx hsy
    go_wp2_with fail
    refine (same_any _ _ _ _ _ stx sty (by have := recs_count _ HF.out.1; omega)).mono ?_
    clear stx sty
    rintro _ wz ⟨rfl, hb⟩
    replace h := h.up hb
    clear hb
    rw [show decide (recs st = recs st) = true from decide_eq_true rfl]
    go_wp2_with fail
    refine (lg_durable h HT.out HF.out.1 HF.out.2.1).mono ?_
    clear h
    rintro _ wu ⟨rfl, h, _⟩
    go_wp2_with fail
    refine (rl_durable (s := st) h HT3.out HT2.out HF.out.1 HF.out.2.1).mono ?_
    clear h
    rintro _ wv ⟨rfl, h⟩
    generalize ((durs st).length : Int) = nd
    go_wp2_with fail
    refine (dk_contents h HF.out.1).mono ?_
    clear h
    rintro _ ws ⟨rfl, h, _⟩
    go_wp2_with fail
    refine (rk_contents (s := st) h HT3.out HF.out.1).mono ?_
    clear h
    rintro _ wt ⟨rfl, h⟩
    generalize bs (contV st) = ct
    go_wp2
    go_roundw
    case rel => exact ⟨k + 1, st, _, _, rfl, rfl, rfl, rfl, by go_num, by omega, h, HF.out.1, HF.out.2.1, HF.out.2.2⟩
    case measure => simp [intOf]; omega
  have e3 : (kk == 3) = false := by simpa using k3
  have HS2 : Hid (Fit s ∧ 1 ≤ s.sz ∧ s.down = false) := Lib.hid ⟨hf, hz, hd⟩
  clear hf hz hd
  by_cases k4 : kk = 4
  · subst k4
    go_wp2_with fail
    refine (atx_open h HS2.out.1 HS2.out.2.1 HS2.out.2.2).mono ?_
    clear h
    rintro _ wo ⟨lg2, rfl, h⟩
    replace h := (h.sub (show [lgX lg2 g, rX r s].Sublist _ from List.Sublist.cons_cons _ (List.Sublist.cons_cons _ (List.nil_sublist _)))).perm (List.Perm.swap _ _ _)
    go_wp2_with fail
    refine (atx_ropen h HS2.out.1 HS2.out.2.1 HS2.out.2.2).mono ?_
    clear h
    rintro _ wp ⟨rl2, rfl, h⟩
    have HF : Hid (Fit (opened s) ∧ 1 ≤ (opened s).sz ∧ (opened s).down = false) := Lib.hid (by
      obtain ⟨k1, k2, k3⟩ := opened_fit _ HS2.out.1 HS2.out.2.2
      exact ⟨k1, by rw [k2]; exact HS2.out.2.1, k3⟩)
    generalize opened s = st at *
    have HT := Lib.hid (show lgX lg2 g ∈ [rX r st, rlX rl2 r, lgX lg2 g] by simp)
    have HT2 := Lib.hid (show rlX rl2 r ∈ [rX r st, rlX rl2 r, lgX lg2 g] by simp)
    have HT3 := Lib.hid (show rX r st ∈ [rX r st, rlX rl2 r, lgX lg2 g] by simp)
    go_wp2_with fail
    refine (lg_records h HT.out HF.out.1 HF.out.2.1).mono ?_
    clear h
    rintro _ wx ⟨vx, Yx, rfl, h, hsx⟩
    go_wp2_with fail
    refine (rl_records (s := st) h (List.mem_append_right _ HT3.out) (List.mem_append_right _ HT2.out) HF.out.1 HF.out.2.1).mono ?_
    clear h
    rintro _ wy ⟨vy, Yy, rfl, h, hsy⟩
    have stx := h.strs hsx (fun x hx => List.mem_append_right _ (List.mem_append_left _ hx))
    have sty := h.strs hsy (fun x hx => List.mem_append_left _ hx)
    replace h := (h.sub (List.sublist_append_right _ _)).sub (List.sublist_append_right _ _)
    clear hsx hsy
    go_wp2_with fail
    refine (same_any _ _ _ _ _ stx sty (by have := recs_count _ HF.out.1; omega)).mono ?_
    clear stx sty
    rintro _ wz ⟨rfl, hb⟩
    replace h := h.up hb
    clear hb
    rw [show decide (recs st = recs st) = true from decide_eq_true rfl]
    go_wp2_with fail
    refine (lg_durable h HT.out HF.out.1 HF.out.2.1).mono ?_
    clear h
    rintro _ wu ⟨rfl, h, _⟩
    go_wp2_with fail
    refine (rl_durable (s := st) h HT3.out HT2.out HF.out.1 HF.out.2.1).mono ?_
    clear h
    rintro _ wv ⟨rfl, h⟩
    generalize ((durs st).length : Int) = nd
    go_wp2_with fail
    refine (dk_contents h HF.out.1).mono ?_
    clear h
    rintro _ ws ⟨rfl, h, _⟩
    go_wp2_with fail
    refine (rk_contents (s := st) h HT3.out HF.out.1).mono ?_
    clear h
    rintro _ wt ⟨rfl, h⟩
    generalize bs (contV st) = ct
    go_wp2
    go_roundw
    case rel => exact ⟨k + 1, st, _, _, rfl, rfl, rfl, rfl, by go_num, by omega, h, HF.out.1, HF.out.2.1, HF.out.2.2⟩
    case measure => simp [intOf]; omega
  have e4 : (kk == 4) = false := by simpa using k4
  have HF : Hid (Fit s ∧ 1 ≤ s.sz ∧ s.down = false) := HS2
  clear k0 k1 k2 k3 k4
  have HT := Lib.hid (show lgX lg g ∈ [rX r s, rlX rl r, lgX lg g] by simp)
  have HT2 := Lib.hid (show rlX rl r ∈ [rX r s, rlX rl r, lgX lg g] by simp)
  have HT3 := Lib.hid (show rX r s ∈ [rX r s, rlX rl r, lgX lg g] by simp)
  go_wp2_with fail
  refine (lg_records h HT.out HF.out.1 HF.out.2.1).mono ?_
  clear h
  rintro _ wx ⟨vx, Yx, rfl, h, hsx⟩
  go_wp2_with fail
  refine (rl_records (s := s) h (List.mem_append_right _ HT3.out) (List.mem_append_right _ HT2.out) HF.out.1 HF.out.2.1).mono ?_
  clear h
  rintro _ wy ⟨vy, Yy, rfl, h, hsy⟩
  have stx := h.strs hsx (fun x hx => List.mem_append_right _ (List.mem_append_left _ hx))
  have sty := h.strs hsy (fun x hx => List.mem_append_left _ hx)
  replace h := (h.sub (List.sublist_append_right _ _)).sub (List.sublist_append_right _ _)
  clear hsx hsy
  go_wp2_with fail
  refine (same_any _ _ _ _ _ stx sty (by have := recs_count _ HF.out.1; omega)).mono ?_
  clear stx sty
  rintro _ wz ⟨rfl, hb⟩
  replace h := h.up hb
  clear hb
  rw [show decide (recs s = recs s) = true from decide_eq_true rfl]
  go_wp2_with fail
  refine (lg_durable h HT.out HF.out.1 HF.out.2.1).mono ?_
  clear h
  rintro _ wu ⟨rfl, h, _⟩
  go_wp2_with fail
  refine (rl_durable (s := s) h HT3.out HT2.out HF.out.1 HF.out.2.1).mono ?_
  clear h
  rintro _ wv ⟨rfl, h⟩
  generalize ((durs s).length : Int) = nd
  go_wp2_with fail
  refine (dk_contents h HF.out.1).mono ?_
  clear h
  rintro _ ws ⟨rfl, h, _⟩
  go_wp2_with fail
  refine (rk_contents (s := s) h HT3.out HF.out.1).mono ?_
  clear h
  rintro _ wt ⟨rfl, h⟩
  generalize bs (contV s) = ct
  go_wp2
  go_roundw
  case rel => exact ⟨k + 1, s, _, _, rfl, rfl, rfl, rfl, by go_num, by omega, h, HF.out.1, HF.out.2.1, HF.out.2.2⟩
  case measure => simp [intOf]; omega
theorem walPlays_walk (sz : Int) (A : Option Addr) (n cap : Nat) (os : List OpV) (W : World) {p0 : Prop} (_ : p0) (hz : Script W A n os) : Calls Try.prog 8 #[.int .i64 sz, .slice A n cap] W fun e w' => e = .returned (.bool true) ∧ Below W.heap.size W w' := by
  by_cases h : 1 ≤ sz ∧ sz ≤ 262144
  · exact walPlays_yes sz A n cap os W hz h.1 h.2
  · exact walPlays_no sz A n cap W (by omega)
end Go.Proofs.Ytjcojgblnbhejaa
