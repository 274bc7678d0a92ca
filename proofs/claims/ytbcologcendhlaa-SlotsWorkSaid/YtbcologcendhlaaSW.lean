/- SlotsWork: the walk. -/
import Derived.Test.YtbcologcendhlaaSU
import Derived.Test.YtbcologcendhlaaSS
import Derived.Test.YtbcologcendhlaaXN
namespace Go.Proofs.Ytbcologcendhlaa
open Go.ChangeShapes Go.WideShapes Go.ChangeAt Go.RowKit
attribute [local go_sem] ownAtC ownUponC

def WorkRel (total : Int) (R : KL) (l : OL) (w : World) (p br bu r : Nat) (A2 : Option Addr) (c2 : Nat) (i : Value) (wr : World) : Prop := ∃ (k : Nat) (v3 : Value), i = .int .i64 k ∧ k ≤ l.length ∧ Two w wr p br bu k r A2 c2 v3 (playV ⟨total, R, []⟩ (l.take k)) (playV ⟨total, R, []⟩ (l.take k))
theorem cut_join {st st4 : SS} {er : Int × SS} {kk : Int} {v : Value} (hA : kk = 0 → v = .int .i64 er.1 ∧ st4 = er.2) (hB : kk ≠ 0 → v = .int .i64 0 ∧ st4 = st) (hO : kk ≠ 0 → er = (0, st)) : v = .int .i64 er.1 ∧ st4 = er.2 := by
  by_cases h : kk = 0
  · exact hA h
  · rw [hO h]
    exact hB h
set_option maxRecDepth 100000 in
set_option maxHeartbeats 2000000 in
theorem slotsWork_walk (total least : Int) (A : Option Addr) (n ca : Nat) (R : KL) (B : Option Addr) (m cb : Nat) (l : OL) (W : World) {p0 p1 : Prop} (_ : p0) (_ : p1) (hr : RArg W A n ca R) (hk : KArg W B m cb l) : Calls Try.prog 3 #[.int .i64 total, .int .i64 least, .slice A n ca, .slice B m cb] W fun e w' => e = .returned (.bool true) ∧ Below W.heap.size W w' := by
  obtain ⟨rfl, hR, hRn, _⟩ := hr
  obtain ⟨rfl, hl, _, _⟩ := hk
  have HR := Lib.hid hR
  have HL := Lib.hid hl
  have HN := Lib.hid hRn
  have HSM := Lib.hid (smalls_any R l A B ca cb W hR hl)
  clear hR hl hRn
  go_enter Try.func3, Try.ntmps3
  go_wp2_with fail
  refine HSM.out.mono ?_
  rintro _ w1 ⟨r, rfl, hr1, hb1⟩
  clear HSM
  have HB1 := Lib.hid hb1
  clear hb1
  cases r
  · clear hr1
    go_wp2_with fail
    refine (awake_any _).mono ?_
    rintro _ w4 ⟨rfl, hb⟩
    go_wp2
    go_ret
    exact ⟨rfl, below_step HB1.out hb⟩
  have HSO := Lib.hid (hr1 rfl)
  clear hr1
  have HCH := Lib.hid (fun w (h : Below W.heap.size W w) => check_any total least A ca R w (HR.out.next h) (small_names HSO.out))
  have HRC := Lib.hid (fun w (h : Below W.heap.size W w) => rcheck_any total least A ca R w (HR.out.next h))
  by_cases hc : checkV total least R = 0
  case neg =>
    have hne : (checkV total least R != 0) = true := bne_iff_ne.2 hc
    clear hc
    generalize checkV total least R = code at *
    have HNW := Lib.hid (new_no total least code A R.length ca w1 (Lib.hid (HCH.out w1 HB1.out)) hne)
    have HRN := Lib.hid (fun w h => rnew_no total least code A R.length ca w (Lib.hid (HRC.out w h)) hne)
    go_wp2_with fail
    refine HNW.out.mono ?_
    rintro _ w2 ⟨rfl, hb2⟩
    have HB2 := Lib.hid (below_step HB1.out hb2)
    clear hb2
    go_wp2_with fail
    refine (HRN.out _ HB2.out).mono ?_
    rintro _ w3 ⟨rfl, hb3⟩
    have HB3 := Lib.hid (below_step HB2.out hb3)
    clear hb3
    go_wp2_with fail
    refine (HCH.out _ HB3.out).mono ?_
    rintro _ w4 ⟨rfl, hb4⟩
    have HB4 := Lib.hid (below_step HB3.out hb4)
    clear hb4
    go_wp2_with fail
    refine (HCH.out _ HB4.out).mono ?_
    rintro _ w5 ⟨rfl, hb5⟩
    have HB5 := Lib.hid (below_step HB4.out hb5)
    clear hb5
    go_wp2_with fail
    refine (awake_any _).mono ?_
    rintro _ w6 ⟨rfl, hb⟩
    go_wp2
    go_ret
    exact ⟨rfl, below_step HB5.out hb⟩
  have HCV := Lib.hid hc
  rw [hc] at HCH HRC
  have h32 := (check_ok hc).len
  have HG := Lib.hid (Good.made (check_ok hc))
  clear hc
  have HNW := Lib.hid (s1_new (w0 := W) total least A ca R HB1.out (HR.out.next HB1.out) (small_names HSO.out) HCV.out)
  have HRN := Lib.hid (fun w h => rnew_yes total least A ca R w (HR.out.next h) HN.out h32 (Lib.hid (HRC.out w h)))
  have h300 : (l.length : Int) ≤ 300 := by have := HSO.out.2.1; omega
  clear h32
  go_wp2_with fail
  refine HNW.out.mono ?_
  rintro _ w2 ⟨p, br, bu, rfl, h2⟩
  have H2 := Lib.hid h2
  clear h2
  go_wp2_with fail
  refine (HRN.out _ H2.out.below).mono ?_
  intro e w3 h3
  obtain ⟨r, A2, c2, rfl, h4⟩ := two_made H2.out h3
  have H3 := Lib.hid h4
  clear h3 h4
  go_wp2_with fail
  refine (HCH.out _ H3.out.one.below).mono ?_
  rintro _ w4 ⟨rfl, hb4⟩
  have H4 := Lib.hid (H3.out.up hb4)
  clear hb4 H3 H2 HNW HRN
  go_wp2
  go_loopw [74] (WorkRel total R l W p br bu r A2 c2) (fun i _ => l.length - (intOf i).toNat)
  case atStart => exact ⟨0, _, rfl, by omega, H4.out⟩
  case round =>
  clear H4
  obtain ⟨k, v3, rfl, hk, h⟩ := hrel
  by_cases hlt : (k : Int) < l.length
  case neg =>
    have HE := Lib.hid h.one.below
    clear h
    go_wp2_with fail
    refine (awake_any _).mono ?_
    rintro _ w6 ⟨rfl, hb⟩
    go_wp2
    go_ret
    exact ⟨rfl, below_step HE.out hb⟩
  -- one round
  obtain ⟨b1, o1, rfl, hb1, q0, q1⟩ := kseg HL.out k (by omega)
  have hx := HSO.out.2.2.2 k (by omega)
  have htk : l.take (k + 1) = l.take k ++ [l.getD k (0, [])] := by
    rw [List.take_succ_eq_append_getElem (by omega), List.getD_eq_getElem?_getD, List.getElem?_eq_getElem (by omega)]
    rfl
  have hgd := good_play HG.out (l.take k)
  have hU := play_len ⟨total, R, []⟩ (l.take k)
  have hU0 : (⟨total, R, []⟩ : SS).U.length = 0 := rfl
  rw [List.length_take, hU0] at hU
  have hP : (opV (playV ⟨total, R, []⟩ (l.take k)) (l.getD k (0, []))).2 = playV ⟨total, R, []⟩ (l.take (k + 1)) := by rw [htk, play_snoc]
  generalize l.getD k (0, []) = e at *
  obtain ⟨kk, f⟩ := e
  simp only at q0 q1 hx
  have HP := Lib.hid hP
  clear htk hP hU0
  generalize playV ⟨total, R, []⟩ (l.take k) = st at *
  have hU2 := op_len st (kk, f)
  have HGD := Lib.hid (And.intro hgd (show st.U.length ≤ 1000000 by omega))
  have HG2 := Lib.hid (And.intro (good_op hgd (kk, f)) (show (opV st (kk, f)).2.U.length ≤ 1000000 by omega))
  have hfl : f.length ≤ 1000000 := by omega
  have HD := Lib.hid (two_done kk f h hgd hfl (by omega))
  have HQ := Lib.hid (fun w (hw : Below W.heap.size W w) => And.intro ((hw.cell (p := ⟨b1, o1 + k * 2, none⟩) hb1).trans q0) (And.intro ((hw.cell (p := ⟨b1, o1 + k * 2 + 1, none⟩) hb1).trans q1) (Nat.lt_of_lt_of_le hb1 hw.size)))
  clear q0 q1
  obtain ⟨q0, q1, hb2⟩ := HQ.out wr h.one.below
  have hkw : IntKind.i64.wrap ((k : Int) + 1) = (k : Int) + 1 := by rw [IntKind.wrap_i64]; omega
  clear hgd hU hU2 h hx
  have ho := op_none st kk f
  have HO := Lib.hid ho
  clear ho
  go_wp2_with fail
  refine HD.out.mono ?_
  rintro _ w2 ⟨rfl, h2⟩
  have H2 := Lib.hid h2
  clear h2 q0 q1 hb2 HD
  obtain ⟨q0, q1, hb2⟩ := HQ.out w2 H2.out.one.below
  go_upto_if 88 with fail
  go_cut [15] from 89 to 95 (fun sc wc => ∃ v4 st4, Two W wc p br bu (k + 1) r A2 c2 v4 (opV st (kk, f)).2 st4 ∧ (kk = 0 → sc = .int .i64 (opV st (kk, f)).1 ∧ st4 = (opV st (kk, f)).2) ∧ (kk ≠ 0 → sc = .int .i64 0 ∧ st4 = st))
  case first =>
    by_cases k0 : kk = 0
    · subst k0
      go_wp2_with fail
      refine (two_acquire f H2.out HGD.out.1 HGD.out.2).mono ?_
      rintro _ w3 ⟨rfl, v4, h3⟩
      have H3 := Lib.hid h3
      clear h3 q0 q1 hb2 H2
      go_wp2
      go_meet
      exact ⟨v4, _, H3.out, fun _ => ⟨rfl, rfl⟩, fun h => absurd rfl h⟩
    · have n0 : (kk == 0) = false := beq_eq_false_iff_ne.2 k0
      have K0 := Lib.hid k0
      clear k0
      go_wp2
      go_meet
      exact ⟨_, _, H2.out, fun h => absurd h K0.out, fun _ => ⟨rfl, rfl⟩⟩
  case rest =>
  obtain ⟨v4, st4, h3, hA, hB⟩ := hcut
  have H3 := Lib.hid h3
  have HA := Lib.hid hA
  have HB := Lib.hid hB
  clear h3 hA hB q0 q1 hb2 H2
  obtain ⟨q0, q1, hb2⟩ := HQ.out _ H3.out.one.below
  go_upto_if 101 with fail
  go_cut [15] from 102 to 108 (fun sc wc => sc = .int .i64 (opV st (kk, f)).1 ∧ ∃ v5, Two W wc p br bu (k + 1) r A2 c2 v5 (opV st (kk, f)).2 (opV st (kk, f)).2)
  case first =>
    by_cases k1 : kk = 1
    · subst k1
      obtain ⟨rfl, rfl⟩ := HB.out (by decide)
      go_wp2_with fail
      refine (two_release f H3.out HGD.out.1 HGD.out.2).mono ?_
      rintro _ w4 ⟨rfl, v5, h4⟩
      have H4 := Lib.hid h4
      clear h4 q0 q1 hb2 H3
      go_wp2
      go_meet
      exact ⟨rfl, v5, H4.out⟩
    · have n1 : (kk == 1) = false := beq_eq_false_iff_ne.2 k1
      have HE := Lib.hid (cut_join HA.out HB.out (fun k0 => HO.out k0 k1))
      clear k1
      go_wp2
      go_meet
      have h3 := H3.out
      rw [HE.out.2] at h3
      exact ⟨HE.out.1, v4, h3⟩
  case rest =>
  obtain ⟨rfl, v5, h3⟩ := hcut
  clear HA HB H3 q0 q1 hb2
  have H3 := Lib.hid h3
  clear h3
  obtain ⟨q0, q1, hb2⟩ := HQ.out _ H3.out.one.below
  generalize opV st (kk, f) = rr at *
  go_wp2_with fail
  refine (two_total H3.out HG2.out.1).mono ?_
  rintro _ w6 ⟨rfl, h6⟩
  have H6 := Lib.hid h6
  clear h6 H3
  go_wp2_with fail
  refine (two_rtotal H6.out HG2.out.1 HG2.out.2).mono ?_
  rintro _ w7 ⟨rfl, h7⟩
  have H7 := Lib.hid h7
  clear h7 H6
  go_upto_region 18 with fail
  have HU1 := Lib.hid (fun w (hw : Below w7.heap.size w7 w) => two_used f (H7.out.up hw) HG2.out.1 hfl)
  have HU2 := Lib.hid (fun w (hw : Below w7.heap.size w7 w) => two_rused f (H7.out.up hw) HG2.out.2)
  have HF1 := Lib.hid (fun w (hw : Below w7.heap.size w7 w) => two_free f (H7.out.up hw) HG2.out.1 hfl)
  have HF2 := Lib.hid (fun w (hw : Below w7.heap.size w7 w) => two_rfree f (H7.out.up hw) HG2.out.1 HG2.out.2)
  let kc : Cls := ⟨fun w => Below w7.heap.size w7 w, w7, Below.refl _ _, fun h k => below_step h k⟩
  have j1 : ∀ i : IdxC kc, i.at.cell? ⟨b1, o1 + k * 2 + 1, none⟩ = some (.string (bs f)) := fun i => (HQ.out i.at (H7.out.up i.prop).one.below).2.1
  refine wp_region_mixC (c := kc) (List.replicate 47 0) (List.range 47) (by kernel_rfl) (by kernel_rfl) rfl ?_
  iterate 20 (refine wpMixC_calm (fun K hK => ?_); go_simp; refine hK _ ?_; clear hK K)
  refine wpMixC_calm (fun K hK => ?_)
  go_simp
  apply Exists.intro
  refine ⟨fun i => ?_, hK _ ?_⟩
  · go_at_call 18
    refine (HU1.out _ i.prop).mono ?_
    rintro _ w8 ⟨rfl, hb8⟩
    exact ⟨rfl, hb8⟩
  clear hK K
  iterate 6 (refine wpMixC_calm (fun K hK => ?_); go_simp; refine hK _ ?_; clear hK K)
  refine wpMixC_calm (fun K hK => ?_)
  go_simp
  apply Exists.intro
  refine ⟨fun i => ?_, hK _ ?_⟩
  · go_at_call 19
    refine (HU2.out _ i.prop).mono ?_
    rintro _ w8 ⟨rfl, hb8⟩
    exact ⟨rfl, hb8⟩
  clear hK K
  iterate 9 (refine wpMixC_calm (fun K hK => ?_); go_simp; refine hK _ ?_; clear hK K)
  refine wpMixC_calm (fun K hK => ?_)
  go_simp
  apply Exists.intro
  refine ⟨fun i => ?_, hK _ ?_⟩
  · go_at_call 20
    refine (HF1.out _ i.prop).mono ?_
    rintro _ w8 ⟨rfl, hb8⟩
    exact ⟨rfl, hb8⟩
  clear hK K
  iterate 6 (refine wpMixC_calm (fun K hK => ?_); go_simp; refine hK _ ?_; clear hK K)
  refine wpMixC_calm (fun K hK => ?_)
  go_simp
  apply Exists.intro
  refine ⟨fun i => ?_, hK _ ?_⟩
  · go_at_call 21
    refine (HF2.out _ i.prop).mono ?_
    rintro _ w8 ⟨rfl, hb8⟩
    exact ⟨rfl, hb8⟩
  clear hK K
  iterate 2 (refine wpMixC_calm (fun K hK => ?_); go_simp; refine hK _ ?_; clear hK K)
  refine wpMixC_nil (fun w9 hb9 => ?_)
  have H9 := Lib.hid (H7.out.up hb9)
  clear hb9 j1 HU1 HU2 HF1 HF2 H7
  go_wp2
  go_roundw
  case rel => exact ⟨k + 1, _, by go_num, by omega, by rw [← HP.out]; exact H9.out⟩
  case measure => simp [intOf]; omega
end Go.Proofs.Ytbcologcendhlaa
